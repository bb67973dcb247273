/-
  DERIVED. GIVEN WITH THE SEED: THE CARDS: each row of YtlflpbflpcmckaaDoorRows.lean that lists a variable, with what it lists TIED to the program's text (the seventh form; the later family's looks); each row that meets fmt, with fmt's text TOLD by the authors' own Lean function (tested against real Go, not proved from fmt's source: count such statements apart). THE CARD IS WHAT COUNTS. Prove the row's statement (the work); the ties are given (YtlflpbflpcmckaaDoorTie.lean); close each card by the builder's one call (the guide's Derived/Test/ToyasCard.lean, 'card_holds'). Laid BY PROGRAM, IN A SANDBOX (cutbox-door.mjs). By AI agents, Wed Nov 11 2026. No macro, syntax, notation, axiom, sorry.
-/
import Derived.Test.YtlflpbflpcmckaaDoorRows
import GoSem.ClaimSeven
namespace Go.Proofs.YtlflpbflpcmckaaDoor
namespace Rows

/-- THE TIED CARD OF 'hbllaw6.XmlPairs'. -/
def xmlPairsCard : Claim7 := { stood := { row := xmlPairsRow, standIns := [], harness := (true, "b8acbd6ebbf4b70f0d9a2b7b9a5530d63ec0dcbf9a6e637653a6b10329cdef8a"), looks := true }, kinds := [], alts := [], laidByText := true, laidKinds := [.data, .data, .data, .data, .sentinel, .sentinel, .pinned], laidTests := true, laidLooks := .later }
def XmlPairsCardSaid : Prop := Claim7.holds Tryd.pinned (.plain (OpenSpec.ofChange xmlPairsSpec)) xmlPairsCard

/-- THE TIED CARD OF 'hbllaw6.XmlSpaces'. -/
def xmlSpacesCard : Claim7 := { stood := { row := xmlSpacesRow, standIns := [], harness := (true, "b8acbd6ebbf4b70f0d9a2b7b9a5530d63ec0dcbf9a6e637653a6b10329cdef8a"), looks := true }, kinds := [], alts := [], laidByText := true, laidKinds := [.data, .data, .data, .data, .sentinel, .sentinel, .pinned], laidTests := true, laidLooks := .later }
def XmlSpacesCardSaid : Prop := Claim7.holds Tryd.pinned (.plain (OpenSpec.ofChange xmlSpacesSpec)) xmlSpacesCard

/-- THE TIED CARD OF 'hbllaw6.XmlCuts'. -/
def xmlCutsCard : Claim7 := { stood := { row := xmlCutsRow, standIns := [], harness := (true, "b8acbd6ebbf4b70f0d9a2b7b9a5530d63ec0dcbf9a6e637653a6b10329cdef8a"), looks := true }, kinds := [], alts := [], laidByText := true, laidKinds := [.data, .data, .data, .data, .sentinel, .sentinel, .pinned], laidTests := true, laidLooks := .later }
def XmlCutsCardSaid : Prop := Claim7.holds Tryd.pinned (.plain (OpenSpec.ofChange xmlCutsSpec)) xmlCutsCard

/-- THE TIED CARD OF 'hbllaw6.XmlNames'. -/
def xmlNamesCard : Claim7 := { stood := { row := xmlNamesRow, standIns := [], harness := (true, "b8acbd6ebbf4b70f0d9a2b7b9a5530d63ec0dcbf9a6e637653a6b10329cdef8a"), looks := true }, kinds := [], alts := [], laidByText := true, laidKinds := [.data, .data, .data, .data, .sentinel, .sentinel, .pinned], laidTests := true, laidLooks := .later }
def XmlNamesCardSaid : Prop := Claim7.holds Tryd.pinned (.plain (OpenSpec.ofChange xmlNamesSpec)) xmlNamesCard

/-- THE TIED CARD OF 'hbllaw6.XmlTexts'. -/
def xmlTextsCard : Claim7 := { stood := { row := xmlTextsRow, standIns := [], harness := (true, "b8acbd6ebbf4b70f0d9a2b7b9a5530d63ec0dcbf9a6e637653a6b10329cdef8a"), looks := true }, kinds := [], alts := [], laidByText := true, laidKinds := [.data, .data, .data, .data, .sentinel, .sentinel, .pinned], laidTests := true, laidLooks := .later }
def XmlTextsCardSaid : Prop := Claim7.holds Tryd.pinned (.plain (OpenSpec.ofChange xmlTextsSpec)) xmlTextsCard

/-- THE TIED CARD OF 'hbllaw6.XmlInner'. -/
def xmlInnerCard : Claim7 := { stood := { row := xmlInnerRow, standIns := [], harness := (true, "b8acbd6ebbf4b70f0d9a2b7b9a5530d63ec0dcbf9a6e637653a6b10329cdef8a"), looks := true }, kinds := [], alts := [], laidByText := true, laidKinds := [.data, .data, .data, .data, .sentinel, .sentinel, .pinned], laidTests := true, laidLooks := .later }
def XmlInnerCardSaid : Prop := Claim7.holds Tryd.pinned (.plain (OpenSpec.ofChange xmlInnerSpec)) xmlInnerCard

/-- THE SECOND FORM's CARD OF 'hbllaw6.XmlPairs'. -/
def xmlPairsUptoCard : Claim7 := { stood := { row := xmlPairsUptoRow, standIns := [], harness := (true, "b8acbd6ebbf4b70f0d9a2b7b9a5530d63ec0dcbf9a6e637653a6b10329cdef8a"), looks := true }, kinds := [], alts := [], laidByText := true, laidKinds := [.data, .data, .data, .data, .sentinel, .sentinel, .pinned], laidTests := true, laidLooks := .later }
def XmlPairsUptoCardSaid : Prop := Claim7.holds Tryd.pinned (.plain (OpenSpec.upto xmlPairsSpec)) xmlPairsUptoCard

/-- THE SECOND FORM's CARD OF 'hbllaw6.XmlSpaces'. -/
def xmlSpacesUptoCard : Claim7 := { stood := { row := xmlSpacesUptoRow, standIns := [], harness := (true, "b8acbd6ebbf4b70f0d9a2b7b9a5530d63ec0dcbf9a6e637653a6b10329cdef8a"), looks := true }, kinds := [], alts := [], laidByText := true, laidKinds := [.data, .data, .data, .data, .sentinel, .sentinel, .pinned], laidTests := true, laidLooks := .later }
def XmlSpacesUptoCardSaid : Prop := Claim7.holds Tryd.pinned (.plain (OpenSpec.upto xmlSpacesSpec)) xmlSpacesUptoCard

/-- THE SECOND FORM's CARD OF 'hbllaw6.XmlCuts'. -/
def xmlCutsUptoCard : Claim7 := { stood := { row := xmlCutsUptoRow, standIns := [], harness := (true, "b8acbd6ebbf4b70f0d9a2b7b9a5530d63ec0dcbf9a6e637653a6b10329cdef8a"), looks := true }, kinds := [], alts := [], laidByText := true, laidKinds := [.data, .data, .data, .data, .sentinel, .sentinel, .pinned], laidTests := true, laidLooks := .later }
def XmlCutsUptoCardSaid : Prop := Claim7.holds Tryd.pinned (.plain (OpenSpec.upto xmlCutsSpec)) xmlCutsUptoCard

/-- THE SECOND FORM's CARD OF 'hbllaw6.XmlNames'. -/
def xmlNamesUptoCard : Claim7 := { stood := { row := xmlNamesUptoRow, standIns := [], harness := (true, "b8acbd6ebbf4b70f0d9a2b7b9a5530d63ec0dcbf9a6e637653a6b10329cdef8a"), looks := true }, kinds := [], alts := [], laidByText := true, laidKinds := [.data, .data, .data, .data, .sentinel, .sentinel, .pinned], laidTests := true, laidLooks := .later }
def XmlNamesUptoCardSaid : Prop := Claim7.holds Tryd.pinned (.plain (OpenSpec.upto xmlNamesSpec)) xmlNamesUptoCard

/-- THE SECOND FORM's CARD OF 'hbllaw6.XmlTexts'. -/
def xmlTextsUptoCard : Claim7 := { stood := { row := xmlTextsUptoRow, standIns := [], harness := (true, "b8acbd6ebbf4b70f0d9a2b7b9a5530d63ec0dcbf9a6e637653a6b10329cdef8a"), looks := true }, kinds := [], alts := [], laidByText := true, laidKinds := [.data, .data, .data, .data, .sentinel, .sentinel, .pinned], laidTests := true, laidLooks := .later }
def XmlTextsUptoCardSaid : Prop := Claim7.holds Tryd.pinned (.plain (OpenSpec.upto xmlTextsSpec)) xmlTextsUptoCard

/-- THE SECOND FORM's CARD OF 'hbllaw6.XmlInner'. -/
def xmlInnerUptoCard : Claim7 := { stood := { row := xmlInnerUptoRow, standIns := [], harness := (true, "b8acbd6ebbf4b70f0d9a2b7b9a5530d63ec0dcbf9a6e637653a6b10329cdef8a"), looks := true }, kinds := [], alts := [], laidByText := true, laidKinds := [.data, .data, .data, .data, .sentinel, .sentinel, .pinned], laidTests := true, laidLooks := .later }
def XmlInnerUptoCardSaid : Prop := Claim7.holds Tryd.pinned (.plain (OpenSpec.upto xmlInnerSpec)) xmlInnerUptoCard
end Rows
end Go.Proofs.YtlflpbflpcmckaaDoor
