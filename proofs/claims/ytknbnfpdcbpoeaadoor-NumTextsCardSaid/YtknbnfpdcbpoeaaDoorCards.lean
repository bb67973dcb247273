/-
  DERIVED. GIVEN WITH THE SEED: THE CARDS: each row of YtknbnfpdcbpoeaaDoorRows.lean that lists a variable, with what it lists TIED to the program's text (the seventh form; the later family's looks); each row that meets fmt, with fmt's text TOLD by the authors' own Lean function (tested against real Go, not proved from fmt's source: count such statements apart). THE CARD IS WHAT COUNTS. Prove the row's statement (the work); the ties are given (YtknbnfpdcbpoeaaDoorTie.lean); close each card by the builder's one call (the guide's Derived/Test/ToyasCard.lean, 'card_holds'). Laid BY PROGRAM, IN A SANDBOX (cutbox-door.mjs). By AI agents, Wed Nov 11 2026. No macro, syntax, notation, axiom, sorry.
-/
import Derived.Test.YtknbnfpdcbpoeaaDoorRows
import GoSem.ClaimSeven
namespace Go.Proofs.YtknbnfpdcbpoeaaDoor
namespace Rows

/-- THE TIED CARD OF 'hbllaw1.NumOrder'. -/
def numOrderCard : Claim7 := { stood := { row := numOrderRow, standIns := [], harness := (true, "280924fe4335078f78a79916ab7aed11b17b226f8957d6f5c74aca593e8ebe43"), looks := false }, kinds := [], alts := [], laidByText := true, laidKinds := [.data, .data, .data], laidTests := true, laidLooks := .later }
def NumOrderCardSaid : Prop := Claim7.holds Tryd.pinned (.plain (OpenSpec.ofChange numOrderSpec)) numOrderCard

/-- THE TIED CARD OF 'hbllaw1.NumGets'. -/
def numGetsCard : Claim7 := { stood := { row := numGetsRow, standIns := [], harness := (true, "280924fe4335078f78a79916ab7aed11b17b226f8957d6f5c74aca593e8ebe43"), looks := false }, kinds := [], alts := [], laidByText := true, laidKinds := [.data, .data, .data], laidTests := true, laidLooks := .later }
def NumGetsCardSaid : Prop := Claim7.holds Tryd.pinned (.plain (OpenSpec.ofChange numGetsSpec)) numGetsCard

/-- THE TIED CARD OF 'hbllaw1.NumSums'. -/
def numSumsCard : Claim7 := { stood := { row := numSumsRow, standIns := [], harness := (true, "280924fe4335078f78a79916ab7aed11b17b226f8957d6f5c74aca593e8ebe43"), looks := false }, kinds := [], alts := [], laidByText := true, laidKinds := [.data, .data, .data], laidTests := true, laidLooks := .later }
def NumSumsCardSaid : Prop := Claim7.holds Tryd.pinned (.plain (OpenSpec.ofChange numSumsSpec)) numSumsCard

/-- THE TIED CARD OF 'hbllaw1.NumVars'. -/
def numVarsCard : Claim7 := { stood := { row := numVarsRow, standIns := [], harness := (true, "280924fe4335078f78a79916ab7aed11b17b226f8957d6f5c74aca593e8ebe43"), looks := false }, kinds := [], alts := [], laidByText := true, laidKinds := [.data, .data, .data], laidTests := true, laidLooks := .later }
def NumVarsCardSaid : Prop := Claim7.holds Tryd.pinned (.plain (OpenSpec.ofChange numVarsSpec)) numVarsCard

/-- THE TIED CARD OF 'hbllaw1.NumTexts'. -/
def numTextsCard : Claim7 := { stood := { row := numTextsRow, standIns := [], harness := (true, "280924fe4335078f78a79916ab7aed11b17b226f8957d6f5c74aca593e8ebe43"), looks := false }, kinds := [], alts := [], laidByText := true, laidKinds := [.data, .data, .data], laidTests := true, laidLooks := .later }
def NumTextsCardSaid : Prop := Claim7.holds Tryd.pinned (.plain (OpenSpec.ofChange numTextsSpec)) numTextsCard

/-- THE TIED CARD OF 'hbllaw1.NumBack'. -/
def numBackCard : Claim7 := { stood := { row := numBackRow, standIns := [], harness := (true, "280924fe4335078f78a79916ab7aed11b17b226f8957d6f5c74aca593e8ebe43"), looks := false }, kinds := [], alts := [], laidByText := true, laidKinds := [.data, .data, .data], laidTests := true, laidLooks := .later }
def NumBackCardSaid : Prop := Claim7.holds Tryd.pinned (.plain (OpenSpec.ofChange numBackSpec)) numBackCard

/-- THE SECOND FORM's CARD OF 'hbllaw1.NumOrder'. -/
def numOrderUptoCard : Claim7 := { stood := { row := numOrderUptoRow, standIns := [], harness := (true, "280924fe4335078f78a79916ab7aed11b17b226f8957d6f5c74aca593e8ebe43"), looks := false }, kinds := [], alts := [], laidByText := true, laidKinds := [.data, .data, .data], laidTests := true, laidLooks := .later }
def NumOrderUptoCardSaid : Prop := Claim7.holds Tryd.pinned (.plain (OpenSpec.upto numOrderSpec)) numOrderUptoCard

/-- THE SECOND FORM's CARD OF 'hbllaw1.NumGets'. -/
def numGetsUptoCard : Claim7 := { stood := { row := numGetsUptoRow, standIns := [], harness := (true, "280924fe4335078f78a79916ab7aed11b17b226f8957d6f5c74aca593e8ebe43"), looks := false }, kinds := [], alts := [], laidByText := true, laidKinds := [.data, .data, .data], laidTests := true, laidLooks := .later }
def NumGetsUptoCardSaid : Prop := Claim7.holds Tryd.pinned (.plain (OpenSpec.upto numGetsSpec)) numGetsUptoCard

/-- THE SECOND FORM's CARD OF 'hbllaw1.NumSums'. -/
def numSumsUptoCard : Claim7 := { stood := { row := numSumsUptoRow, standIns := [], harness := (true, "280924fe4335078f78a79916ab7aed11b17b226f8957d6f5c74aca593e8ebe43"), looks := false }, kinds := [], alts := [], laidByText := true, laidKinds := [.data, .data, .data], laidTests := true, laidLooks := .later }
def NumSumsUptoCardSaid : Prop := Claim7.holds Tryd.pinned (.plain (OpenSpec.upto numSumsSpec)) numSumsUptoCard

/-- THE SECOND FORM's CARD OF 'hbllaw1.NumVars'. -/
def numVarsUptoCard : Claim7 := { stood := { row := numVarsUptoRow, standIns := [], harness := (true, "280924fe4335078f78a79916ab7aed11b17b226f8957d6f5c74aca593e8ebe43"), looks := false }, kinds := [], alts := [], laidByText := true, laidKinds := [.data, .data, .data], laidTests := true, laidLooks := .later }
def NumVarsUptoCardSaid : Prop := Claim7.holds Tryd.pinned (.plain (OpenSpec.upto numVarsSpec)) numVarsUptoCard

/-- THE SECOND FORM's CARD OF 'hbllaw1.NumTexts'. -/
def numTextsUptoCard : Claim7 := { stood := { row := numTextsUptoRow, standIns := [], harness := (true, "280924fe4335078f78a79916ab7aed11b17b226f8957d6f5c74aca593e8ebe43"), looks := false }, kinds := [], alts := [], laidByText := true, laidKinds := [.data, .data, .data], laidTests := true, laidLooks := .later }
def NumTextsUptoCardSaid : Prop := Claim7.holds Tryd.pinned (.plain (OpenSpec.upto numTextsSpec)) numTextsUptoCard

/-- THE SECOND FORM's CARD OF 'hbllaw1.NumBack'. -/
def numBackUptoCard : Claim7 := { stood := { row := numBackUptoRow, standIns := [], harness := (true, "280924fe4335078f78a79916ab7aed11b17b226f8957d6f5c74aca593e8ebe43"), looks := false }, kinds := [], alts := [], laidByText := true, laidKinds := [.data, .data, .data], laidTests := true, laidLooks := .later }
def NumBackUptoCardSaid : Prop := Claim7.holds Tryd.pinned (.plain (OpenSpec.upto numBackSpec)) numBackUptoCard
end Rows
end Go.Proofs.YtknbnfpdcbpoeaaDoor
