/-
  DERIVED. GIVEN WITH THE SEED: THE CARDS: each row of YtlflpbflpcmckaaGreatDoorRows.lean that lists a variable, with what it lists TIED to the program's text (the seventh form; the later family's looks); each row that meets fmt, with fmt's text TOLD by the authors' own Lean function (tested against real Go, not proved from fmt's source: count such statements apart). THE CARD IS WHAT COUNTS. Prove the row's statement (the work); the ties are given (YtlflpbflpcmckaaGreatDoorTie.lean); close each card by the builder's one call (the guide's Derived/Test/ToyasCard.lean, 'card_holds'). Laid BY PROGRAM, IN A SANDBOX (cutbox-door.mjs). By AI agents, Wed Nov 11 2026. No macro, syntax, notation, axiom, sorry.
-/
import Derived.Test.YtlflpbflpcmckaaGreatDoorRows
import GoSem.ClaimSeven
namespace Go.Proofs.YtlflpbflpcmckaaGreatDoor
namespace Rows

/-- THE TIED CARD OF 'hbllaw7.FeedMore'. -/
def feedMoreCard : Claim7 := { stood := { row := feedMoreRow, standIns := [], harness := (true, "a7c4451474bbb9e6120b77622541ae8d095c43a4b0b8eaebebfdce3d7e4c15f9"), looks := true }, kinds := [], alts := [], laidByText := true, laidKinds := [.data, .data, .data, .data, .sentinel, .sentinel, .pinned], laidTests := true, laidLooks := .later }
def FeedMoreCardSaid : Prop := Claim7.holds Tryz.pinned (.plain (OpenSpec.ofChange feedMoreSpec)) feedMoreCard

/-- THE TIED CARD OF 'hbllaw7.FeedTrims'. -/
def feedTrimsCard : Claim7 := { stood := { row := feedTrimsRow, standIns := [], harness := (true, "a7c4451474bbb9e6120b77622541ae8d095c43a4b0b8eaebebfdce3d7e4c15f9"), looks := true }, kinds := [], alts := [], laidByText := true, laidKinds := [.data, .data, .data, .data, .sentinel, .sentinel, .pinned], laidTests := true, laidLooks := .later }
def FeedTrimsCardSaid : Prop := Claim7.holds Tryz.pinned (.plain (OpenSpec.ofChange feedTrimsSpec)) feedTrimsCard

/-- THE TIED CARD OF 'hbllaw7.FeedOnce'. -/
def feedOnceCard : Claim7 := { stood := { row := feedOnceRow, standIns := [], harness := (true, "a7c4451474bbb9e6120b77622541ae8d095c43a4b0b8eaebebfdce3d7e4c15f9"), looks := true }, kinds := [], alts := [], laidByText := true, laidKinds := [.data, .data, .data, .data, .sentinel, .sentinel, .pinned], laidTests := true, laidLooks := .later }
def FeedOnceCardSaid : Prop := Claim7.holds Tryz.pinned (.plain (OpenSpec.ofChange feedOnceSpec)) feedOnceCard

/-- THE TIED CARD OF 'hbllaw7.FeedKinds'. -/
def feedKindsCard : Claim7 := { stood := { row := feedKindsRow, standIns := [], harness := (true, "a7c4451474bbb9e6120b77622541ae8d095c43a4b0b8eaebebfdce3d7e4c15f9"), looks := true }, kinds := [], alts := [], laidByText := true, laidKinds := [.data, .data, .data, .data, .sentinel, .sentinel, .pinned], laidTests := true, laidLooks := .later }
def FeedKindsCardSaid : Prop := Claim7.holds Tryz.pinned (.plain (OpenSpec.ofChange feedKindsSpec)) feedKindsCard

/-- THE TIED CARD OF 'hbllaw7.FeedReads'. -/
def feedReadsCard : Claim7 := { stood := { row := feedReadsRow, standIns := [], harness := (true, "a7c4451474bbb9e6120b77622541ae8d095c43a4b0b8eaebebfdce3d7e4c15f9"), looks := true }, kinds := [], alts := [], laidByText := true, laidKinds := [.data, .data, .data, .data, .sentinel, .sentinel, .pinned], laidTests := true, laidLooks := .later }
def FeedReadsCardSaid : Prop := Claim7.holds Tryz.pinned (.plain (OpenSpec.ofChange feedReadsSpec)) feedReadsCard

/-- THE SECOND FORM's CARD OF 'hbllaw7.FeedMore'. -/
def feedMoreUptoCard : Claim7 := { stood := { row := feedMoreUptoRow, standIns := [], harness := (true, "a7c4451474bbb9e6120b77622541ae8d095c43a4b0b8eaebebfdce3d7e4c15f9"), looks := true }, kinds := [], alts := [], laidByText := true, laidKinds := [.data, .data, .data, .data, .sentinel, .sentinel, .pinned], laidTests := true, laidLooks := .later }
def FeedMoreUptoCardSaid : Prop := Claim7.holds Tryz.pinned (.plain (OpenSpec.upto feedMoreSpec)) feedMoreUptoCard

/-- THE SECOND FORM's CARD OF 'hbllaw7.FeedTrims'. -/
def feedTrimsUptoCard : Claim7 := { stood := { row := feedTrimsUptoRow, standIns := [], harness := (true, "a7c4451474bbb9e6120b77622541ae8d095c43a4b0b8eaebebfdce3d7e4c15f9"), looks := true }, kinds := [], alts := [], laidByText := true, laidKinds := [.data, .data, .data, .data, .sentinel, .sentinel, .pinned], laidTests := true, laidLooks := .later }
def FeedTrimsUptoCardSaid : Prop := Claim7.holds Tryz.pinned (.plain (OpenSpec.upto feedTrimsSpec)) feedTrimsUptoCard

/-- THE SECOND FORM's CARD OF 'hbllaw7.FeedOnce'. -/
def feedOnceUptoCard : Claim7 := { stood := { row := feedOnceUptoRow, standIns := [], harness := (true, "a7c4451474bbb9e6120b77622541ae8d095c43a4b0b8eaebebfdce3d7e4c15f9"), looks := true }, kinds := [], alts := [], laidByText := true, laidKinds := [.data, .data, .data, .data, .sentinel, .sentinel, .pinned], laidTests := true, laidLooks := .later }
def FeedOnceUptoCardSaid : Prop := Claim7.holds Tryz.pinned (.plain (OpenSpec.upto feedOnceSpec)) feedOnceUptoCard

/-- THE SECOND FORM's CARD OF 'hbllaw7.FeedKinds'. -/
def feedKindsUptoCard : Claim7 := { stood := { row := feedKindsUptoRow, standIns := [], harness := (true, "a7c4451474bbb9e6120b77622541ae8d095c43a4b0b8eaebebfdce3d7e4c15f9"), looks := true }, kinds := [], alts := [], laidByText := true, laidKinds := [.data, .data, .data, .data, .sentinel, .sentinel, .pinned], laidTests := true, laidLooks := .later }
def FeedKindsUptoCardSaid : Prop := Claim7.holds Tryz.pinned (.plain (OpenSpec.upto feedKindsSpec)) feedKindsUptoCard

/-- THE SECOND FORM's CARD OF 'hbllaw7.FeedReads'. -/
def feedReadsUptoCard : Claim7 := { stood := { row := feedReadsUptoRow, standIns := [], harness := (true, "a7c4451474bbb9e6120b77622541ae8d095c43a4b0b8eaebebfdce3d7e4c15f9"), looks := true }, kinds := [], alts := [], laidByText := true, laidKinds := [.data, .data, .data, .data, .sentinel, .sentinel, .pinned], laidTests := true, laidLooks := .later }
def FeedReadsUptoCardSaid : Prop := Claim7.holds Tryz.pinned (.plain (OpenSpec.upto feedReadsSpec)) feedReadsUptoCard
end Rows
end Go.Proofs.YtlflpbflpcmckaaGreatDoor
