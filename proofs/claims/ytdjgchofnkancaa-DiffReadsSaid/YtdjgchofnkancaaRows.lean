/-
  No cell of these rows narrows 'for every input' (looked for: loops, veiled, ifaces, maps, wideKeys, modest, calm, conditions, laid).
  DERIVED. THE GIVEN ROWS OF THIS SEAT. 11 by the template 'for every input the law returns true; each argument reads behind the call as it read before'; 0 by the template 'total and deterministic' (their statements: YtdjgchofnkancaaTotals.lean).
  GIVEN WITH THE SEED: the statements are not yours to turn. If you find one false, say at which input.
  Laid BY PROGRAM, IN A SANDBOX (cutbox-rows.mjs): the forced cells as the released guide's own fill.sh prints them over the translation 788f791131781027… (all of the seat's roots in one cut). By AI agents, Wed Nov 11 2026. No macro, syntax, notation, axiom, sorry.
-/
import Derived.Test.YtdjgchofnkancaaChecked
import GoSem.Claim
import GoSem.ClaimJoined
import GoSem.ClaimMapViews
import Derived.JoinedTies
import Derived.KernelRfl
namespace Go.Proofs.Ytdjgchofnkancaa
/- THE CELL 'sum', in the pinned program and in every row, IS THE sha256 OF THE DUMP (.gsa) THAT YtdjgchofnkancaaProg.lean LOADS. Nothing in Lean hashes anything: it is a label: what it is worth is what the hold of that sum in a sandbox is worth. -/
noncomputable def Try.pinned : Pinned := { name := "ytdjgchofnkancaa", sum := "788f791131781027e73f837cbfb449a5607ef897dd2d28d3b0aa4949b6541255", checked := Try.checked }
namespace Rows
def none {H : Type} : Left H := { results := [], args := [] }

/-- 'hbllaw2.OmapTexts': WHATEVER THE INPUT: true; the input reads as it did. -/
def omapTextsSpec : ChangeSpec := { name := "omapTexts", fn := fun _ => fun
  | [d] => { results := [.lit (.bool true)], args := [d] }
  | _ => none }
def omapTextsRow : OpenClaim := { program := "ytdjgchofnkancaa", sum := "788f791131781027e73f837cbfb449a5607ef897dd2d28d3b0aa4949b6541255", func := "handbill/hbllaw2.OmapTexts", spec := "omapTexts", inPlace := ["slices.overlaps[handbill/omap.pair[int, string]]", "slices.overlaps[handbill/omap.pair[string, int]]"], unfollowed := true, recurses := true, apart := false }
def OmapTextsSaid : Prop := omapTextsRow.holds Try.pinned (OpenSpec.ofChange omapTextsSpec)

/-- ITS FALSE NEIGHBOUR: 'it returns false'. Refute it at one input. -/
def omapTextsWrong : ChangeSpec := { name := "omapTexts", fn := fun _ => fun
  | [d] => { results := [.lit (.bool false)], args := [d] }
  | _ => none }
def OmapTextsWrongFalsely : Prop := omapTextsRow.holds Try.pinned (OpenSpec.ofChange omapTextsWrong)

/-- 'hbllaw2.OmapTakes': WHATEVER THE INPUT: true; the input reads as it did. -/
def omapTakesSpec : ChangeSpec := { name := "omapTakes", fn := fun _ => fun
  | [d1, d2, d3, d4] => { results := [.lit (.bool true)], args := [d1, d2, d3, d4] }
  | _ => none }
def omapTakesRow : OpenClaim := { program := "ytdjgchofnkancaa", sum := "788f791131781027e73f837cbfb449a5607ef897dd2d28d3b0aa4949b6541255", func := "handbill/hbllaw2.OmapTakes", spec := "omapTakes", inPlace := ["slices.overlaps[handbill/omap.pair[int, string]]"], unfollowed := true, recurses := true, apart := false }
def OmapTakesSaid : Prop := omapTakesRow.holds Try.pinned (OpenSpec.ofChange omapTakesSpec)

/-- ITS FALSE NEIGHBOUR: 'it returns false'. Refute it at one input. -/
def omapTakesWrong : ChangeSpec := { name := "omapTakes", fn := fun _ => fun
  | [d1, d2, d3, d4] => { results := [.lit (.bool false)], args := [d1, d2, d3, d4] }
  | _ => none }
def OmapTakesWrongFalsely : Prop := omapTakesRow.holds Try.pinned (OpenSpec.ofChange omapTakesWrong)

/-- 'hbllaw2.OmapMerges': WHATEVER THE INPUT: true; the input reads as it did. -/
def omapMergesSpec : ChangeSpec := { name := "omapMerges", fn := fun _ => fun
  | [d1, d2, d3] => { results := [.lit (.bool true)], args := [d1, d2, d3] }
  | _ => none }
def omapMergesRow : OpenClaim := { program := "ytdjgchofnkancaa", sum := "788f791131781027e73f837cbfb449a5607ef897dd2d28d3b0aa4949b6541255", func := "handbill/hbllaw2.OmapMerges", spec := "omapMerges", inPlace := ["slices.overlaps[handbill/omap.pair[int, string]]"], unfollowed := true, recurses := true, apart := false }
def OmapMergesSaid : Prop := omapMergesRow.holds Try.pinned (OpenSpec.ofChange omapMergesSpec)

/-- ITS FALSE NEIGHBOUR: 'it returns false'. Refute it at one input. -/
def omapMergesWrong : ChangeSpec := { name := "omapMerges", fn := fun _ => fun
  | [d1, d2, d3] => { results := [.lit (.bool false)], args := [d1, d2, d3] }
  | _ => none }
def OmapMergesWrongFalsely : Prop := omapMergesRow.holds Try.pinned (OpenSpec.ofChange omapMergesWrong)

/-- 'hbllaw2.OmapKinds': WHATEVER THE INPUT: true; the input reads as it did. -/
def omapKindsSpec : ChangeSpec := { name := "omapKinds", fn := fun _ => fun
  | [d1, d2] => { results := [.lit (.bool true)], args := [d1, d2] }
  | _ => none }
def omapKindsRow : OpenClaim := { program := "ytdjgchofnkancaa", sum := "788f791131781027e73f837cbfb449a5607ef897dd2d28d3b0aa4949b6541255", func := "handbill/hbllaw2.OmapKinds", spec := "omapKinds", inPlace := ["slices.overlaps[handbill/omap.pair[int, string]]", "slices.overlaps[handbill/omap.pair[int, []int]]"], unfollowed := true, recurses := true, apart := false }
def OmapKindsSaid : Prop := omapKindsRow.holds Try.pinned (OpenSpec.ofChange omapKindsSpec)

/-- ITS FALSE NEIGHBOUR: 'it returns false'. Refute it at one input. -/
def omapKindsWrong : ChangeSpec := { name := "omapKinds", fn := fun _ => fun
  | [d1, d2] => { results := [.lit (.bool false)], args := [d1, d2] }
  | _ => none }
def OmapKindsWrongFalsely : Prop := omapKindsRow.holds Try.pinned (OpenSpec.ofChange omapKindsWrong)

/-- 'hbllaw21.DiffNumbers': WHATEVER THE INPUT: true; the input reads as it did. -/
def diffNumbersSpec : ChangeSpec := { name := "diffNumbers", fn := fun _ => fun
  | [d1, d2] => { results := [.lit (.bool true)], args := [d1, d2] }
  | _ => none }
def diffNumbersRow : OpenClaim := { program := "ytdjgchofnkancaa", sum := "788f791131781027e73f837cbfb449a5607ef897dd2d28d3b0aa4949b6541255", func := "handbill/hbllaw21.DiffNumbers", spec := "diffNumbers", inPlace := ["slices.overlaps[handbill/omap.pair[string, string]]", "slices.overlaps[handbill/omap.pair[string, int]]"], unfollowed := true, recurses := true, apart := false }
def DiffNumbersSaid : Prop := diffNumbersRow.holds Try.pinned (OpenSpec.ofChange diffNumbersSpec)

/-- ITS FALSE NEIGHBOUR: 'it returns false'. Refute it at one input. -/
def diffNumbersWrong : ChangeSpec := { name := "diffNumbers", fn := fun _ => fun
  | [d1, d2] => { results := [.lit (.bool false)], args := [d1, d2] }
  | _ => none }
def DiffNumbersWrongFalsely : Prop := diffNumbersRow.holds Try.pinned (OpenSpec.ofChange diffNumbersWrong)

/-- 'hbllaw2.OmapEarly': WHATEVER THE INPUT: true; the input reads as it did. -/
def omapEarlySpec : ChangeSpec := { name := "omapEarly", fn := fun _ => fun
  | [d1, d2] => { results := [.lit (.bool true)], args := [d1, d2] }
  | _ => none }
def omapEarlyRow : OpenClaim := { program := "ytdjgchofnkancaa", sum := "788f791131781027e73f837cbfb449a5607ef897dd2d28d3b0aa4949b6541255", func := "handbill/hbllaw2.OmapEarly", spec := "omapEarly", inPlace := ["slices.overlaps[handbill/omap.pair[int, string]]"], unfollowed := true, recurses := true, apart := false }
def OmapEarlySaid : Prop := omapEarlyRow.holds Try.pinned (OpenSpec.ofChange omapEarlySpec)

/-- ITS FALSE NEIGHBOUR: 'it returns false'. Refute it at one input. -/
def omapEarlyWrong : ChangeSpec := { name := "omapEarly", fn := fun _ => fun
  | [d1, d2] => { results := [.lit (.bool false)], args := [d1, d2] }
  | _ => none }
def OmapEarlyWrongFalsely : Prop := omapEarlyRow.holds Try.pinned (OpenSpec.ofChange omapEarlyWrong)

/-- 'hbllaw2.OmapPlays': WHATEVER THE INPUT: true; the input reads as it did. -/
def omapPlaysSpec : ChangeSpec := { name := "omapPlays", fn := fun _ => fun
  | [d] => { results := [.lit (.bool true)], args := [d] }
  | _ => none }
def omapPlaysRow : OpenClaim := { program := "ytdjgchofnkancaa", sum := "788f791131781027e73f837cbfb449a5607ef897dd2d28d3b0aa4949b6541255", func := "handbill/hbllaw2.OmapPlays", spec := "omapPlays", inPlace := ["slices.overlaps[handbill/omap.pair[int, string]]"], unfollowed := true, recurses := true, apart := false }
def OmapPlaysSaid : Prop := omapPlaysRow.holds Try.pinned (OpenSpec.ofChange omapPlaysSpec)

/-- ITS FALSE NEIGHBOUR: 'it returns false'. Refute it at one input. -/
def omapPlaysWrong : ChangeSpec := { name := "omapPlays", fn := fun _ => fun
  | [d] => { results := [.lit (.bool false)], args := [d] }
  | _ => none }
def OmapPlaysWrongFalsely : Prop := omapPlaysRow.holds Try.pinned (OpenSpec.ofChange omapPlaysWrong)

/-- 'hbllaw21.DiffTakes': WHATEVER THE INPUT: true; the input reads as it did. -/
def diffTakesSpec : ChangeSpec := { name := "diffTakes", fn := fun _ => fun
  | [d1, d2, d3] => { results := [.lit (.bool true)], args := [d1, d2, d3] }
  | _ => none }
def diffTakesRow : OpenClaim := { program := "ytdjgchofnkancaa", sum := "788f791131781027e73f837cbfb449a5607ef897dd2d28d3b0aa4949b6541255", func := "handbill/hbllaw21.DiffTakes", spec := "diffTakes", inPlace := ["slices.overlaps[handbill/omap.pair[string, string]]"], unfollowed := true, recurses := true, apart := false }
def DiffTakesSaid : Prop := diffTakesRow.holds Try.pinned (OpenSpec.ofChange diffTakesSpec)

/-- ITS FALSE NEIGHBOUR: 'it returns false'. Refute it at one input. -/
def diffTakesWrong : ChangeSpec := { name := "diffTakes", fn := fun _ => fun
  | [d1, d2, d3] => { results := [.lit (.bool false)], args := [d1, d2, d3] }
  | _ => none }
def DiffTakesWrongFalsely : Prop := diffTakesRow.holds Try.pinned (OpenSpec.ofChange diffTakesWrong)

/-- 'hbllaw21.DiffSteps': WHATEVER THE INPUT: true; the input reads as it did. -/
def diffStepsSpec : ChangeSpec := { name := "diffSteps", fn := fun _ => fun
  | [d1, d2, d3] => { results := [.lit (.bool true)], args := [d1, d2, d3] }
  | _ => none }
def diffStepsRow : OpenClaim := { program := "ytdjgchofnkancaa", sum := "788f791131781027e73f837cbfb449a5607ef897dd2d28d3b0aa4949b6541255", func := "handbill/hbllaw21.DiffSteps", spec := "diffSteps", inPlace := ["slices.overlaps[handbill/omap.pair[string, string]]"], unfollowed := true, recurses := true, apart := false }
def DiffStepsSaid : Prop := diffStepsRow.holds Try.pinned (OpenSpec.ofChange diffStepsSpec)

/-- ITS FALSE NEIGHBOUR: 'it returns false'. Refute it at one input. -/
def diffStepsWrong : ChangeSpec := { name := "diffSteps", fn := fun _ => fun
  | [d1, d2, d3] => { results := [.lit (.bool false)], args := [d1, d2, d3] }
  | _ => none }
def DiffStepsWrongFalsely : Prop := diffStepsRow.holds Try.pinned (OpenSpec.ofChange diffStepsWrong)

/-- 'hbllaw21.DiffReads': WHATEVER THE INPUT: true; the input reads as it did. -/
def diffReadsSpec : ChangeSpec := { name := "diffReads", fn := fun _ => fun
  | [d1, d2, d3, d4, d5] => { results := [.lit (.bool true)], args := [d1, d2, d3, d4, d5] }
  | _ => none }
def diffReadsRow : OpenClaim := { program := "ytdjgchofnkancaa", sum := "788f791131781027e73f837cbfb449a5607ef897dd2d28d3b0aa4949b6541255", func := "handbill/hbllaw21.DiffReads", spec := "diffReads", inPlace := ["slices.overlaps[handbill/omap.pair[string, string]]"], unfollowed := true, recurses := true, apart := false }
def DiffReadsSaid : Prop := diffReadsRow.holds Try.pinned (OpenSpec.ofChange diffReadsSpec)

/-- ITS FALSE NEIGHBOUR: 'it returns false'. Refute it at one input. -/
def diffReadsWrong : ChangeSpec := { name := "diffReads", fn := fun _ => fun
  | [d1, d2, d3, d4, d5] => { results := [.lit (.bool false)], args := [d1, d2, d3, d4, d5] }
  | _ => none }
def DiffReadsWrongFalsely : Prop := diffReadsRow.holds Try.pinned (OpenSpec.ofChange diffReadsWrong)

/-- 'hbllaw21.DiffBack': WHATEVER THE INPUT: true; the input reads as it did. -/
def diffBackSpec : ChangeSpec := { name := "diffBack", fn := fun _ => fun
  | [d1, d2, d3] => { results := [.lit (.bool true)], args := [d1, d2, d3] }
  | _ => none }
def diffBackRow : OpenClaim := { program := "ytdjgchofnkancaa", sum := "788f791131781027e73f837cbfb449a5607ef897dd2d28d3b0aa4949b6541255", func := "handbill/hbllaw21.DiffBack", spec := "diffBack", inPlace := ["slices.overlaps[handbill/omap.pair[string, string]]"], unfollowed := true, recurses := true, apart := false }
def DiffBackSaid : Prop := diffBackRow.holds Try.pinned (OpenSpec.ofChange diffBackSpec)

/-- ITS FALSE NEIGHBOUR: 'it returns false'. Refute it at one input. -/
def diffBackWrong : ChangeSpec := { name := "diffBack", fn := fun _ => fun
  | [d1, d2, d3] => { results := [.lit (.bool false)], args := [d1, d2, d3] }
  | _ => none }
def DiffBackWrongFalsely : Prop := diffBackRow.holds Try.pinned (OpenSpec.ofChange diffBackWrong)

/- THE SECOND FORM. 'bulk': how many values and letters a reading holds, each counted each time it is reached (what is shared counts as often as it is met; a slice's spare places count too). A statement '..UptoSaid' is the law's where the arguments, and the package variables that the reading takes, are together of bulk at most 1048576: NARROWER than '..Said'. Prove '..Said' where nothing that the law and all that it calls make is longer than what came in: it says more and counts as full. Else prove '..UptoSaid'. A law counts once. -/
mutual
def uptoBulk {H : Type} : DataW H → Nat
  | .lit (.string bytes) => bytes.length + 1
  | .lit _ => 1
  | .nil => 1
  | .ptr d => uptoBulk d + 1
  | .slice elems spare => uptoBulkAll elems + uptoBulkAll spare + 1
  | .agg parts => uptoBulkAll parts + 1
  | .iface _ d => uptoBulk d + 1
  | .map entries => uptoBulkEntries entries + 1
  | .held _ => 1
def uptoBulkAll {H : Type} : List (DataW H) → Nat
  | [] => 0
  | d :: r => uptoBulk d + uptoBulkAll r
def uptoBulkEntries {H : Type} : List (Lit × DataW H) → Nat
  | [] => 0
  | x :: r => uptoBulkEntry x + uptoBulkEntries r
def uptoBulkEntry {H : Type} : Lit × DataW H → Nat
  | (.string bytes, d) => bytes.length + uptoBulk d + 1
  | (_, d) => uptoBulk d + 1
 end
def uptoSmall : (H : Type) → List (DataW H) → Bool := fun _ ds => decide (uptoBulkAll ds ≤ 1048576)
def OpenSpec.upto (s : _root_.Go.ChangeSpec) : _root_.Go.OpenSpec := { _root_.Go.OpenSpec.ofChange s with cond := some uptoSmall }

/-- 'hbllaw2.OmapTexts', WHERE WHAT IT READS IS OF BULK AT MOST 1048576: true; the input reads as it did. -/
def omapTextsUptoRow : OpenClaim := { program := "ytdjgchofnkancaa", sum := "788f791131781027e73f837cbfb449a5607ef897dd2d28d3b0aa4949b6541255", func := "handbill/hbllaw2.OmapTexts", spec := "omapTexts", inPlace := ["slices.overlaps[handbill/omap.pair[int, string]]", "slices.overlaps[handbill/omap.pair[string, int]]"], unfollowed := true, recurses := true, apart := false, narrowed := true }
def OmapTextsUptoSaid : Prop := omapTextsUptoRow.holds Try.pinned (OpenSpec.upto omapTextsSpec)

/-- 'hbllaw2.OmapTakes', WHERE WHAT IT READS IS OF BULK AT MOST 1048576: true; the input reads as it did. -/
def omapTakesUptoRow : OpenClaim := { program := "ytdjgchofnkancaa", sum := "788f791131781027e73f837cbfb449a5607ef897dd2d28d3b0aa4949b6541255", func := "handbill/hbllaw2.OmapTakes", spec := "omapTakes", inPlace := ["slices.overlaps[handbill/omap.pair[int, string]]"], unfollowed := true, recurses := true, apart := false, narrowed := true }
def OmapTakesUptoSaid : Prop := omapTakesUptoRow.holds Try.pinned (OpenSpec.upto omapTakesSpec)

/-- 'hbllaw2.OmapMerges', WHERE WHAT IT READS IS OF BULK AT MOST 1048576: true; the input reads as it did. -/
def omapMergesUptoRow : OpenClaim := { program := "ytdjgchofnkancaa", sum := "788f791131781027e73f837cbfb449a5607ef897dd2d28d3b0aa4949b6541255", func := "handbill/hbllaw2.OmapMerges", spec := "omapMerges", inPlace := ["slices.overlaps[handbill/omap.pair[int, string]]"], unfollowed := true, recurses := true, apart := false, narrowed := true }
def OmapMergesUptoSaid : Prop := omapMergesUptoRow.holds Try.pinned (OpenSpec.upto omapMergesSpec)

/-- 'hbllaw2.OmapKinds', WHERE WHAT IT READS IS OF BULK AT MOST 1048576: true; the input reads as it did. -/
def omapKindsUptoRow : OpenClaim := { program := "ytdjgchofnkancaa", sum := "788f791131781027e73f837cbfb449a5607ef897dd2d28d3b0aa4949b6541255", func := "handbill/hbllaw2.OmapKinds", spec := "omapKinds", inPlace := ["slices.overlaps[handbill/omap.pair[int, string]]", "slices.overlaps[handbill/omap.pair[int, []int]]"], unfollowed := true, recurses := true, apart := false, narrowed := true }
def OmapKindsUptoSaid : Prop := omapKindsUptoRow.holds Try.pinned (OpenSpec.upto omapKindsSpec)

/-- 'hbllaw21.DiffNumbers', WHERE WHAT IT READS IS OF BULK AT MOST 1048576: true; the input reads as it did. -/
def diffNumbersUptoRow : OpenClaim := { program := "ytdjgchofnkancaa", sum := "788f791131781027e73f837cbfb449a5607ef897dd2d28d3b0aa4949b6541255", func := "handbill/hbllaw21.DiffNumbers", spec := "diffNumbers", inPlace := ["slices.overlaps[handbill/omap.pair[string, string]]", "slices.overlaps[handbill/omap.pair[string, int]]"], unfollowed := true, recurses := true, apart := false, narrowed := true }
def DiffNumbersUptoSaid : Prop := diffNumbersUptoRow.holds Try.pinned (OpenSpec.upto diffNumbersSpec)

/-- 'hbllaw2.OmapEarly', WHERE WHAT IT READS IS OF BULK AT MOST 1048576: true; the input reads as it did. -/
def omapEarlyUptoRow : OpenClaim := { program := "ytdjgchofnkancaa", sum := "788f791131781027e73f837cbfb449a5607ef897dd2d28d3b0aa4949b6541255", func := "handbill/hbllaw2.OmapEarly", spec := "omapEarly", inPlace := ["slices.overlaps[handbill/omap.pair[int, string]]"], unfollowed := true, recurses := true, apart := false, narrowed := true }
def OmapEarlyUptoSaid : Prop := omapEarlyUptoRow.holds Try.pinned (OpenSpec.upto omapEarlySpec)

/-- 'hbllaw2.OmapPlays', WHERE WHAT IT READS IS OF BULK AT MOST 1048576: true; the input reads as it did. -/
def omapPlaysUptoRow : OpenClaim := { program := "ytdjgchofnkancaa", sum := "788f791131781027e73f837cbfb449a5607ef897dd2d28d3b0aa4949b6541255", func := "handbill/hbllaw2.OmapPlays", spec := "omapPlays", inPlace := ["slices.overlaps[handbill/omap.pair[int, string]]"], unfollowed := true, recurses := true, apart := false, narrowed := true }
def OmapPlaysUptoSaid : Prop := omapPlaysUptoRow.holds Try.pinned (OpenSpec.upto omapPlaysSpec)

/-- 'hbllaw21.DiffTakes', WHERE WHAT IT READS IS OF BULK AT MOST 1048576: true; the input reads as it did. -/
def diffTakesUptoRow : OpenClaim := { program := "ytdjgchofnkancaa", sum := "788f791131781027e73f837cbfb449a5607ef897dd2d28d3b0aa4949b6541255", func := "handbill/hbllaw21.DiffTakes", spec := "diffTakes", inPlace := ["slices.overlaps[handbill/omap.pair[string, string]]"], unfollowed := true, recurses := true, apart := false, narrowed := true }
def DiffTakesUptoSaid : Prop := diffTakesUptoRow.holds Try.pinned (OpenSpec.upto diffTakesSpec)

/-- 'hbllaw21.DiffSteps', WHERE WHAT IT READS IS OF BULK AT MOST 1048576: true; the input reads as it did. -/
def diffStepsUptoRow : OpenClaim := { program := "ytdjgchofnkancaa", sum := "788f791131781027e73f837cbfb449a5607ef897dd2d28d3b0aa4949b6541255", func := "handbill/hbllaw21.DiffSteps", spec := "diffSteps", inPlace := ["slices.overlaps[handbill/omap.pair[string, string]]"], unfollowed := true, recurses := true, apart := false, narrowed := true }
def DiffStepsUptoSaid : Prop := diffStepsUptoRow.holds Try.pinned (OpenSpec.upto diffStepsSpec)

/-- 'hbllaw21.DiffReads', WHERE WHAT IT READS IS OF BULK AT MOST 1048576: true; the input reads as it did. -/
def diffReadsUptoRow : OpenClaim := { program := "ytdjgchofnkancaa", sum := "788f791131781027e73f837cbfb449a5607ef897dd2d28d3b0aa4949b6541255", func := "handbill/hbllaw21.DiffReads", spec := "diffReads", inPlace := ["slices.overlaps[handbill/omap.pair[string, string]]"], unfollowed := true, recurses := true, apart := false, narrowed := true }
def DiffReadsUptoSaid : Prop := diffReadsUptoRow.holds Try.pinned (OpenSpec.upto diffReadsSpec)

/-- 'hbllaw21.DiffBack', WHERE WHAT IT READS IS OF BULK AT MOST 1048576: true; the input reads as it did. -/
def diffBackUptoRow : OpenClaim := { program := "ytdjgchofnkancaa", sum := "788f791131781027e73f837cbfb449a5607ef897dd2d28d3b0aa4949b6541255", func := "handbill/hbllaw21.DiffBack", spec := "diffBack", inPlace := ["slices.overlaps[handbill/omap.pair[string, string]]"], unfollowed := true, recurses := true, apart := false, narrowed := true }
def DiffBackUptoSaid : Prop := diffBackUptoRow.holds Try.pinned (OpenSpec.upto diffBackSpec)

end Rows
end Go.Proofs.Ytdjgchofnkancaa
