/-
  No cell of these rows narrows 'for every input' (looked for: loops, veiled, ifaces, maps, wideKeys, modest, calm, conditions, laid).
  DERIVED. THE GIVEN ROWS OF THIS SEAT. 10 by the template 'for every input the law returns true; each argument reads behind the call as it read before'; 0 by the template 'total and deterministic' (their statements: YtffnabbchghokaaTotals.lean).
  GIVEN WITH THE SEED: the statements are not yours to turn. If you find one false, say at which input.
  Laid BY PROGRAM, IN A SANDBOX (cutbox-rows.mjs): the forced cells as the released guide's own fill.sh prints them over the translation 3d903ac83937622c… (all of the seat's roots in one cut). By AI agents, Wed Nov 11 2026. No macro, syntax, notation, axiom, sorry.
-/
import Derived.Test.YtffnabbchghokaaChecked
import GoSem.Claim
import GoSem.ClaimJoined
import GoSem.ClaimMapViews
import Derived.JoinedTies
import Derived.KernelRfl
namespace Go.Proofs.Ytffnabbchghokaa
/- THE CELL 'sum', in the pinned program and in every row, IS THE sha256 OF THE DUMP (.gsa) THAT YtffnabbchghokaaProg.lean LOADS. Nothing in Lean hashes anything: it is a label: what it is worth is what the hold of that sum in a sandbox is worth. -/
noncomputable def Try.pinned : Pinned := { name := "ytffnabbchghokaa", sum := "3d903ac83937622caa61f4de2344be99d3e66f095577ec66730dc46848535987", checked := Try.checked }
namespace Rows
def none {H : Type} : Left H := { results := [], args := [] }

/-- 'hbllaw11.VersNumbers': WHATEVER THE INPUT: true; the input reads as it did. -/
def versNumbersSpec : ChangeSpec := { name := "versNumbers", fn := fun _ => fun
  | [d1, d2] => { results := [.lit (.bool true)], args := [d1, d2] }
  | _ => none }
def versNumbersRow : OpenClaim := { program := "ytffnabbchghokaa", sum := "3d903ac83937622caa61f4de2344be99d3e66f095577ec66730dc46848535987", func := "handbill/hbllaw11.VersNumbers", spec := "versNumbers", inPlace := ["slices.overlaps[handbill/omap.pair[string, []handbill/vers.Version[string]]]", "slices.overlaps[handbill/omap.pair[string, []handbill/vers.Version[int]]]"], unfollowed := true, recurses := true, apart := false }
def VersNumbersSaid : Prop := versNumbersRow.holds Try.pinned (OpenSpec.ofChange versNumbersSpec)

/-- ITS FALSE NEIGHBOUR: 'it returns false'. Refute it at one input. -/
def versNumbersWrong : ChangeSpec := { name := "versNumbers", fn := fun _ => fun
  | [d1, d2] => { results := [.lit (.bool false)], args := [d1, d2] }
  | _ => none }
def VersNumbersWrongFalsely : Prop := versNumbersRow.holds Try.pinned (OpenSpec.ofChange versNumbersWrong)

/-- 'hbllaw11.VersStays': WHATEVER THE INPUT: true; the input reads as it did. -/
def versStaysSpec : ChangeSpec := { name := "versStays", fn := fun _ => fun
  | [d1, d2, d3] => { results := [.lit (.bool true)], args := [d1, d2, d3] }
  | _ => none }
def versStaysRow : OpenClaim := { program := "ytffnabbchghokaa", sum := "3d903ac83937622caa61f4de2344be99d3e66f095577ec66730dc46848535987", func := "handbill/hbllaw11.VersStays", spec := "versStays", inPlace := ["slices.overlaps[handbill/omap.pair[string, []handbill/vers.Version[string]]]"], unfollowed := true, recurses := true, apart := false }
def VersStaysSaid : Prop := versStaysRow.holds Try.pinned (OpenSpec.ofChange versStaysSpec)

/-- ITS FALSE NEIGHBOUR: 'it returns false'. Refute it at one input. -/
def versStaysWrong : ChangeSpec := { name := "versStays", fn := fun _ => fun
  | [d1, d2, d3] => { results := [.lit (.bool false)], args := [d1, d2, d3] }
  | _ => none }
def VersStaysWrongFalsely : Prop := versStaysRow.holds Try.pinned (OpenSpec.ofChange versStaysWrong)

/-- 'hbllaw11.VersGone': WHATEVER THE INPUT: true; the input reads as it did. -/
def versGoneSpec : ChangeSpec := { name := "versGone", fn := fun _ => fun
  | [d1, d2, d3, d4, d5, d6] => { results := [.lit (.bool true)], args := [d1, d2, d3, d4, d5, d6] }
  | _ => none }
def versGoneRow : OpenClaim := { program := "ytffnabbchghokaa", sum := "3d903ac83937622caa61f4de2344be99d3e66f095577ec66730dc46848535987", func := "handbill/hbllaw11.VersGone", spec := "versGone", inPlace := ["slices.overlaps[handbill/omap.pair[string, []handbill/vers.Version[string]]]"], unfollowed := true, recurses := true, apart := false }
def VersGoneSaid : Prop := versGoneRow.holds Try.pinned (OpenSpec.ofChange versGoneSpec)

/-- ITS FALSE NEIGHBOUR: 'it returns false'. Refute it at one input. -/
def versGoneWrong : ChangeSpec := { name := "versGone", fn := fun _ => fun
  | [d1, d2, d3, d4, d5, d6] => { results := [.lit (.bool false)], args := [d1, d2, d3, d4, d5, d6] }
  | _ => none }
def VersGoneWrongFalsely : Prop := versGoneRow.holds Try.pinned (OpenSpec.ofChange versGoneWrong)

/-- 'hbllaw11.VersOrder': WHATEVER THE INPUT: true; the input reads as it did. -/
def versOrderSpec : ChangeSpec := { name := "versOrder", fn := fun _ => fun
  | [d1, d2, d3] => { results := [.lit (.bool true)], args := [d1, d2, d3] }
  | _ => none }
def versOrderRow : OpenClaim := { program := "ytffnabbchghokaa", sum := "3d903ac83937622caa61f4de2344be99d3e66f095577ec66730dc46848535987", func := "handbill/hbllaw11.VersOrder", spec := "versOrder", inPlace := ["slices.overlaps[handbill/omap.pair[string, []handbill/vers.Version[string]]]"], unfollowed := true, recurses := true, apart := false }
def VersOrderSaid : Prop := versOrderRow.holds Try.pinned (OpenSpec.ofChange versOrderSpec)

/-- ITS FALSE NEIGHBOUR: 'it returns false'. Refute it at one input. -/
def versOrderWrong : ChangeSpec := { name := "versOrder", fn := fun _ => fun
  | [d1, d2, d3] => { results := [.lit (.bool false)], args := [d1, d2, d3] }
  | _ => none }
def VersOrderWrongFalsely : Prop := versOrderRow.holds Try.pinned (OpenSpec.ofChange versOrderWrong)

/-- 'hbllaw11.VersPlays': WHATEVER THE INPUT: true; the input reads as it did. -/
def versPlaysSpec : ChangeSpec := { name := "versPlays", fn := fun _ => fun
  | [d] => { results := [.lit (.bool true)], args := [d] }
  | _ => none }
def versPlaysRow : OpenClaim := { program := "ytffnabbchghokaa", sum := "3d903ac83937622caa61f4de2344be99d3e66f095577ec66730dc46848535987", func := "handbill/hbllaw11.VersPlays", spec := "versPlays", inPlace := ["slices.overlaps[handbill/omap.pair[string, []handbill/vers.Version[string]]]"], unfollowed := true, recurses := true, apart := false }
def VersPlaysSaid : Prop := versPlaysRow.holds Try.pinned (OpenSpec.ofChange versPlaysSpec)

/-- ITS FALSE NEIGHBOUR: 'it returns false'. Refute it at one input. -/
def versPlaysWrong : ChangeSpec := { name := "versPlays", fn := fun _ => fun
  | [d] => { results := [.lit (.bool false)], args := [d] }
  | _ => none }
def VersPlaysWrongFalsely : Prop := versPlaysRow.holds Try.pinned (OpenSpec.ofChange versPlaysWrong)

/-- 'hbllaw12.TxnSees': WHATEVER THE INPUT: true; the input reads as it did. -/
def txnSeesSpec : ChangeSpec := { name := "txnSees", fn := fun _ => fun
  | [d1, d2, d3] => { results := [.lit (.bool true)], args := [d1, d2, d3] }
  | _ => none }
def txnSeesRow : OpenClaim := { program := "ytffnabbchghokaa", sum := "3d903ac83937622caa61f4de2344be99d3e66f095577ec66730dc46848535987", func := "handbill/hbllaw12.TxnSees", spec := "txnSees", inPlace := ["slices.overlaps[handbill/omap.pair[string, handbill/api.Write]]", "slices.overlaps[handbill/omap.pair[string, []handbill/vers.Version[string]]]"], unfollowed := true, recurses := true, apart := false }
def TxnSeesSaid : Prop := txnSeesRow.holds Try.pinned (OpenSpec.ofChange txnSeesSpec)

/-- ITS FALSE NEIGHBOUR: 'it returns false'. Refute it at one input. -/
def txnSeesWrong : ChangeSpec := { name := "txnSees", fn := fun _ => fun
  | [d1, d2, d3] => { results := [.lit (.bool false)], args := [d1, d2, d3] }
  | _ => none }
def TxnSeesWrongFalsely : Prop := txnSeesRow.holds Try.pinned (OpenSpec.ofChange txnSeesWrong)

/-- 'hbllaw12.TxnParts': WHATEVER THE INPUT: true; the input reads as it did. -/
def txnPartsSpec : ChangeSpec := { name := "txnParts", fn := fun _ => fun
  | [d1, d2, d3, d4, d5] => { results := [.lit (.bool true)], args := [d1, d2, d3, d4, d5] }
  | _ => none }
def txnPartsRow : OpenClaim := { program := "ytffnabbchghokaa", sum := "3d903ac83937622caa61f4de2344be99d3e66f095577ec66730dc46848535987", func := "handbill/hbllaw12.TxnParts", spec := "txnParts", inPlace := ["slices.overlaps[handbill/omap.pair[string, handbill/api.Write]]", "slices.overlaps[handbill/omap.pair[string, []handbill/vers.Version[string]]]"], unfollowed := true, recurses := true, apart := false }
def TxnPartsSaid : Prop := txnPartsRow.holds Try.pinned (OpenSpec.ofChange txnPartsSpec)

/-- ITS FALSE NEIGHBOUR: 'it returns false'. Refute it at one input. -/
def txnPartsWrong : ChangeSpec := { name := "txnParts", fn := fun _ => fun
  | [d1, d2, d3, d4, d5] => { results := [.lit (.bool false)], args := [d1, d2, d3, d4, d5] }
  | _ => none }
def TxnPartsWrongFalsely : Prop := txnPartsRow.holds Try.pinned (OpenSpec.ofChange txnPartsWrong)

/-- 'hbllaw12.TxnLast': WHATEVER THE INPUT: true; the input reads as it did. -/
def txnLastSpec : ChangeSpec := { name := "txnLast", fn := fun _ => fun
  | [d1, d2, d3] => { results := [.lit (.bool true)], args := [d1, d2, d3] }
  | _ => none }
def txnLastRow : OpenClaim := { program := "ytffnabbchghokaa", sum := "3d903ac83937622caa61f4de2344be99d3e66f095577ec66730dc46848535987", func := "handbill/hbllaw12.TxnLast", spec := "txnLast", inPlace := ["slices.overlaps[handbill/omap.pair[string, handbill/api.Write]]", "slices.overlaps[handbill/omap.pair[string, []handbill/vers.Version[string]]]"], unfollowed := true, recurses := true, apart := false }
def TxnLastSaid : Prop := txnLastRow.holds Try.pinned (OpenSpec.ofChange txnLastSpec)

/-- ITS FALSE NEIGHBOUR: 'it returns false'. Refute it at one input. -/
def txnLastWrong : ChangeSpec := { name := "txnLast", fn := fun _ => fun
  | [d1, d2, d3] => { results := [.lit (.bool false)], args := [d1, d2, d3] }
  | _ => none }
def TxnLastWrongFalsely : Prop := txnLastRow.holds Try.pinned (OpenSpec.ofChange txnLastWrong)

/-- 'hbllaw12.TxnTwo': WHATEVER THE INPUT: true; the input reads as it did. -/
def txnTwoSpec : ChangeSpec := { name := "txnTwo", fn := fun _ => fun
  | [d1, d2, d3, d4, d5] => { results := [.lit (.bool true)], args := [d1, d2, d3, d4, d5] }
  | _ => none }
def txnTwoRow : OpenClaim := { program := "ytffnabbchghokaa", sum := "3d903ac83937622caa61f4de2344be99d3e66f095577ec66730dc46848535987", func := "handbill/hbllaw12.TxnTwo", spec := "txnTwo", inPlace := ["slices.overlaps[handbill/omap.pair[string, handbill/api.Write]]", "slices.overlaps[handbill/omap.pair[string, []handbill/vers.Version[string]]]"], unfollowed := true, recurses := true, apart := false }
def TxnTwoSaid : Prop := txnTwoRow.holds Try.pinned (OpenSpec.ofChange txnTwoSpec)

/-- ITS FALSE NEIGHBOUR: 'it returns false'. Refute it at one input. -/
def txnTwoWrong : ChangeSpec := { name := "txnTwo", fn := fun _ => fun
  | [d1, d2, d3, d4, d5] => { results := [.lit (.bool false)], args := [d1, d2, d3, d4, d5] }
  | _ => none }
def TxnTwoWrongFalsely : Prop := txnTwoRow.holds Try.pinned (OpenSpec.ofChange txnTwoWrong)

/-- 'hbllaw12.TxnPlays': WHATEVER THE INPUT: true; the input reads as it did. -/
def txnPlaysSpec : ChangeSpec := { name := "txnPlays", fn := fun _ => fun
  | [d1, d2, d3] => { results := [.lit (.bool true)], args := [d1, d2, d3] }
  | _ => none }
def txnPlaysRow : OpenClaim := { program := "ytffnabbchghokaa", sum := "3d903ac83937622caa61f4de2344be99d3e66f095577ec66730dc46848535987", func := "handbill/hbllaw12.TxnPlays", spec := "txnPlays", inPlace := ["slices.overlaps[handbill/omap.pair[string, handbill/api.Write]]", "slices.overlaps[handbill/omap.pair[string, []handbill/vers.Version[string]]]"], unfollowed := true, recurses := true, apart := false }
def TxnPlaysSaid : Prop := txnPlaysRow.holds Try.pinned (OpenSpec.ofChange txnPlaysSpec)

/-- ITS FALSE NEIGHBOUR: 'it returns false'. Refute it at one input. -/
def txnPlaysWrong : ChangeSpec := { name := "txnPlays", fn := fun _ => fun
  | [d1, d2, d3] => { results := [.lit (.bool false)], args := [d1, d2, d3] }
  | _ => none }
def TxnPlaysWrongFalsely : Prop := txnPlaysRow.holds Try.pinned (OpenSpec.ofChange txnPlaysWrong)

/- THE SECOND FORM. 'bulk': how many values and letters a reading holds, each counted each time it is reached (what is shared counts as often as it is met; a slice's spare places count too). A statement '..UptoSaid' is the law's where the arguments, and the package variables that the reading takes, are together of bulk at most 1048576: NARROWER than '..Said'. Prove '..Said' where nothing that the law and all that it calls make is longer than what came in: it says more and counts as full. Else prove '..UptoSaid'. A law counts once. -/
mutual
def uptoBulk {H : Type} : DataW H → Nat
  | .lit (.string bytes) => bytes.length + 1
  | .lit _ => 1
  | .nil => 1
  | .ptr d => uptoBulk d + 1
  | .slice elems spare => uptoBulkAll elems + uptoBulkAll spare + 1
  | .agg parts => uptoBulkAll parts + 1
  | .iface _ d => uptoBulk d + 1
  | .map entries => uptoBulkEntries entries + 1
  | .held _ => 1
def uptoBulkAll {H : Type} : List (DataW H) → Nat
  | [] => 0
  | d :: r => uptoBulk d + uptoBulkAll r
def uptoBulkEntries {H : Type} : List (Lit × DataW H) → Nat
  | [] => 0
  | x :: r => uptoBulkEntry x + uptoBulkEntries r
def uptoBulkEntry {H : Type} : Lit × DataW H → Nat
  | (.string bytes, d) => bytes.length + uptoBulk d + 1
  | (_, d) => uptoBulk d + 1
 end
def uptoSmall : (H : Type) → List (DataW H) → Bool := fun _ ds => decide (uptoBulkAll ds ≤ 1048576)
def OpenSpec.upto (s : _root_.Go.ChangeSpec) : _root_.Go.OpenSpec := { _root_.Go.OpenSpec.ofChange s with cond := some uptoSmall }

/-- 'hbllaw11.VersNumbers', WHERE WHAT IT READS IS OF BULK AT MOST 1048576: true; the input reads as it did. -/
def versNumbersUptoRow : OpenClaim := { program := "ytffnabbchghokaa", sum := "3d903ac83937622caa61f4de2344be99d3e66f095577ec66730dc46848535987", func := "handbill/hbllaw11.VersNumbers", spec := "versNumbers", inPlace := ["slices.overlaps[handbill/omap.pair[string, []handbill/vers.Version[string]]]", "slices.overlaps[handbill/omap.pair[string, []handbill/vers.Version[int]]]"], unfollowed := true, recurses := true, apart := false, narrowed := true }
def VersNumbersUptoSaid : Prop := versNumbersUptoRow.holds Try.pinned (OpenSpec.upto versNumbersSpec)

/-- 'hbllaw11.VersStays', WHERE WHAT IT READS IS OF BULK AT MOST 1048576: true; the input reads as it did. -/
def versStaysUptoRow : OpenClaim := { program := "ytffnabbchghokaa", sum := "3d903ac83937622caa61f4de2344be99d3e66f095577ec66730dc46848535987", func := "handbill/hbllaw11.VersStays", spec := "versStays", inPlace := ["slices.overlaps[handbill/omap.pair[string, []handbill/vers.Version[string]]]"], unfollowed := true, recurses := true, apart := false, narrowed := true }
def VersStaysUptoSaid : Prop := versStaysUptoRow.holds Try.pinned (OpenSpec.upto versStaysSpec)

/-- 'hbllaw11.VersGone', WHERE WHAT IT READS IS OF BULK AT MOST 1048576: true; the input reads as it did. -/
def versGoneUptoRow : OpenClaim := { program := "ytffnabbchghokaa", sum := "3d903ac83937622caa61f4de2344be99d3e66f095577ec66730dc46848535987", func := "handbill/hbllaw11.VersGone", spec := "versGone", inPlace := ["slices.overlaps[handbill/omap.pair[string, []handbill/vers.Version[string]]]"], unfollowed := true, recurses := true, apart := false, narrowed := true }
def VersGoneUptoSaid : Prop := versGoneUptoRow.holds Try.pinned (OpenSpec.upto versGoneSpec)

/-- 'hbllaw11.VersOrder', WHERE WHAT IT READS IS OF BULK AT MOST 1048576: true; the input reads as it did. -/
def versOrderUptoRow : OpenClaim := { program := "ytffnabbchghokaa", sum := "3d903ac83937622caa61f4de2344be99d3e66f095577ec66730dc46848535987", func := "handbill/hbllaw11.VersOrder", spec := "versOrder", inPlace := ["slices.overlaps[handbill/omap.pair[string, []handbill/vers.Version[string]]]"], unfollowed := true, recurses := true, apart := false, narrowed := true }
def VersOrderUptoSaid : Prop := versOrderUptoRow.holds Try.pinned (OpenSpec.upto versOrderSpec)

/-- 'hbllaw11.VersPlays', WHERE WHAT IT READS IS OF BULK AT MOST 1048576: true; the input reads as it did. -/
def versPlaysUptoRow : OpenClaim := { program := "ytffnabbchghokaa", sum := "3d903ac83937622caa61f4de2344be99d3e66f095577ec66730dc46848535987", func := "handbill/hbllaw11.VersPlays", spec := "versPlays", inPlace := ["slices.overlaps[handbill/omap.pair[string, []handbill/vers.Version[string]]]"], unfollowed := true, recurses := true, apart := false, narrowed := true }
def VersPlaysUptoSaid : Prop := versPlaysUptoRow.holds Try.pinned (OpenSpec.upto versPlaysSpec)

/-- 'hbllaw12.TxnSees', WHERE WHAT IT READS IS OF BULK AT MOST 1048576: true; the input reads as it did. -/
def txnSeesUptoRow : OpenClaim := { program := "ytffnabbchghokaa", sum := "3d903ac83937622caa61f4de2344be99d3e66f095577ec66730dc46848535987", func := "handbill/hbllaw12.TxnSees", spec := "txnSees", inPlace := ["slices.overlaps[handbill/omap.pair[string, handbill/api.Write]]", "slices.overlaps[handbill/omap.pair[string, []handbill/vers.Version[string]]]"], unfollowed := true, recurses := true, apart := false, narrowed := true }
def TxnSeesUptoSaid : Prop := txnSeesUptoRow.holds Try.pinned (OpenSpec.upto txnSeesSpec)

/-- 'hbllaw12.TxnParts', WHERE WHAT IT READS IS OF BULK AT MOST 1048576: true; the input reads as it did. -/
def txnPartsUptoRow : OpenClaim := { program := "ytffnabbchghokaa", sum := "3d903ac83937622caa61f4de2344be99d3e66f095577ec66730dc46848535987", func := "handbill/hbllaw12.TxnParts", spec := "txnParts", inPlace := ["slices.overlaps[handbill/omap.pair[string, handbill/api.Write]]", "slices.overlaps[handbill/omap.pair[string, []handbill/vers.Version[string]]]"], unfollowed := true, recurses := true, apart := false, narrowed := true }
def TxnPartsUptoSaid : Prop := txnPartsUptoRow.holds Try.pinned (OpenSpec.upto txnPartsSpec)

/-- 'hbllaw12.TxnLast', WHERE WHAT IT READS IS OF BULK AT MOST 1048576: true; the input reads as it did. -/
def txnLastUptoRow : OpenClaim := { program := "ytffnabbchghokaa", sum := "3d903ac83937622caa61f4de2344be99d3e66f095577ec66730dc46848535987", func := "handbill/hbllaw12.TxnLast", spec := "txnLast", inPlace := ["slices.overlaps[handbill/omap.pair[string, handbill/api.Write]]", "slices.overlaps[handbill/omap.pair[string, []handbill/vers.Version[string]]]"], unfollowed := true, recurses := true, apart := false, narrowed := true }
def TxnLastUptoSaid : Prop := txnLastUptoRow.holds Try.pinned (OpenSpec.upto txnLastSpec)

/-- 'hbllaw12.TxnTwo', WHERE WHAT IT READS IS OF BULK AT MOST 1048576: true; the input reads as it did. -/
def txnTwoUptoRow : OpenClaim := { program := "ytffnabbchghokaa", sum := "3d903ac83937622caa61f4de2344be99d3e66f095577ec66730dc46848535987", func := "handbill/hbllaw12.TxnTwo", spec := "txnTwo", inPlace := ["slices.overlaps[handbill/omap.pair[string, handbill/api.Write]]", "slices.overlaps[handbill/omap.pair[string, []handbill/vers.Version[string]]]"], unfollowed := true, recurses := true, apart := false, narrowed := true }
def TxnTwoUptoSaid : Prop := txnTwoUptoRow.holds Try.pinned (OpenSpec.upto txnTwoSpec)

/-- 'hbllaw12.TxnPlays', WHERE WHAT IT READS IS OF BULK AT MOST 1048576: true; the input reads as it did. -/
def txnPlaysUptoRow : OpenClaim := { program := "ytffnabbchghokaa", sum := "3d903ac83937622caa61f4de2344be99d3e66f095577ec66730dc46848535987", func := "handbill/hbllaw12.TxnPlays", spec := "txnPlays", inPlace := ["slices.overlaps[handbill/omap.pair[string, handbill/api.Write]]", "slices.overlaps[handbill/omap.pair[string, []handbill/vers.Version[string]]]"], unfollowed := true, recurses := true, apart := false, narrowed := true }
def TxnPlaysUptoSaid : Prop := txnPlaysUptoRow.holds Try.pinned (OpenSpec.upto txnPlaysSpec)

end Rows
end Go.Proofs.Ytffnabbchghokaa
