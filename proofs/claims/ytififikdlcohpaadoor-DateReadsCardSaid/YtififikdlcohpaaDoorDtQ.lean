/-
  DATES, plainly: what the readers of either form answer, and the same told by options.
-/
import Derived.Test.YtififikdlcohpaaDoorDtP
namespace Go.Ez
open Go
set_option linter.unusedSimpArgs false
set_option linter.unusedVariables false
/-- a reader's state: the text left, is it none? -/
abbrev RSt := Txt × Bool
def eatsP (p : Txt) (x : RSt) : RSt := (eatS x.1 p, x.2)
def signP (x : RSt) : Int × RSt := if isPreD [43] x.1 then (1, eatsP [43] x) else (-1, wantsP [45] (eatsP [43] x))
def badIf (b : Bool) (x : RSt) : RSt := (x.1, x.2 || b)
def offsetP (btw : Txt) (x : RSt) : Int × RSt :=
  let s := signP x
  let h := numberP 2 2 s.2
  let w := wantsP btw h.2
  let m := numberP 2 2 w
  (s.1 * (h.1 * 3600 + m.1 * 60), badIf (decide (23 < h.1 ∨ 59 < m.1)) m.2)
def rangeP (y mo d h mi s off : Int) : Int × Int :=
  if (makeP y mo d h mi s).2 && within ((makeP y mo d h mi s).1 - off) then ((makeP y mo d h mi s).1 - off, 0) else (0, 1)
def secondP (x : RSt) (y mo d h mi s off : Int) : Int × Int := if x.2 || decide (x.1 ≠ []) then (0, 4) else rangeP y mo d h mi s off
def fractionP (x : RSt) : RSt := if isPreD [46] x.1 then ((numberP 1 1 (eatsP [46] x)).2.1.dropWhile isDig, (numberP 1 1 (eatsP [46] x)).2.2) else eatsP [46] x
def teeP (x : RSt) : RSt := if isPreD [84] x.1 then eatsP [84] x else wantsP [116] (eatsP [84] x)
def zedP (x : RSt) : Int × RSt :=
  if isPreD [90] x.1 then (0, eatsP [90] x) else if isPreD [122] (eatS x.1 [90]) then (0, eatsP [122] (eatsP [90] x)) else offsetP [58] (eatsP [122] (eatsP [90] x))
/-- RFC 3339 -/
def netP (s : Txt) : Int × Int :=
  let y := numberP 4 4 (s, false)
  let mo := numberP 2 2 (wantsP [45] y.2)
  let d := numberP 2 2 (wantsP [45] mo.2)
  let h := numberP 2 2 (teeP d.2)
  let mi := numberP 2 2 (wantsP [58] h.2)
  let c := numberP 2 2 (wantsP [58] mi.2)
  let z := zedP (fractionP c.2)
  secondP z.2 y.1 mo.1 d.1 h.1 mi.1 c.1 z.1

def yearP (x : RSt) : Int × RSt :=
  (if (digs 4 x.1).length = 4 then (numberP 2 4 x).1 else if (numberP 2 4 x).1 ≤ 68 then 2000 + (numberP 2 4 x).1 else 1900 + (numberP 2 4 x).1, badIf (decide ((digs 4 x.1).length = 3)) (numberP 2 4 x).2)
def wdaysL : List Txt := [[77, 111, 110], [84, 117, 101], [87, 101, 100], [84, 104, 117], [70, 114, 105], [83, 97, 116], [83, 117, 110]]
def monthsL : List Txt := [[74, 97, 110], [70, 101, 98], [77, 97, 114], [65, 112, 114], [77, 97, 121], [74, 117, 110], [74, 117, 108], [65, 117, 103], [83, 101, 112], [79, 99, 116], [78, 111, 118], [68, 101, 99]]
def zonesL : List Txt := [[71, 77, 84], [85, 84], [90], [69, 83, 84], [69, 68, 84], [67, 83, 84], [67, 68, 84], [77, 83, 84], [77, 68, 84], [80, 83, 84], [80, 68, 84]]
def hoursL : List Int := [0, 0, 0, -5, -4, -6, -5, -7, -6, -8, -7]
def zoneP (x : RSt) : Int × RSt := if 0 < (oneP zonesL x.1).1 then ((hoursL.getD ((oneP zonesL x.1).1 - 1) 0) * 3600, ((oneP zonesL x.1).2, x.2)) else offsetP [] ((oneP zonesL x.1).2, x.2)
def wdayP (s : Txt) : RSt := if 0 < (oneP wdaysL s).1 then wantsP [44, 32] ((oneP wdaysL s).2, false) else ((oneP wdaysL s).2, false)
def monthP (x : RSt) : Nat × RSt := ((oneP monthsL x.1).1, badIf (decide ((oneP monthsL x.1).1 = 0)) ((oneP monthsL x.1).2, x.2))
def colP (x : RSt) : Int × RSt := if isPreD [58] x.1 then numberP 2 2 (eatsP [58] x) else (0, eatsP [58] x)
/-- RFC 822 -/
def mailP (s : Txt) : Int × Int :=
  let d := numberP 1 2 (wdayP s)
  let m := monthP (wantsP [32] d.2)
  let y := yearP (wantsP [32] m.2)
  let h := numberP 2 2 (wantsP [32] y.2)
  let mi := numberP 2 2 (wantsP [58] h.2)
  let c := colP mi.2
  let z := zoneP (wantsP [32] c.2)
  secondP z.2 y.1 (m.1 : Int) d.1 h.1 mi.1 c.1 z.1
def anyP (s : Txt) : Int × Int := if (netP s).2 = 4 then mailP s else netP s

theorem eatS_le (s p : Txt) : (eatS s p).length ≤ s.length := by unfold eatS; split <;> simp
theorem wantsP_le (p : Txt) (x : RSt) : (wantsP p x).1.length ≤ x.1.length := eatS_le _ _
theorem numberP_le (l m : Nat) (x : RSt) : (numberP l m x).2.1.length ≤ x.1.length := by show (x.1.drop _).length ≤ _; simp
theorem oneP_le2 (ls : List Txt) (s : Txt) : (oneP ls s).2.length ≤ s.length := by
  induction ls with
  | nil => exact Nat.le_refl _
  | cons p ls ih => unfold oneP; split; · simp
                    · exact ih
theorem wdayP_le (s : Txt) : (wdayP s).1.length ≤ s.length := by
  have := oneP_le2 wdaysL s
  unfold wdayP
  split
  · exact Nat.le_trans (wantsP_le _ _) this
  · exact this
theorem monthP_le (x : RSt) : (monthP x).2.1.length ≤ x.1.length := oneP_le2 _ _

/-! ### what is told -/
def digC (n : Nat) : UInt8 := UInt8.ofNat (48 + n % 10)
def digL (n : Nat) : Nat → Txt
  | 0 => []
  | w + 1 => digC (n / 10 ^ w) :: digL n w
theorem digL_len (n w : Nat) : (digL n w).length = w := by
  induction w with
  | zero => rfl
  | succ w ih => simp [digL, ih]

/-! ### by options -/
def numO (n : Nat) (s : Txt) : Option (Int × Txt) := if n ≤ s.length ∧ (s.take n).all isDig = true then some (numV (s.take n) 0, s.drop n) else none
def litO (p : Txt) (s : Txt) : Option Txt := if isPreD p s then some (s.drop p.length) else none
/-- a state, and an option -/
def Sto (x : RSt) : Option Txt → Prop
  | some s => x = (s, false)
  | none => x.2 = true

theorem digs_eq (n : Nat) (s : Txt) : digs n s = (s.take n).takeWhile isDig := rfl
theorem takeWhile_len {c : UInt8 → Bool} : ∀ {l : Txt}, (l.takeWhile c).length = l.length ↔ l.all c = true
  | [] => by simp
  | a :: l => by
    by_cases h : c a = true
    · simp [List.takeWhile_cons, h, takeWhile_len (c := c) (l := l)]
    · simp [List.takeWhile_cons, h]
theorem takeWhile_all {c : UInt8 → Bool} {l : Txt} (h : l.all c = true) : l.takeWhile c = l := by
  have := List.takeWhile_append_dropWhile (p := c) (l := l)
  have h2 : l.dropWhile c = [] := by
    apply List.eq_nil_of_length_eq_zero
    have h3 := congrArg List.length this
    rw [List.length_append, takeWhile_len.2 h] at h3
    omega
  rw [h2, List.append_nil] at this
  exact this
theorem numberP_bad {l m : Nat} {x : RSt} (h : x.2 = true) : (numberP l m x).2.2 = true := by unfold numberP; simp [h]
theorem wantsP_bad {p : Txt} {x : RSt} (h : x.2 = true) : (wantsP p x).2 = true := by unfold wantsP; simp [h]
theorem number_ok {n : Nat} {s : Txt} : (∃ v t, numO n s = some (v, t) ∧ numberP n n (s, false) = (v, (t, false))) ∨ (numO n s = none ∧ (numberP n n (s, false)).2.2 = true) := by
  unfold numO numberP
  by_cases h : n ≤ s.length ∧ (s.take n).all isDig = true
  · left
    have hd : digs n s = s.take n := by rw [digs_eq]; exact takeWhile_all h.2
    rw [if_pos h]
    refine ⟨_, _, rfl, ?_⟩
    simp only [hd, List.length_take, Nat.min_eq_left h.1, Nat.lt_irrefl, decide_false, Bool.or_false]
  · right
    rw [if_neg h]
    refine ⟨rfl, ?_⟩
    simp only [Bool.false_or, decide_eq_true_eq]
    rcases Nat.lt_or_ge (digs n s).length n with hl | hl
    · exact hl
    · exfalso
      have h1 := digs_len (most := n) (s := s)
      refine h ⟨by omega, ?_⟩
      rw [← takeWhile_len (c := isDig)]
      rw [digs_eq] at hl h1
      have : ((s.take n).takeWhile isDig).length ≤ (s.take n).length := (List.takeWhile_prefix _).length_le
      rw [List.length_take] at this ⊢
      omega
theorem wants_ok {p s : Txt} : (∃ t, litO p s = some t ∧ wantsP p (s, false) = (t, false)) ∨ (litO p s = none ∧ (wantsP p (s, false)).2 = true) := by
  unfold litO wantsP
  cases h : isPreD p s
  · right; simp
  · left; refine ⟨s.drop p.length, by simp, ?_⟩; simp [eatS, h]
end Go.Ez
