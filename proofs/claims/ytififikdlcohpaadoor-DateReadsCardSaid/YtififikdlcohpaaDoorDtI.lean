/-
  DATES, plainly: mail's times, as they are told, are read.
-/
import Derived.Test.YtififikdlcohpaaDoorDtG
import Derived.KernelRfl
namespace Go.Ez
open Go
set_option linter.unusedSimpArgs false
set_option linter.unusedVariables false
/-! ### what is none stays none -/
theorem eatsP_bad {p : Txt} {x : RSt} (h : x.2 = true) : (eatsP p x).2 = true := h
theorem badIf_bad {b : Bool} {x : RSt} (h : x.2 = true) : (badIf b x).2 = true := by unfold badIf; rw [h]; rfl
theorem signP_bad {x : RSt} (h : x.2 = true) : (signP x).2.2 = true := by unfold signP; split; · exact h
                                                                          · exact wantsP_bad h
theorem offsetP_bad {p : Txt} {x : RSt} (h : x.2 = true) : (offsetP p x).2.2 = true := badIf_bad (numberP_bad (wantsP_bad (numberP_bad (signP_bad h))))
theorem yearP_bad {x : RSt} (h : x.2 = true) : (yearP x).2.2 = true := badIf_bad (numberP_bad h)
theorem monthP_bad {x : RSt} (h : x.2 = true) : (monthP x).2.2 = true := badIf_bad h
theorem colP_bad {x : RSt} (h : x.2 = true) : (colP x).2.2 = true := by unfold colP; split; · exact numberP_bad h
                                                                        · exact h
theorem zoneP_bad {x : RSt} (h : x.2 = true) : (zoneP x).2.2 = true := by unfold zoneP; split; · exact h
                                                                          · exact offsetP_bad h
theorem secondP_bad {x : RSt} {y mo d h mi s off : Int} (hx : x.2 = true) : secondP x y mo d h mi s off = (0, 4) := by unfold secondP; rw [hx]; rfl
/-- what follows a day's name -/
def mailT (a : RSt) : Int × Int :=
  let d := numberP 1 2 a
  let m := monthP (wantsP [32] d.2)
  let y := yearP (wantsP [32] m.2)
  let h := numberP 2 2 (wantsP [32] y.2)
  let mi := numberP 2 2 (wantsP [58] h.2)
  let c := colP mi.2
  let z := zoneP (wantsP [32] c.2)
  secondP z.2 y.1 (m.1 : Int) d.1 h.1 mi.1 c.1 z.1
theorem mailP_T (s : Txt) : mailP s = mailT (wdayP s) := rfl
theorem mailT_bad {a : RSt} (h : a.2 = true) : mailT a = (0, 4) :=
  secondP_bad (zoneP_bad (wantsP_bad (colP_bad (numberP_bad (wantsP_bad (numberP_bad (wantsP_bad (yearP_bad (wantsP_bad (monthP_bad (wantsP_bad (numberP_bad h))))))))))))

/-! ### as they are told -/
theorem digs_end {D r : Txt} {c : UInt8} {m : Nat} (hD : D.all isDig = true) (hm : D.length ≤ m) (hc : isDig c = false) : digs m (D ++ c :: r) = D := by
  rw [digs_stop (i := D.length) hm (by simp) (fun j y hj hy => ?_) (fun _ y hy => ?_), List.take_left' rfl]
  · rw [List.getElem?_append_left hj] at hy
    exact List.all_eq_true.1 hD y (List.mem_of_getElem? hy)
  · rw [List.getElem?_append_right (Nat.le_refl _), Nat.sub_self] at hy
    cases hy
    exact hc
theorem number_end {v n l m : Nat} {r : Txt} {c : UInt8} (hl : l ≤ n) (hn : n ≤ m) (hv : v < 10 ^ n) (hc : isDig c = false) : numberP l m (digL v n ++ c :: r, false) = ((v : Int), (c :: r, false)) := by
  unfold numberP
  simp only [digs_end (digL_dig v n) (by rw [digL_len]; exact hn) hc, digL_len, List.drop_left' (digL_len v n), Bool.false_or]
  have := numV_digL v n 0
  rw [Nat.zero_mul, Nat.zero_add, Nat.mod_eq_of_lt hv] at this
  rw [show (0 : Int) = ((0 : Nat) : Int) from rfl, this, decide_eq_false (by omega)]
theorem one_dig {c : UInt8} {r : Txt} (hc : isDig c = true) : oneP wdaysL (c :: r) = (0, c :: r) := by
  refine oneP_no fun j q hq => ?_
  have hm := List.mem_of_getElem? hq
  unfold isDig at hc
  simp only [Bool.and_eq_true, decide_eq_true_eq] at hc
  have : ∀ q ∈ wdaysL, 65 ≤ (q.headD 0).toNat := by decide
  have ha := this q hm
  cases q with
  | nil => exact absurd ha (by decide)
  | cons a t =>
  replace ha : 65 ≤ a.toNat := ha
  unfold isPreD
  refine decide_eq_false fun e => ?_
  rw [List.length_cons, List.take_succ_cons] at e
  injection e with e1 _
  subst e1
  omega
theorem wday_dig {v n : Nat} {r : Txt} : wdayP (digL v (n + 1) ++ r) = (digL v (n + 1) ++ r, false) := by
  unfold wdayP
  rw [show digL v (n + 1) ++ r = digC (v / 10 ^ n) :: (digL v n ++ r) from rfl, one_dig (digC_dig _).1]
  rfl
theorem wday_tue (r : Txt) : wdayP ([84, 117, 101, 44, 32] ++ r) = (r, false) := by kernel_rfl
theorem wday_tuesday (r : Txt) : (wdayP ([84, 117, 101, 115, 100, 97, 121, 44, 32] ++ r)).2 = true := by kernel_rfl
theorem month_at (i : Nat) (hi : i < 12) (r : Txt) : monthP ((monthsL.getD i []) ++ r, false) = (i + 1, (r, false)) := by
  match i, hi with
  | 0, _ | 1, _ | 2, _ | 3, _ | 4, _ | 5, _ | 6, _ | 7, _ | 8, _ | 9, _ | 10, _ | 11, _ => exact (show monthP _ = _ by kernel_rfl)
def zonesT : List Txt := [[71, 77, 84], [69, 83, 84], [69, 68, 84], [67, 83, 84], [67, 68, 84], [77, 83, 84], [77, 68, 84], [80, 83, 84], [80, 68, 84], [43, 48, 49, 51, 48]]
def offsT : List Int := [0, -5, -4, -6, -5, -7, -6, -8, -7, 0]
def shiftT (i : Nat) : Int := if i = 9 then 5400 else offsT.getD i 0 * 3600
theorem zone_at (i : Nat) (hi : i < 10) : zoneP (zonesT.getD i [], false) = (shiftT i, ([], false)) := by
  match i, hi with
  | 0, _ | 1, _ | 2, _ | 3, _ | 4, _ | 5, _ | 6, _ | 7, _ | 8, _ | 9, _ => decide +kernel
theorem shiftT_rng (i : Nat) (hi : i < 10) : -28800 ≤ shiftT i ∧ shiftT i ≤ 5400 := by
  match i, hi with
  | 0, _ | 1, _ | 2, _ | 3, _ | 4, _ | 5, _ | 6, _ | 7, _ | 8, _ | 9, _ => decide
theorem year_two {y : Nat} (hy : 1970 ≤ y) (hy2 : y ≤ 2068) (r : Txt) : yearP (digL y 2 ++ 32 :: r, false) = ((y : Int), (32 :: r, false)) := by
  have e : digL y 2 = digL (y % 100) 2 := by unfold digL digL digL digC; rw [Nat.pow_one, Nat.pow_zero]; congr 2 <;> congr 1 <;> omega
  have hd : digs 4 (digL y 2 ++ 32 :: r) = digL y 2 := digs_end (digL_dig _ _) (by rw [digL_len]; decide) (by decide)
  have hn : numberP 2 4 (digL y 2 ++ 32 :: r, false) = (((y % 100 : Nat) : Int), (32 :: r, false)) := by
    rw [e]
    exact number_end (Nat.le_refl _) (by decide) (Nat.mod_lt _ (by decide)) (by decide)
  unfold yearP
  simp only [hd, digL_len, hn, badIf]
  rw [if_neg (by decide)]
  congr 1
  split <;> omega
theorem year_four {y : Nat} (hy : y < 10000) (r : Txt) : yearP (digL (y / 100) 2 ++ (digL y 2 ++ 32 :: r), false) = ((y : Int), (32 :: r, false)) := by
  have e : digL (y / 100) 2 ++ (digL y 2 ++ 32 :: r) = digL y 4 ++ 32 :: r := by
    unfold digL digL digL digL digL digC
    simp only [Nat.pow_one, Nat.pow_zero, Nat.div_one, List.cons_append, List.nil_append]
    rw [show y / 100 / 10 = y / 10 ^ 3 by omega, show y / 100 = y / 10 ^ 2 by omega]
  have hd : digs 4 (digL y 4 ++ 32 :: r) = digL y 4 := digs_end (digL_dig _ _) (by rw [digL_len]; decide) (by decide)
  have hn : numberP 2 4 (digL y 4 ++ 32 :: r, false) = ((y : Int), (32 :: r, false)) := number_end (by decide) (by decide) (by omega) (by decide)
  rw [e]
  unfold yearP
  simp only [hd, digL_len, hn, badIf]
  rfl
/-- what stands behind the year -/
def tailM (h mi s i : Nat) : Txt := 32 :: (digL h 2 ++ 58 :: (digL mi 2 ++ 58 :: (digL s 2 ++ 32 :: zonesT.getD i [])))
theorem mailT_told {d mo y h mi s i : Nat} {Y : Txt} (hd : d < 100) (hm : mo < 12) (hh : h < 100) (hmi : mi < 100) (hs : s < 100) (hi : i < 10) (hY : ∀ r : Txt, yearP (Y ++ 32 :: r, false) = ((y : Int), (32 :: r, false))) :
    mailT (digL d 2 ++ 32 :: (monthsL.getD mo [] ++ 32 :: (Y ++ tailM h mi s i)), false) = rangeP y (mo + 1 : Nat) d h mi s (shiftT i) := by
  unfold mailT tailM
  rw [number_end (l := 1) (m := 2) (by decide) (Nat.le_refl _) (by omega) (by decide)]
  simp only [wants1]
  rw [month_at mo hm]
  simp only [wants1]
  rw [hY]
  simp only [wants1]
  rw [number_digL (n := 2) (by omega)]
  simp only [wants1]
  rw [number_digL (n := 2) (by omega)]
  have col : ∀ r : Txt, colP (58 :: (digL s 2 ++ r), false) = ((s : Int), (r, false)) := fun r => by
    unfold colP
    rw [pre1, if_pos rfl, eats1, number_digL (n := 2) (by omega)]
  simp only [col, wants1]
  rw [zone_at i hi]
  unfold secondP
  rw [if_neg (by simp)]
end Go.Ez
