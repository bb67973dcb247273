/-
  DATES: the document's Net.
-/
import Derived.Test.YtififikdlcohpaaDoorDtK
namespace Go.Proofs.YtififikdlcohpaaDoor
open Go Go.Ez Go.RowKit
set_option linter.unusedSimpArgs false
set_option linter.unusedVariables false
section
variable {w0 W W' : World} {G : Nat → Prop} {l R : List As} {RR : Value → World → Prop} {s z : Txt} {y mo d hh mi c : Int}
theorem netR_head (h : ¬ headR s) : netR s = (0, 4) := by classical
  unfold netR; rw [if_pos h]
theorem netR_digs (h : dg s 0 4 < 0 ∨ dg s 5 2 < 0 ∨ dg s 8 2 < 0 ∨ dg s 11 2 < 0 ∨ dg s 14 2 < 0 ∨ dg s 17 2 < 0) : netR s = (0, 4) := by
  classical
  by_cases hh : headR s
  · unfold netR
    rw [if_neg (fun g => g hh), if_pos h]
  · exact netR_head hh
theorem netR_go (hh : headR s) (h : ¬ (dg s 0 4 < 0 ∨ dg s 5 2 < 0 ∨ dg s 8 2 < 0 ∨ dg s 11 2 < 0 ∨ dg s 14 2 < 0 ∨ dg s 17 2 < 0)) : netR s = (match fracR s with
    | none => (0, 4)
    | some a => tailR (s.drop a) (dg s 0 4) (dg s 5 2) (dg s 8 2) (dg s 11 2) (dg s 14 2) (dg s 17 2)) := by
  classical
  unfold netR
  rw [if_neg (fun g => g hh), if_neg h]
  rfl
theorem char_at {i : Nat} (h : i < s.length) : ∃ c, s[i]? = some c := ⟨_, List.getElem?_eq_getElem h⟩
theorem frac_len : ∀ {a : Nat}, fracR s = some a → 19 ≤ a := by
  intro a h
  unfold fracR at h
  split at h
  · split at h
    · cases h
    · cases h; omega
  · cases h; exact Nat.le_refl _
theorem offR_rng {h m : Int} {c : Option UInt8} {o : Int} (e : offR h m c = some o) : -400000 ≤ o ∧ o ≤ 400000 := by
  unfold offR at e
  split at e
  · cases e
  · injection e with e
    split at e <;> omega
/-- hblref1.Net -/
theorem netR_spec (h : St w0 G l W) (hs : s.length ≤ 100000) (k : ∀ W', St w0 G l W' → RR (.tuple #[.int .i64 (netR s).1, .int .i64 (netR s).2]) W') : CallF Tryd.prog 31 #[strV s] W RR := by
  refine sh31_calls ?_
  unfold sh31
  have bad : ∀ W', St w0 G l W' → netR s = (0, 4) → RR (.tuple #[.int .i64 0, .int .i64 4]) W' := fun W' h e => by
    have := k W' h; rw [e] at this; exact this
  refine jni (fun vs W' => vs = [strV s] ∧ headR s ∧ St w0 G l W') ?_ ?_
  rotate_left
  · refine x_len (a_lss (ifd (fun hc => bad W h (netR_head fun hh => by have := hh.1; omega)) fun h20 => ?_))
    obtain ⟨c4, e4⟩ := char_at (s := s) (i := 4) (by omega)
    refine x_index (i := 4) e4 (w_neC 45 rfl (ifd (fun hc => bad W h (netR_head fun hh => hc (by have := hh.2.1; rw [e4] at this; exact Option.some.inj this))) fun h4 => ?_))
    obtain ⟨c7, e7⟩ := char_at (s := s) (i := 7) (by omega)
    refine x_index (i := 7) e7 (w_neC 45 rfl (ifd (fun hc => bad W h (netR_head fun hh => hc (by have := hh.2.2.1; rw [e7] at this; exact Option.some.inj this))) fun h7 => ?_))
    obtain ⟨c10, e10⟩ := char_at (s := s) (i := 10) (by omega)
    obtain ⟨c13, e13⟩ := char_at (s := s) (i := 13) (by omega)
    obtain ⟨c16, e16⟩ := char_at (s := s) (i := 16) (by omega)
    have x4 : c4 = 45 := Classical.not_not.1 h4
    have x7 : c7 = 45 := Classical.not_not.1 h7
    subst x4; subst x7
    have fin : (c10 = 84 ∨ c10 = 116) → c13 = 58 → c16 = 58 → headR s := fun a b c => by
      subst b; subst c
      exact ⟨by omega, e4, e7, by rw [e10]; exact a.elim (fun e => .inl (by rw [e])) (fun e => .inr (by rw [e])), e13, e16⟩
    refine x_index (i := 10) e10 (w_neC 84 rfl (ifd (fun hn1 => ?_) fun h10 => ?_))
    · refine x_index (i := 10) e10 (w_neC 116 rfl (ifd (fun hn2 => bad W h (netR_head fun hh => ?_)) fun h10 => ?_))
      · have := hh.2.2.2.1; rw [e10] at this
        rcases this with e | e
        · exact hn1 (Option.some.inj e)
        · exact hn2 (Option.some.inj e)
      refine x_index (i := 13) e13 (w_neC 58 rfl (ifd (fun hc => bad W h (netR_head fun hh => hc (by have := hh.2.2.2.2.1; rw [e13] at this; exact Option.some.inj this))) fun h13 => ?_))
      refine x_index (i := 16) e16 (w_neC 58 rfl (ifd (fun hc => bad W h (netR_head fun hh => hc (by have := hh.2.2.2.2.2; rw [e16] at this; exact Option.some.inj this))) fun h16 => ?_))
      exact ⟨rfl, fin (.inr (Classical.not_not.1 h10)) (Classical.not_not.1 h13) (Classical.not_not.1 h16), h⟩
    · refine x_index (i := 13) e13 (w_neC 58 rfl (ifd (fun hc => bad W h (netR_head fun hh => hc (by have := hh.2.2.2.2.1; rw [e13] at this; exact Option.some.inj this))) fun h13 => ?_))
      refine x_index (i := 16) e16 (w_neC 58 rfl (ifd (fun hc => bad W h (netR_head fun hh => hc (by have := hh.2.2.2.2.2; rw [e16] at this; exact Option.some.inj this))) fun h16 => ?_))
      exact ⟨rfl, fin (.inl (Classical.not_not.1 h10)) (Classical.not_not.1 h13) (Classical.not_not.1 h16), h⟩
  clear h
  rintro vs W _ ⟨rfl, hh, h⟩
  refine app1 ?_
  refine digR_spec (a := 0) (n := 4) (by decide) fun v0 e0 => digR_spec (a := 5) (n := 2) (by decide) fun v5 e5 => digR_spec (a := 8) (n := 2) (by decide) fun v8 e8 => digR_spec (a := 11) (n := 2) (by decide) fun v11 e11 => digR_spec (a := 14) (n := 2) (by decide) fun v14 e14 => digR_spec (a := 17) (n := 2) (by decide) fun v17 e17 => ?_
  rw [e0 (by decide), e5 (by decide), e8 (by decide), e11 (by decide), e14 (by decide), e17 (by decide)]
  clear e0 e5 e8 e11 e14 e17 v0 v5 v8 v11 v14 v17
  refine a_lss (ifd (fun hc => bad W h (netR_digs (by omega))) fun g0 => ?_)
  refine a_lss (ifd (fun hc => bad W h (netR_digs (by omega))) fun g5 => ?_)
  refine a_lss (ifd (fun hc => bad W h (netR_digs (by omega))) fun g8 => ?_)
  refine a_lss (ifd (fun hc => bad W h (netR_digs (by omega))) fun g11 => ?_)
  refine a_lss (ifd (fun hc => bad W h (netR_digs (by omega))) fun g14 => ?_)
  refine a_lss (ifd (fun hc => bad W h (netR_digs (by omega))) fun g17 => ?_)
  have hgo := netR_go hh (by omega)
  have h20 := hh.1
  generalize dg s 0 4 = y at *
  generalize dg s 5 2 = mo at *
  generalize dg s 8 2 = d at *
  generalize dg s 11 2 = ho at *
  generalize dg s 14 2 = mi at *
  generalize dg s 17 2 = sc at *
  refine jni (fun vs W' => ∃ a : Nat, vs = [strV s, .int .i64 y, .int .i64 mo, .int .i64 d, .int .i64 ho, .int .i64 mi, .int .i64 sc, nV .i64 a] ∧ fracR s = some a ∧ a ≤ s.length ∧ St w0 G l W') ?_ ?_
  · clear h
    rintro vs W _ ⟨a, rfl, ha, hal, h⟩
    refine app8 ?_
    rw [ha] at hgo
    replace hgo : netR s = tailR (s.drop a) y mo d ho mi sc := hgo
    refine x_cutL hal ?_
    generalize s.drop a = z at *
    unfold tailR at hgo
    refine w_eqlL (b := [90]) (ifd (fun h1 => ?_) fun h1 => ?_)
    · rw [if_pos (.inl h1)] at hgo
      refine madeR_spec (off := 0) (by decide) (a_ext0 (a_ext1 ?_))
      rw [← hgo]; exact k W h
    refine w_eqlL (b := [122]) (ifd (fun h2 => ?_) fun h2 => ?_)
    · rw [if_pos (.inr h2)] at hgo
      refine madeR_spec (off := 0) (by decide) (a_ext0 (a_ext1 ?_))
      rw [← hgo]; exact k W h
    rw [if_neg (by rintro (e | e); exact h1 e; exact h2 e)] at hgo
    refine jni (fun vs W' => vs = [.int .i64 y, .int .i64 mo, .int .i64 d, .int .i64 ho, .int .i64 mi, .int .i64 sc, strV z] ∧ (z.length = 6 ∧ (z[0]? = some 43 ∨ z[0]? = some 45) ∧ z[3]? = some 58) ∧ St w0 G l W') ?_ ?_
    · clear h
      rintro vs W _ ⟨rfl, hz, h⟩
      refine app7 ?_
      rw [if_pos hz] at hgo
      obtain ⟨c, hc⟩ := char_at (s := z) (i := 0) (by omega)
      rw [hc] at hgo
      refine ⟨St w0 G l, h.drew, ?_⟩
      replace h := h.drew
      refine x_index (i := 0) hc ?_
      refine digR_spec (a := 1) (n := 2) (by decide) fun v1 e1 => digR_spec (a := 4) (n := 2) (by decide) fun v2 e2 => ?_
      rw [e1 (by decide), e2 (by decide)]
      refine offsetR_spec (a_ext0 (a_ext1 ?_))
      cases ho2 : offR (dg z 1 2) (dg z 4 2) (some c) with
      | none =>
        rw [ho2] at hgo
        exact a_not (ift (bad _ h hgo))
      | some o =>
        rw [ho2] at hgo
        refine a_not (iff' ?_)
        refine madeR_spec (offR_rng ho2) (a_ext0 (a_ext1 ?_))
        replace hgo : netR s = rangeP y mo d ho mi sc o := hgo
        have := k _ h
        rw [hgo] at this
        exact this
    · have no : ¬ (z.length = 6 ∧ (z[0]? = some 43 ∨ z[0]? = some 45) ∧ z[3]? = some 58) → RR (.tuple #[.int .i64 0, .int .i64 4]) W := fun hn => by
        rw [if_neg hn] at hgo
        exact bad W h hgo
      refine x_len (w_neq (ifd (fun hc => no fun e => hc (by omega)) fun h6 => ?_))
      obtain ⟨c0, q0⟩ := char_at (s := z) (i := 0) (by omega)
      obtain ⟨c3, q3⟩ := char_at (s := z) (i := 3) (by omega)
      refine x_index (i := 0) q0 (w_neC 43 rfl (ifd (fun n43 => ?_) fun e43 => ?_))
      · refine x_index (i := 0) q0 (w_neC 45 rfl (ifd (fun n45 => no fun e => ?_) fun e45 => ?_))
        · rw [q0] at e
          rcases e.2.1 with e | e
          · exact n43 (Option.some.inj e)
          · exact n45 (Option.some.inj e)
        refine x_index (i := 3) q3 (w_neC 58 rfl (ifd (fun n58 => no fun e => ?_) fun e58 => ?_))
        · rw [q3] at e; exact n58 (Option.some.inj e.2.2)
        · exact ⟨rfl, ⟨by omega, .inr (by rw [q0, Classical.not_not.1 e45]), by rw [q3, Classical.not_not.1 e58]⟩, h⟩
      · refine x_index (i := 3) q3 (w_neC 58 rfl (ifd (fun n58 => no fun e => ?_) fun e58 => ?_))
        · rw [q3] at e; exact n58 (Option.some.inj e.2.2)
        · exact ⟨rfl, ⟨by omega, .inl (by rw [q0, Classical.not_not.1 e43]), by rw [q3, Classical.not_not.1 e58]⟩, h⟩
  · obtain ⟨c19, q19⟩ := char_at (s := s) (i := 19) (by omega)
    refine x_index (i := 19) q19 (w_eqC 46 rfl (ifd (fun e46 => ?_) fun n46 => ?_))
    rotate_left
    · exact ⟨19, rfl, by unfold fracR; rw [q19, if_neg fun e => n46 (Option.some.inj e)], by omega, h⟩
    subst e46
    refine a_add64 (by decide) (by decide) ?_
    refine jni (fun vs W' => vs = [strV s, .int .i64 y, .int .i64 mo, .int .i64 d, .int .i64 ho, .int .i64 mi, .int .i64 sc, nV .i64 (20 + ((s.drop 20).takeWhile isDig).length)] ∧ St w0 G l W') ?_ ?_
    · clear h
      rintro vs W _ ⟨rfl, h⟩
      refine app8 (w_eql (ifd (fun hc => ?_) fun hc => ?_))
      · have : ((s.drop 20).takeWhile isDig).length = 0 := by omega
        rw [show fracR s = none by unfold fracR; rw [q19, if_pos rfl, if_pos this]] at hgo
        exact bad W h hgo
      · have hne : ¬ ((s.drop 20).takeWhile isDig).length = 0 := by omega
        refine ⟨_, rfl, by unfold fracR; rw [q19, if_pos rfl, if_neg hne], ?_, h⟩
        have := (List.takeWhile_prefix (l := s.drop 20) isDig).length_le
        rw [List.length_drop] at this
        omega
    · refine lpx (α := Nat) (fun i => [nV .i64 (20 + i)]) (fun i W' => 20 + i ≤ s.length ∧ (∀ j x, j < i → (s.drop 20)[j]? = some x → isDig x = true) ∧ St w0 G l W') (fun i => s.length - i) 0 (fun _ => rfl) rfl ⟨by omega, fun j x hj => absurd hj (Nat.not_lt_zero _), h⟩ ?_
      clear h
      rintro next i W hnext ⟨hi, hall, h⟩
      refine app1 ?_
      have stop : (∀ x, (s.drop 20)[i]? = some x → isDig x = false) → (s.drop 20).takeWhile isDig = (s.drop 20).take i := fun hx => takeWhile_stop (by rw [List.length_drop]; omega) hall hx
      have slen : (∀ x, (s.drop 20)[i]? = some x → isDig x = false) → ((s.drop 20).takeWhile isDig).length = i := fun hx => by
        rw [stop hx, List.length_take, List.length_drop]; omega
      refine x_len (a_lss (ifd (fun hc => ?_) fun hc => ?_))
      · refine digR_spec (a := 20 + i) (n := 1) (by omega) fun v e => ?_
        rw [e (by decide)]
        obtain ⟨x, hx⟩ := char_at (s := s) (i := 20 + i) (by omega)
        have hx2 : (s.drop 20)[i]? = some x := by rw [List.getElem?_drop]; exact hx
        refine a_geq (ifd (fun hg => ?_) fun hg => ?_)
        · refine a_add64 (by omega) (by omega) ⟨rfl, rfl, rfl, rfl, rfl, rfl, rfl, ?_⟩
          rw [show (((20 + i : Nat) : Int) + 1) = ((20 + (i + 1) : Nat) : Int) by push_cast; omega]
          refine hnext (i + 1) W (by omega) ⟨by omega, fun j x' hj hx' => ?_, h⟩
          by_cases hji : j < i
          · exact hall j x' hji hx'
          · obtain rfl : j = i := by omega
            rw [hx2] at hx'; cases hx'
            cases hd : isDig x
            · have := dg_not (s := s) (a := 20 + j) (n := 1) (i := 0) (by decide) hx hd
              omega
            · rfl
        · have hd : isDig x = false := by
            cases hd : isDig x
            · rfl
            · exfalso
              rcases dg_cases s (20 + i) 1 with ⟨_, _, _, g⟩ | ⟨g, _⟩
              · omega
              · refine g ⟨by omega, ?_⟩
                have : (s.drop (20 + i)).take 1 = [x] := by
                  obtain ⟨hk1, hk2⟩ := List.getElem?_eq_some_iff.1 hx
                  rw [List.drop_eq_getElem_cons hk1, hk2]; rfl
                rw [this]; simp [hd]
          have := slen fun x' hx' => by rw [hx2] at hx'; cases hx'; exact hd
          rw [this]
          exact ⟨rfl, h⟩
      · have := slen fun x' hx' => by
          rw [List.getElem?_eq_none (by rw [List.length_drop]; omega)] at hx'; cases hx'
        rw [this]
        exact ⟨rfl, h⟩
end
end Go.Proofs.YtififikdlcohpaaDoor
