/-
  KEYS: key, Parse, first: what each answers; KeysApart: the walk.
-/
import Derived.Test.YtgflkjhljggeiaaDoorKyB
namespace Go.Proofs.YtgflkjhljggeiaaDoor
open Go Go.Ez Go.RowKit Go.Lib
set_option linter.unusedSimpArgs false
set_option linter.unusedVariables false
theorem atoiV_le (s : Txt) : atoiV s ≤ 9223372036854775807 := by
  unfold atoiV
  split
  · rename_i v h
    unfold atoiAll at h
    split at h
    · cases h
    · simp only [] at h
      split at h
      · cases h
      · cases h
      · split at h
        · cases h
        · split at h
          · cases h
          · rename_i u _ h1 h2
            cases h
            split <;> omega
  · unfold atoiSat; split <;> decide
  · decide
theorem splA_ok {A : Nat → Txt} {N : Nat} (hA : ∀ i, (A i).length ≤ N) : (splA A).user.length ≤ N ∧ (splA A).feed.length ≤ N ∧ (splA A).name.length ≤ N ∧ (splA A).num ≤ 9223372036854775807 := by
  unfold splA
  have h1 := hA 1
  have h2 := hA 2
  have a2 := atoiV_le (A 2)
  have a3 := atoiV_le (A 3)
  (repeat' split) <;> refine ⟨?_, ?_, ?_, ?_⟩ <;> simp [Pts.zero] <;> omega
theorem numb_len {s : Txt} {n : Int} (h : s.length ≤ 50) : (numb s n).length ≤ 100 := by
  have hl : (digR n 6).1.length ≤ 20 := by
    unfold digR
    split
    · simp
    · rw [dgs_len]; decide
  unfold numb
  split
  · simp
  · rw [List.length_append, List.length_cons]; omega
theorem keyS_len (p : Pts) : (keyS p).length ≤ 2000 := by
  have j1 : ∀ m f : Txt, m.length ≤ 1 → (jnS m [f]).length ≤ 50 := fun m f h => jnS_len h (.inl rfl)
  have j2 : ∀ m f g : Txt, m.length ≤ 1 → (jnS m [f, g]).length ≤ 50 := fun m f g h => jnS_len h (.inr rfl)
  unfold keyS
  split
  · exact Nat.le_trans (j1 _ _ (by decide)) (by decide)
  split
  · exact Nat.le_trans (numb_len (j1 _ _ (by decide))) (by decide)
  split
  · unfold guidS
    split
    · simp
    · rename_i hh
      have := j1 [103] p.feed (by decide)
      rw [List.length_append, List.length_cons, hexS_len]
      have : p.guid.length ≤ 500 := by
        rcases Nat.lt_or_ge 500 p.guid.length with h | h
        · exact absurd (.inr (.inr h)) hh
        · exact h
      omega
  split
  · exact Nat.le_trans (j2 _ _ _ (by decide)) (by decide)
  split
  · exact Nat.le_trans (j2 _ _ _ (by decide)) (by decide)
  split
  · exact Nat.le_trans (numb_len (j2 _ _ _ (by decide))) (by decide)
  split
  · exact Nat.le_trans (j2 _ _ _ (by decide)) (by decide)
  · simp
section
variable {w0 W W' : World} {l R : List As} {RR : Value → World → Prop} {t s : Txt} {c : UInt8} {b n : Nat} {v : Value}
/-- (Parts).key -/
theorem pkey_spec {p : Pts} (hT : PowTab w0) (h : St w0 G0 l W) (h1 : p.user.length ≤ 9223372036854775807) (h2 : p.feed.length ≤ 9223372036854775807) (h3 : p.name.length ≤ 9223372036854775807) (h4 : p.num ≤ 9223372036854775807) (k : ∀ W', St w0 G0 l W' → RR (strV (keyS p)) W') : CallF Tryd.prog 27 #[ptV p] W RR := by
  refine sh27_calls ?_
  unfold sh27 ptV
  refine h.boxS (cs := [.int .i64 p.kind, strV p.user, strV p.feed, strV p.name, strV p.guid, .int .i64 p.num]) fun b W h => ?_
  unfold keyS at k
  refine a_fld0 (h.load ?_)
  refine w_eql (ifd (fun e => ?_) fun e1 => ?_)
  · rw [if_pos e] at k
    exact a_fld0 (h.load (feed_spec h h2 fun W h => k W h.tail))
  rw [if_neg e1] at k
  refine w_eql (ifd (fun e => ?_) fun e2 => ?_)
  · rw [if_pos e] at k
    exact a_fld0 (h.load (a_fld0 (h.load (ent_spec hT h h2 h4 fun W h => k W h.tail))))
  rw [if_neg e2] at k
  refine w_eql (ifd (fun e => ?_) fun e3 => ?_)
  · rw [if_pos e] at k
    exact a_fld0 (h.load (a_fld0 (h.load (guid_spec h h2 fun W h => k W h.tail))))
  rw [if_neg e3] at k
  refine w_eql (ifd (fun e => ?_) fun e4 => ?_)
  · rw [if_pos e] at k
    exact a_fld0 (h.load (a_fld0 (h.load (sub_spec h h1 h2 fun W h => k W h.tail))))
  rw [if_neg e4] at k
  refine w_eql (ifd (fun e => ?_) fun e5 => ?_)
  · rw [if_pos e] at k
    exact a_fld0 (h.load (a_fld0 (h.load (folder_spec h h1 h3 fun W h => k W h.tail))))
  rw [if_neg e5] at k
  refine w_eql (ifd (fun e => ?_) fun e6 => ?_)
  · rw [if_pos e] at k
    exact a_fld0 (h.load (a_fld0 (h.load (a_fld0 (h.load (state_spec hT h h1 h2 h4 fun W h => k W h.tail))))))
  rw [if_neg e6] at k
  refine w_eql (ifd (fun e => ?_) fun e7 => ?_)
  · rw [if_pos e] at k
    exact a_fld0 (h.load (a_fld0 (h.load (marks_spec h h1 h2 fun W h => k W h.tail))))
  rw [if_neg e7] at k
  exact k W h.tail
/-- hbllaw14.key -/
theorem key_spec {p : Pts} (hT : PowTab w0) (h : St w0 G0 l W) (h1 : p.user.length ≤ 9223372036854775807) (h2 : p.feed.length ≤ 9223372036854775807) (h3 : p.name.length ≤ 9223372036854775807) (h4 : p.num ≤ 9223372036854775807) (k : ∀ W', St w0 G0 l W' → RR (strV (keyS p)) W') : CallF Tryd.prog 7 #[ptV p] W RR := by
  refine sh7_calls ?_
  unfold sh7 ptV
  refine h.boxS (cs := [.int .i64 p.kind, strV p.user, strV p.feed, strV p.name, strV p.guid, .int .i64 p.num]) fun b W h => ?_
  unfold keyS at k
  refine a_fld0 (h.load ?_)
  refine w_eql (ifd (fun e => ?_) fun e1 => ?_)
  · rw [if_pos e] at k
    exact a_fld0 (h.load (feed_spec h h2 fun W h => k W h.tail))
  rw [if_neg e1] at k
  refine w_eql (ifd (fun e => ?_) fun e2 => ?_)
  · rw [if_pos e] at k
    exact a_fld0 (h.load (a_fld0 (h.load (ent_spec hT h h2 h4 fun W h => k W h.tail))))
  rw [if_neg e2] at k
  refine w_eql (ifd (fun e => ?_) fun e3 => ?_)
  · rw [if_pos e] at k
    exact a_fld0 (h.load (a_fld0 (h.load (guid_spec h h2 fun W h => k W h.tail))))
  rw [if_neg e3] at k
  refine w_eql (ifd (fun e => ?_) fun e4 => ?_)
  · rw [if_pos e] at k
    exact a_fld0 (h.load (a_fld0 (h.load (sub_spec h h1 h2 fun W h => k W h.tail))))
  rw [if_neg e4] at k
  refine w_eql (ifd (fun e => ?_) fun e5 => ?_)
  · rw [if_pos e] at k
    exact a_fld0 (h.load (a_fld0 (h.load (folder_spec h h1 h3 fun W h => k W h.tail))))
  rw [if_neg e5] at k
  refine w_eql (ifd (fun e => ?_) fun e6 => ?_)
  · rw [if_pos e] at k
    exact a_fld0 (h.load (a_fld0 (h.load (a_fld0 (h.load (state_spec hT h h1 h2 h4 fun W h => k W h.tail))))))
  rw [if_neg e6] at k
  refine w_eql (ifd (fun e => ?_) fun e7 => ?_)
  · rw [if_pos e] at k
    exact a_fld0 (h.load (a_fld0 (h.load (marks_spec h h1 h2 fun W h => k W h.tail))))
  rw [if_neg e7] at k
  exact k W h.tail
/-- keys.Parse -/
theorem parse_spec (hT : KTabs w0) (h : St w0 G0 l W) (hs : s.length ≤ 1000000) (k : ∀ W', St w0 G0 l W' → RR (.tuple #[ptV (parS s).1, .bool (parS s).2]) W') : CallF Tryd.prog 8 #[strV s] W RR := by
  refine sh8_calls ?_
  unfold sh8
  refine h.allocS fun b W h => ?_
  refine split_spec hT h hs fun W h => ?_
  obtain ⟨q1, q2, q3, q4⟩ := splA_ok (A := fun i => (splF s ++ [[], [], [], []]).getD i []) (N := s.length) (fun i => splA_len i)
  replace q1 : (splS s).user.length ≤ s.length := q1
  replace q2 : (splS s).feed.length ≤ s.length := q2
  replace q3 : (splS s).name.length ≤ s.length := q3
  replace q4 : (splS s).num ≤ 9223372036854775807 := q4
  unfold parS at k
  generalize splS s = p at *
  refine h.allocS fun d W h => ?_
  refine h.storeS (b := d) (cs' := [.int .i64 p.kind, strV p.user, strV p.feed, strV p.name, strV p.guid, .int .i64 p.num]) fun W h => ?_
  refine a_fld0 (h.load ?_)
  refine w_eql (ifd (fun e => ?_) fun e => ?_)
  · rw [if_pos (.inl e)] at k
    refine x_bld (cells := #[.int .i64 0, strV [], strV [], strV [], strV [], .int .i64 0]) rfl ?_
    refine h.storeS (b := b) (cs' := [.int .i64 0, strV [], strV [], strV [], strV [], .int .i64 0]) fun W h => h.loadS ?_
    exact k W h.to
  refine h.loadS ?_
  refine pkey_spec (p := p) hT.pow h (by omega) (by omega) (by omega) q4 fun W h => ?_
  refine w_neqL (ifd (fun e2 => ?_) fun e2 => ?_)
  · rw [if_pos (.inr e2)] at k
    refine x_bld (cells := #[.int .i64 0, strV [], strV [], strV [], strV [], .int .i64 0]) rfl ?_
    refine h.storeS (b := b) (cs' := [.int .i64 0, strV [], strV [], strV [], strV [], .int .i64 0]) fun W h => h.loadS ?_
    exact k W h.to
  · rw [if_neg (fun hh => hh.elim e e2)] at k
    refine h.loadS ?_
    refine h.storeS (b := b) (cs' := [.int .i64 p.kind, strV p.user, strV p.feed, strV p.name, strV p.guid, .int .i64 p.num]) fun W h => h.loadS ?_
    exact k W h.to
theorem par_first : parS [115, 47, 117, 47, 120] = (⟨4, [117], [120], [], [], 0⟩, true) := by decide +kernel
theorem ent_first : numb (jnS [101] [[120]]) 7 = [101, 47, 120, 47, 48, 48, 48, 48, 48, 55] := by
  have e : digR 7 6 = ([48, 48, 48, 48, 48, 55], true) := by
    unfold digR
    have e : decDigits (7 : Int).toNat = [55] := decDigits_one (i := 7) (by decide)
    rw [e]
    decide +kernel
  unfold numb
  rw [e]
  decide +kernel
/-- hbllaw14.first -/
theorem first14_spec (hT : KTabs w0) (h : St w0 G0 l W) (k : ∀ W', St w0 G0 l W' → RR (.bool true) W') : CallF Tryd.prog 6 #[] W RR := by
  refine sh6_calls ?_
  unfold sh6
  refine parse_spec (s := [115, 47, 117, 47, 120]) hT h (by decide) fun W h => ?_
  rw [par_first]
  refine a_ext0 (a_ext1 ?_)
  refine h.allocS fun b W h => ?_
  refine h.storeS (b := b) (cs' := [.int .i64 4, strV [117], strV [120], strV [], strV [], .int .i64 0]) fun W h => ?_
  refine ent_spec (s := [120]) (n := 7) hT.pow h (by decide) (by decide) fun W h => ?_
  rw [ent_first]
  refine w_eqlL (b := [101, 47, 120, 47, 48, 48, 48, 48, 48, 55]) (ifd_pos rfl ?_)
  refine ift ?_
  refine a_fld0 (h.load (w_eql (ifd_pos rfl ?_)))
  refine a_fld0 (h.load (w_eqlL (b := [117]) (ifd_pos rfl ?_)))
  refine a_fld0 (h.load (w_eqlL (b := [120]) ?_))
  exact k W h.tail
end
end Go.Proofs.YtgflkjhljggeiaaDoor
