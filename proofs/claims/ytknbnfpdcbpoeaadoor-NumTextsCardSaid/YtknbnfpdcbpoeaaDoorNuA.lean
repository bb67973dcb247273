/-
  FRAMES, the leaves: copies of bytes, numbers in bytes, check sums: what each function answers.
-/
import Derived.Test.YtknbnfpdcbpoeaaDoorFrmP
import Derived.Test.YtknbnfpdcbpoeaaDoorSh
namespace Go.Proofs.YtknbnfpdcbpoeaaDoor
open Go Go.Ez Go.RowKit
set_option linter.unusedSimpArgs false
set_option linter.unusedVariables false

theorem elB : ElT Tryd.prog 25 5 1 1 (.int .u8 0) := ⟨Tryd.underlying25, by kernel_rfl, rfl, by decide⟩

/-- hblref.CopyBytes -/
theorem copyBytes_spec {v : Value} {l : List UInt8} {w : World} {R : Value → World → Prop} (hv : By w v l) (hl : l.length ≤ 140737488351232)
    (h : ∀ v' w', w'.ownsRow w.heap.size 5 1 v' l.length (bytesV l) → Below w.heap.size w w' → v' ≠ .slice none 0 0 → R v' w') : CallF Tryd.prog 15 #[v] w R := by
  refine sh15_calls ?_
  unfold sh15
  refine v_lit0 elB ?_
  have hb : Below w.heap.size w (w.alloc (.cells #[] 5)) := (Below.refl _ w).alloc (Nat.le_refl _) _
  have hown := own_lit (w := w) (base := w.heap.size) (e := 5) (cs := []) (n := 0) (Nat.le_refl _) rfl (by unfold maxLen; omega)
  refine v_app elB hown (hv.below hb) (bytesV_one l) (by unfold maxLen; omega) (by omega) (by simp) ?_
  intro v' w' h1 h2 h3
  rw [Nat.zero_add, List.nil_append] at h1
  exact h v' w' h1 (hb.grown h2 (by simp) (fun k e => by cases e; exact Nat.le_refl _)) (fun hn => by have := (h3.1 hn).1; simp at this)

/-- hblref.Bytes -/
theorem bytes_spec {u v : Value} {l m : List UInt8} {w : World} {R : Value → World → Prop} (hu : By w u l) (hv : By w v m) (h : R (.bool (decide (l = m))) w) : CallF Tryd.prog 14 #[u, v] w R := by
  refine sh14_calls ?_
  unfold sh14
  refine v_str Tryd.underlying25 Tryd.underlying5 Tryd.underlying9 hu ?_
  refine v_str Tryd.underlying25 Tryd.underlying5 Tryd.underlying9 hv ?_
  refine w_eqls ?_
  have : decide ((⟨l.toArray⟩ : ByteArray) = ⟨m.toArray⟩) = decide (l = m) := by
    by_cases e : l = m
    · simp [e]
    · have : ¬ ((⟨l.toArray⟩ : ByteArray) = ⟨m.toArray⟩) := fun h => e (by injection h with h; exact List.toArray_inj h)
      simp [e, this]
  rw [this]; exact h

/-- the loop of num.Put and of hblref1.Put -/
theorem put_spec {n width : Int} {w : World} {R : Value → World → Prop} (hn : n ≤ 9223372036854775807)
    (h : (width < 1 ∨ 6 < width ∨ n < 0 ∨ 2 ^ (8 * width.toNat) ≤ n.toNat) → R (.tuple #[.slice none 0 0, .int .i64 1]) w)
    (h' : 1 ≤ width → width ≤ 6 → 0 ≤ n → n.toNat < 2 ^ (8 * width.toNat) → ∀ v' w', w'.ownsRow w.heap.size 5 1 v' width.toNat (bytesV (be n.toNat width.toNat)) → Below w.heap.size w w' → R (.tuple #[v', .int .i64 0]) w') :
    CallF Tryd.prog 13 #[.int .i64 n, .int .i64 width] w R := by
  refine sh13_calls ?_
  unfold sh13
  refine a_lss (ifd (fun hc => h (.inl hc)) fun hc1 => ?_)
  refine a_gtr (ifd (fun hc => h (.inr (.inl hc))) fun hc2 => ?_)
  refine a_lss (ifd (fun hc => h (.inr (.inr (.inl hc)))) fun hc3 => ?_)
  obtain ⟨n, rfl⟩ := Int.eq_ofNat_of_zero_le (Int.not_lt.1 hc3)
  obtain ⟨m, rfl⟩ := Int.eq_ofNat_of_zero_le (show 0 ≤ width by omega)
  simp only [Int.toNat_natCast] at h h'
  refine a_mul64 (by omega) (by omega) ?_
  have e8 : (8 : Int) * (m : Int) = ((8 * m : Nat) : Int) := by push_cast; rfl
  rw [e8]
  refine a_shrN (by simp [IntKind.bits]; omega) ?_
  refine a_gtr (ifd (fun hc => h (.inr (.inr (.inr ?_)))) fun hc4 => ?_)
  · have : 0 < n / 2 ^ (8 * m) := by exact_mod_cast hc
    exact (Nat.div_pos_iff.1 this).2
  have hlt : n < 2 ^ (8 * m) := by
    refine Nat.lt_of_not_le fun hle => hc4 ?_
    have : 0 < n / 2 ^ (8 * m) := Nat.div_pos hle (Nat.two_pow_pos _)
    exact_mod_cast this
  refine a_sub64 (by omega) (by omega) ?_
  refine lpx (α := Value × List UInt8 × Nat) (fun x => [x.1, .int .i64 ((x.2.2 : Int) - 1)])
    (fun x W => W.ownsRow w.heap.size 5 1 x.1 x.2.1.length (bytesV x.2.1) ∧ x.2.1 ++ be n x.2.2 = be n m ∧ Below w.heap.size w W) (fun x => x.2.2) (.slice none 0 0, [], m) (fun _ => rfl) rfl ⟨own_nil, rfl, Below.refl _ _⟩ ?_
  rintro next ⟨v, l, j⟩ W hnext ⟨h1, h2, h3⟩
  dsimp only at h1 h2 h3
  have hlen := congrArg List.length h2
  simp only [List.length_append, be_length] at hlen
  show RunA _ _ _
  refine a_geq (ifd (fun hc => ?_) fun hc => ?_)
  · obtain ⟨j, rfl⟩ : ∃ j', j = j' + 1 := ⟨j - 1, by dsimp only at hc; omega⟩
    have ej : ((j + 1 : Nat) : Int) - 1 = (j : Int) := by omega
    dsimp only
    rw [ej]
    refine a_mul64 (by omega) (by omega) ?_
    have e8 : (8 : Int) * (j : Int) = ((8 * j : Nat) : Int) := by push_cast; rfl
    rw [e8]
    refine a_shrN (by simp [IntKind.bits]; omega) ?_
    refine v_byte Tryd.underlying3 Tryd.underlying5 ?_
    refine v_push elB h1 rfl (by unfold maxLen; omega) (by omega) h3.size ?_
    intro v' W' g1 g2 g3
    refine a_sub64 (by omega) (by omega) ⟨rfl, hnext (v', l ++ [UInt8.ofNat (n / 2 ^ (8 * j))], j) W' (Nat.lt_succ_self _) ⟨?_, ?_, ?_⟩⟩
    · rw [bytesV_append, List.length_append]; exact g1
    · rw [List.append_assoc]; exact h2
    · exact h3.grown g2 h3.size (own_base h1)
  · have : j = 0 := by dsimp only at hc; omega
    subst this
    have : l = be n m := by simpa [be] using h2
    subst this
    rw [be_length] at h1
    exact h' (by omega) (by omega) (by omega) hlt _ _ h1 h3

end Go.Proofs.YtknbnfpdcbpoeaaDoor
