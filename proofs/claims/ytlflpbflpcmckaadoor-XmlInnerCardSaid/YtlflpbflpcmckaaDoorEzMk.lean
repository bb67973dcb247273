/-
  EZ: slices that are made, of one cell each; an element of what is owned, set.
-/
import Derived.Test.YtlflpbflpcmckaaDoorEzSlc
namespace Go.Ez
open Go Go.Proofs Go.RowKit
set_option linter.unusedSimpArgs false
set_option linter.unusedVariables false
/-- nothing at all -/
def emp : As := ⟨fun F _ => ∀ b, ¬ F b, fun h b hb => absurd hb (h b), fun h _ => h⟩
theorem upd_freeze {W : World} {g n : Nat} {F : Nat → Prop} (hF : ∀ k, k = g → F k) : Upd F W (W.freeze ⟨g, 0, none⟩ n) := by
  unfold World.freeze
  split
  · exact ⟨rfl, rfl, rfl, Nat.le_refl _, fun _ _ _ => rfl⟩
  · exact ⟨rfl, rfl, rfl, by simp, fun k _ hk => by
      simp only [Array.getElem?_modify]
      rw [if_neg (fun e => hk (hF k e.symm))]⟩
section
variable {P : Program} {w0 W W' : World} {G : Nat → Prop} {l R : List As} {K : Value → Prop} {KW : Value → World → Prop} {KU : World → Prop}
theorem St.tail {A : As} (h : St w0 G (A :: l) W) : St w0 G l W := by
  obtain ⟨F, ⟨F1, F2, h1, h2, hd, hF⟩, hG⟩ := h.own
  exact { h with own := ⟨F2, h2, fun b hb => hG b ((hF b).2 (.inr hb))⟩ }
theorem madeCells_one {z : Value} (o : Cel1 z) (n : Nat) : (madeCells z.cells (n * 1)).toList = List.replicate n z := by
  rw [o.cells, Nat.mul_one]
  apply List.ext_getElem?
  intro j
  unfold madeCells
  by_cases hj : j < n
  · simp [hj, Nat.mod_one]
  · simp [hj]
/-- 'make([]T, n)' -/
theorem St.make {t e : TypeId} {bytes n : Nat} {z : Value} {kl kc : IntKind} [S : SlT P t e 1 bytes z] [o : Cel1 z] (h : St w0 G l W) (hb : bytes * n ≤ 281474976710656) (hn : n ≤ maxLen)
    (k : ∀ v W', Cel1 v → St w0 G (Ky v (Ow e 1 n (List.replicate n z)) :: l) W' → KW v W') : RunV P (Instr.makeSlice t (nV kl n) (nV kc n)) W KW := by
  obtain ⟨i, hi, hz, hs, hby⟩ := info_parts S.el.info
  obtain ⟨W', hr, how, hg⟩ := run_make_full (P := P) W W.heap.size t e i z 1 S.el.und hi hz hs kl kc n (by rw [hby]; exact hb) hn (Nat.le_refl _)
  rw [madeCells_one o] at how
  refine .of hr (k _ W' ⟨rfl⟩ (h.newOw (B := W.heap.size) ?_ how (Nat.le_refl _)))
  exact ⟨hg.os, hg.tape, hg.output, hg.size, fun i hi => hg.block i hi (by simp)⟩
/-- 'v[j] = x' -/
theorem St.setAt {t e : TypeId} {bytes n j : Nat} {z z' v x : Value} {xs : List Value} {k0 : IntKind} [i : Has l v (Ow e 1 n xs) R] [S : SlT P t e 1 bytes z] [T : Ty1 P e z'] [o : Cel1 x] (h : St w0 G l W) (hj : j < n)
    (k : ∀ W', St w0 G (Ky v (Ow e 1 n (xs.set j x)) :: R) W' → KU W') : RunA P (Instr.indexAt t v (.int k0 (j : Int))) fun p => RunU P (Instr.storeAt e p x) W KU := by
  refine h.setI (v := v) (xs := xs) hj fun g cap hv _ => ?_
  subst hv
  rw [Nat.mul_one]
  exact h.storeI (xs := xs) (n := n) (by omega) k
/-- 'append(v, s...)', s a text: the row is where it was, or in a new block -/
theorem v_appS2 {t e u ty : TypeId} (hT : ElT P t e 1 1 (.int .u8 0)) (hu : P.underlying u = some .string) {v : Value} {n : Nat} {xs : List Value} (hown : W.ownsRow 0 e 1 v n xs) {s : List UInt8} (hb : n + s.length ≤ 140737488355328)
    (h : ∀ v' w', w'.ownsRow 0 e 1 v' (n + s.length) (xs ++ bytesV s) → W.grownBy w' v.ownBlock → (∀ k, v'.ownBlock = some k → v.ownBlock = some k ∨ W.heap.size ≤ k) → KW v' w') : RunV P (Builtin.append_ #[t, u] ty #[v, .string ⟨s.toArray⟩]) W KW := by
  have hm : n + s.length ≤ maxLen := by unfold maxLen; omega
  rcases own_block_some hown with ⟨rfl, rfl, rfl⟩ | ⟨g, cap, rfl, hnc⟩
  · exact v_appS (base := W.heap.size) hT hu own_nil hm hb (Nat.le_refl _) fun v' w' g1 g2 => h v' w' (own_mono g1 (Nat.zero_le _)) g2 fun k hk => .inr (own_base g1 k hk)
  · obtain ⟨i, hi, hz, hs, hby⟩ := info_parts hT.info
    have hsz : (⟨s.toArray⟩ : ByteArray).size = s.length := by show s.toArray.size = _; simp
    have hc : Lib.strCells ⟨s.toArray⟩ = bytesV s := by simp [Lib.strCells, bytesV, byteV]
    obtain ⟨v', w', hr, h2, h3, h4⟩ := Lib.run_append_own_string (P := P) W 0 t u ty e i hT.und hu hi hz hs hby _ n xs hown ⟨s.toArray⟩ (by rw [hsz]; exact hm) (by rw [hsz]; exact hb) (Nat.zero_le _)
    rw [hsz, hc] at h2
    refine .of hr (h v' w' h2 h3 ?_)
    intro k hk
    have hcur : ∃ cur, W.heap[g]? = some (.cells cur e (0, 0)) ∧ cur.size = cap * 1 := by
      rcases hown.2 with ⟨h0, _⟩ | ⟨g', cap', cur, h0, _, hg, _, _, hcs, _⟩
      · cases h0
      · cases h0; exact ⟨cur, hg, hcs⟩
    obtain ⟨cur, hg, hcs⟩ := hcur
    by_cases hroom : n + s.length ≤ cap
    · have hr2 := Lib.run_append_room_string (P := P) W t u ty e i hT.und hu hi hs g n cap cur hg ⟨s.toArray⟩ (by rw [hsz]; exact hroom) (by rw [hsz]; omega)
      rw [hr] at hr2
      cases hr2
      exact .inl hk
    · have hr2 := Lib.run_append_grow_string (P := P) W t u ty e i (.int .u8 0) hT.und hu hi hz ⟨g, 0, none⟩ n cap xs (by rw [hs]; exact hown.1) (hown.cells (g := g) rfl) ⟨s.toArray⟩ (by rw [hsz]; omega) (by rw [hsz]; omega) (growslice_fits (by rw [hsz]; omega) (by rw [hby, hsz]; omega))
      rw [hr] at hr2
      cases hr2
      cases hk
      exact .inr (Nat.le_refl _)
theorem St.appS {t e u ty : TypeId} {v : Value} {n : Nat} {xs : List Value} [i : Has l v (Ow e 1 n xs) R] [S : SlT P t e 1 1 (.int .u8 0)] [U : Und P u .string] (h : St w0 G l W) {s : List UInt8} (hb : n + s.length ≤ 140737488355328)
    (k : ∀ v' W', Cel1 v' → St w0 G (Ky v' (Ow e 1 (n + s.length) (xs ++ bytesV s)) :: R) W' → KW v' W') : RunV P (Builtin.append_ #[t, u] ty #[v, .string ⟨s.toArray⟩]) W KW :=
  v_appS2 S.el U.eq (h.ow (v := v)) hb fun v' W' g1 g2 g3 => k v' W' (.of_own g1) (h.setOw (v := v) g2 g1 g3)
end
end Go.Ez
