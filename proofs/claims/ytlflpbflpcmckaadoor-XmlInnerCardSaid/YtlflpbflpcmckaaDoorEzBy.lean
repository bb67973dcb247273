/-
  EZ: a text as bytes of its own; what an interface holds against nil.
-/
import Derived.Test.YtlflpbflpcmckaaDoorEzMk
import Derived.Lib.ConvBytes
namespace Go.Ez
open Go Go.Proofs Go.RowKit
set_option linter.unusedSimpArgs false
set_option linter.unusedVariables false
section
variable {P : Program} {w0 W W' : World} {G : Nat → Prop} {l R : List As} {K : Value → Prop} {KW : Value → World → Prop}
/-- '[]byte(s)': the bytes, kept as they are -/
theorem St.ofStr {src dst e : TypeId} {s : List UInt8} [U0 : Und P src .string] [U : Und P dst (.slice e)] [U1 : Und P e (.int .u8)] (h : St w0 G l W) (k : ∀ v W', Cel1 v → St w0 G (Ky v (Rd 1 s.length (bytesV s)) :: l) W' → KW v W') : RunV P (convert src dst (.string ⟨s.toArray⟩)) W KW := by
  have hsz : (⟨s.toArray⟩ : ByteArray).size = s.length := by show s.toArray.size = _; simp
  refine .of (Lib.run_convert_string_bytes W src dst e ⟨s.toArray⟩ U0.eq U.eq U1.eq) (k _ _ ⟨rfl⟩ ?_)
  rw [hsz]
  have hb : Below W.heap.size W (Lib.bytesWorld W e ⟨s.toArray⟩) := by
    refine ⟨?_, ?_, ?_, by rw [Lib.bytesWorld_size]; omega, fun k hk => Lib.bytesWorld_at_old W e _ k hk⟩ <;>
      (unfold Lib.bytesWorld World.freeze; simp [World.alloc, World.drew, -World.alloc_eq, -World.drew_eq])
  refine h.new (F := fun x => x = W.heap.size ∧ bytesV s ≠ []) hb ⟨fun x => ?_, ?_⟩ fun x hx => by rw [hx.1]; exact Nat.le_refl _
  · show (x = W.heap.size ∧ bytesV s ≠ []) ↔ (some W.heap.size = some x ∧ bytesV s ≠ [])
    exact ⟨fun h => ⟨by rw [h.1], h.2⟩, fun h => ⟨(Option.some.inj h.1).symm, h.2⟩⟩
  · refine ⟨some ⟨W.heap.size, 0, none⟩, _, rfl, ?_, by simp [bytesV], fun j u hj => ⟨W.heap.size, 0, rfl, ?_⟩, fun h => by cases h⟩
    · have := grownCap_ge W s.length 0 e
      exact this
    · rw [Nat.zero_add]
      have hjl : j < s.length := by have := (List.getElem?_eq_some_iff.1 hj).1; simpa [bytesV] using this
      have := Lib.bytesWorld_cell W e ⟨s.toArray⟩ j (by rw [hsz]; exact hjl)
      rw [this]
      rw [bytesV, List.getElem?_map, List.getElem?_eq_getElem hjl] at hj
      cases hj
      simp [byteV, List.getD, List.getElem?_eq_getElem hjl]
/-- bytes written out, converted: kept as they are -/
theorem St.markB {v : Value} {t e : TypeId} {n : Nat} {cs : List Value} [i : Has l v (Ow e 1 n cs) R] [U : Und P t (.slice e)] [U1 : Und P e (.int .u8)] (h : St w0 G l W) (hn : n ≠ 0) (k : ∀ W', St w0 G (Ky v (Rd 1 n cs) :: R) W' → KW v W') : RunV P (convert t t v) W KW := by
  rcases h.openOw (v := v) with ⟨_, h0, _⟩ | ⟨g, cap, cur, rfl, hnc, hcm, hcl, htk, h⟩
  · exact absurd h0 hn
  have hg := h.ob (b := g) (o := .cells cur.toArray e (0, 0))
  have hgl := (Array.getElem?_eq_some_iff.1 hg).1
  have hfz : (W.freeze ⟨g, cur.toArray.size, none⟩ 1).heap[g]? = some (.cells cur.toArray e (cur.toArray.size, cur.toArray.size + 1)) := by
    unfold World.freeze
    simp [Array.getElem?_modify, hg]
  have hrun : (convert t t (.slice (some ⟨g, 0, none⟩) n cap)).run P W = .ok (.slice (some ⟨g, 0, none⟩) n cap) (W.freeze ⟨g, cur.toArray.size, none⟩ 1) := by
    simp only [convert, Sem.run_bind, run_underlying U.eq, Result.andThen, beq_self_eq_true, run_underlying U1.eq]
    have hsh : W.shape? g = some (e, cur.toArray.size) := by simp [World.shape?, hg]
    simp [markStringish, shape, freeze, Sem.run, hsh, Result.andThen]
  refine .of hrun (k _ ?_)
  have hmod : Mod [g] W (W.freeze ⟨g, cur.toArray.size, none⟩ 1) := by
    unfold World.freeze
    exact ⟨rfl, rfl, rfl, by simp, fun k _ hk => by
      simp only [Nat.one_ne_zero, if_false, Array.getElem?_modify]
      rw [if_neg (fun e => hk (by simp [e]))]⟩
  have h2 := h.setB (b := g) (o := .cells cur.toArray e (0, 0)) hmod hfz
  refine h2.conv fun F hF => ?_
  have hF' : (∀ x, F x ↔ x = g) ∧ (W.freeze ⟨g, cur.toArray.size, none⟩ 1).heap[g]? = some (.cells cur.toArray e (cur.toArray.size, cur.toArray.size + 1)) := hF
  have hcs : cs ≠ [] := by
    intro hx
    rw [hx] at htk
    have := congrArg List.length htk
    rw [List.length_take, hcl] at this
    simp at this; omega
  refine ⟨fun x => ?_, some ⟨g, 0, none⟩, cap, rfl, hnc, ?_, fun j u hj => ⟨g, 0, rfl, ?_⟩, by simp⟩
  · rw [hF'.1 x]
    simp [Value.ownBlock, hcs, eq_comm]
  · rw [← htk, List.length_take, hcl]
    exact Nat.min_eq_left (Nat.mul_le_mul_right _ hnc)
  · rw [← htk, List.getElem?_take] at hj
    split at hj
    · unfold World.cell?
      rw [hF'.2]
      simp [hj]
    · cases hj
end
section
variable {P : Program} {w : World} {K : Value → Prop} {KW : Value → World → Prop} {t : TypeId} {X : Operand} {c : Value}
theorem w_neC {Y : Operand} {c : UInt8} (d : UInt8) {n : Int} (hn : n = (d.toNat : Int)) (h : K (.bool (decide (c ≠ d)))) : RunW P (bin .neq t X Y (byteV c) (.int .u8 n)) w K := by
  subst hn; exact x_neB (b := d) h
theorem w_eqC {Y : Operand} {c : UInt8} (d : UInt8) {n : Int} (hn : n = (d.toNat : Int)) (h : K (.bool (decide (c = d)))) : RunW P (bin .eql t X Y (byteV c) (.int .u8 n)) w K := by
  subst hn; exact x_eqB (b := d) h
theorem x_neNil0 {ms : Array (String × TypeId)} [i : Und P t (.interface ms)] (h : K (.bool false)) : RunW P (bin .neq t X (.const c) .nilIface .nilIface) w K :=
  .of (by
    have hu := i.eq
    have he : (Op.equal t .nilIface .nilIface).run P w = .ok true w := by
      have h : ∀ d, (Op.equalIn (d + 1) t .nilIface .nilIface).run P w = .ok true w := fun d => by simp [Op.equalIn, run_underlying hu]
      exact h 9999
    show (do eqGuard .neq t X (.const c) .nilIface .nilIface; pure (Value.bool (!(← Op.equal t .nilIface .nilIface))) : Sem Value).run P w = _
    simp [eqGuard, he]) h
theorem x_neNil1 {u : TypeId} {x : Value} {ms : Array (String × TypeId)} [i : Und P t (.interface ms)] (h : K (.bool true)) : RunW P (bin .neq t X (.const c) (.iface u x) .nilIface) w K :=
  .of (by
    have hu := i.eq
    have he : (Op.equal t (.iface u x) .nilIface).run P w = .ok false w := by
      have h : ∀ d, (Op.equalIn (d + 1) t (.iface u x) .nilIface).run P w = .ok false w := fun d => by simp [Op.equalIn, run_underlying hu]
      exact h 9999
    show (do eqGuard .neq t X (.const c) (.iface u x) .nilIface; pure (Value.bool (!(← Op.equal t (.iface u x) .nilIface))) : Sem Value).run P w = _
    simp [eqGuard, he]) h
end
end Go.Ez
