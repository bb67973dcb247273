/-
  EZ: fields, pointers held against nil, texts: laws of the forms.
-/
import Derived.Test.YtlflpbflpcmckaaDoorEzMem
import Derived.Lib.Builder
import Derived.Lib.UnsafeStr
import Derived.Laws.Externs
import Derived.Lib.AppendStr
import Derived.Laws.IdiomCopy
import Derived.Laws.Strings2
namespace Go.Ez
open Go Go.Proofs Go.RowKit
set_option linter.unusedSimpArgs false
set_option linter.unusedVariables false

section
variable {P : Program} {w : World} {K : Value → Prop} {KW : Value → World → Prop} {KU : World → Prop}

theorem RunO.of {m : Sem Next} {v : Value} {w' : World} (h : m.run P w = .ok (.value v) w') (k : KW v w') : RunO P m w KW := ⟨v, w', h, k⟩

/-- a field's place -/
theorem a_field {s : TypeId} {fs : Array Field} {f : Field} {b o i sz : Nat} (ht : P.underlying s = some (.struct fs)) (hf : fs[i]? = some f) (hz : ∀ w, (sizeOf f.type).run P w = .ok sz w) (hsz : sz ≠ 0)
    (h : K (.pointer (some ⟨b, o + f.offset, none⟩))) : RunA P (Instr.fieldAt s (.pointer (some ⟨b, o, none⟩)) i) K :=
  .of (fun w => by simp [Instr.fieldAt, run_underlying ht, hf, Instr.sureAddr, fieldPlace, hz, hsz, addr_add]) h

/-- a pointer held against nil -/
theorem run_equal_ptr_nil {t e : TypeId} {p : Option Addr} (ht : P.underlying t = some (.pointer e)) : (Op.equal t (.pointer p) (.pointer none)).run P w = .ok p.isNone w := by
  have h : ∀ d, (Op.equalIn (d + 1) t (.pointer p) (.pointer none)).run P w = .ok p.isNone w := fun d => by cases p <;> simp [Op.equalIn, run_underlying ht]
  exact h 9999
theorem w_nilP {t e : TypeId} {X Y : Operand} {p : Option Addr} (ht : P.underlying t = some (.pointer e)) (h : K (.bool p.isNone)) : RunW P (bin .eql t X Y (.pointer p) (.pointer none)) w K :=
  .of (by
    show (do eqGuard .eql t X Y (.pointer p) (.pointer none); pure (Value.bool (← Op.equal t (.pointer p) (.pointer none))) : Sem Value).run P w = _
    simp [eqGuard, run_equal_ptr_nil ht]) h
theorem w_nilPn {t e : TypeId} {X Y : Operand} {p : Option Addr} (ht : P.underlying t = some (.pointer e)) (h : K (.bool (!p.isNone))) : RunW P (bin .neq t X Y (.pointer p) (.pointer none)) w K :=
  .of (by
    show (do eqGuard .neq t X Y (.pointer p) (.pointer none); pure (Value.bool (!(← Op.equal t (.pointer p) (.pointer none)))) : Sem Value).run P w = _
    simp [eqGuard, run_equal_ptr_nil ht]) h
theorem w_samePn {t e : TypeId} {X Y : Operand} {a : Addr} {j : TypeInfo} (ht : P.underlying t = some (.pointer e)) (hj : P.info? e = some j) (h : K (.bool false)) : RunW P (bin .neq t X Y (.pointer (some a)) (.pointer (some a))) w K :=
  .of (by
    have := Lib.run_neq_ptr_same (P := P) w a ht hj
    simp [bin, eqGuard, this]) h

/-! ### a bool that is known -/
theorem r_dec {A B : Prop} [Decidable A] [Decidable B] {R : Value → World → Prop} (hab : A ↔ B) (h : R (.bool (decide B)) w) : R (.bool (decide A)) w := by
  rw [decide_eq_decide.2 hab]; exact h
theorem r_false {B : Prop} [Decidable B] {R : Value → World → Prop} (hn : ¬ B) (h : R (.bool (decide B)) w) : R (.bool false) w := by rw [decide_eq_false hn] at h; exact h
theorem r_true {B : Prop} [Decidable B] {R : Value → World → Prop} (hn : B) (h : R (.bool (decide B)) w) : R (.bool true) w := by rw [decide_eq_true hn] at h; exact h

/-! ### texts -/
/-- a byte of a text, off its list -/
theorem a_indexL {t : TypeId} {k : IntKind} {i : Nat} {l : List UInt8} {c : UInt8} (ht : P.underlying t = some .string) (hc : l[i]? = some c) (h : K (byteV c)) : RunA P (Instr.index t (.string ⟨l.toArray⟩) (.int k (i : Int))) K := by
  have hi : i < l.length := (List.getElem?_eq_some_iff.1 hc).1
  refine a_index ht (by omega) (by show (i : Int) < (l.toArray.size : Int); simp; omega) ?_
  have : ((⟨l.toArray⟩ : ByteArray).data[(i : Int).toNat]'(by simpa using hi)) = c := by
    have := (List.getElem?_eq_some_iff.1 hc).2
    simpa using this
  rw [this]
  exact h
theorem w_lenL {t ty : TypeId} {l : List UInt8} (ht : P.underlying t = some .string) (h : K (nV .i64 l.length)) : RunW P (Builtin.len_ #[t] ty #[.string ⟨l.toArray⟩]) w K :=
  w_lens ht (by have : (⟨l.toArray⟩ : ByteArray).size = l.length := by { show l.toArray.size = _; simp }; rw [this]; exact h)
theorem s_lenL {S : World → Prop} {t ty : TypeId} {l : List UInt8} (ht : P.underlying t = some .string) (h : K (nV .i64 l.length)) : RunS P S (Builtin.len_ #[t] ty #[.string ⟨l.toArray⟩]) K :=
  s_lens ht (by have : (⟨l.toArray⟩ : ByteArray).size = l.length := by { show l.toArray.size = _; simp }; rw [this]; exact h)
theorem strL_inj {a b : List UInt8} : ((⟨a.toArray⟩ : ByteArray) = ⟨b.toArray⟩) ↔ a = b :=
  ⟨fun h => by injection h with h; exact List.toArray_inj h, fun h => by rw [h]⟩
theorem strL_of (s : ByteArray) : s = ⟨s.data.toList.toArray⟩ := by cases s; simp
theorem w_eqlL {t : TypeId} {X Y : Operand} {a b : List UInt8} (h : K (.bool (decide (a = b)))) : RunW P (bin .eql t X Y (.string ⟨a.toArray⟩) (.string ⟨b.toArray⟩)) w K :=
  w_eqls (by
    have : decide ((⟨a.toArray⟩ : ByteArray) = ⟨b.toArray⟩) = decide (a = b) := decide_eq_decide.2 strL_inj
    rw [this]; exact h)
theorem w_neqL {t : TypeId} {X Y : Operand} {a b : List UInt8} (h : K (.bool (decide (a ≠ b)))) : RunW P (bin .neq t X Y (.string ⟨a.toArray⟩) (.string ⟨b.toArray⟩)) w K :=
  w_neqs (by
    have : decide ((⟨a.toArray⟩ : ByteArray) ≠ ⟨b.toArray⟩) = decide (a ≠ b) := decide_eq_decide.2 (not_congr strL_inj)
    rw [this]; exact h)
theorem s_eqlL {S : World → Prop} {t : TypeId} {X Y : Operand} {a b : List UInt8} (h : K (.bool (decide (a = b)))) : RunS P S (bin .eql t X Y (.string ⟨a.toArray⟩) (.string ⟨b.toArray⟩)) K := by
  refine ⟨_, fun w _ => ?_, h⟩
  obtain ⟨v, hv, hk⟩ := w_eqlL (P := P) (w := w) (K := fun v => v = .bool (decide (a = b))) (t := t) (X := X) (Y := Y) (a := a) (b := b) rfl
  rw [hv, hk]
theorem sizeL (l : List UInt8) : (⟨l.toArray⟩ : ByteArray).size = l.length := by show l.toArray.size = _; simp
theorem a_sliceStr {t : TypeId} {k k' : IntKind} {l : List UInt8} {lo hi : Nat} (ht : P.underlying t = some .string) (h1 : lo ≤ hi) (h2 : hi ≤ l.length) (h : K (.string ⟨((l.drop lo).take (hi - lo)).toArray⟩)) :
    RunA P (Instr.sliceAt t (.string ⟨l.toArray⟩) (some (.int k (lo : Int))) (some (.int k' (hi : Int))) none) K :=
  .of (fun w => by
    rw [run_sliceAt_string w t _ _ _ _ ht]
    simp [Instr.slice, run_underlying ht, Instr.sliceBounds, run_sliceBound, sizeL, h1, h2, (by omega : (lo : Int) ≤ hi), ByteArray.extract_mk]) h
theorem a_sliceStrH {t : TypeId} {k' : IntKind} {l : List UInt8} {hi : Nat} (ht : P.underlying t = some .string) (h2 : hi ≤ l.length) (h : K (.string ⟨(l.take hi).toArray⟩)) :
    RunA P (Instr.sliceAt t (.string ⟨l.toArray⟩) none (some (.int k' (hi : Int))) none) K :=
  .of (fun w => by
    rw [run_sliceAt_string w t _ _ _ _ ht]
    simp [Instr.slice, run_underlying ht, Instr.sliceBounds, run_sliceBound, sizeL, h2, ByteArray.extract_mk]) h
theorem a_sliceStrL {t : TypeId} {k : IntKind} {l : List UInt8} {lo : Nat} (ht : P.underlying t = some .string) (h2 : lo ≤ l.length) (h : K (.string ⟨(l.drop lo).toArray⟩)) :
    RunA P (Instr.sliceAt t (.string ⟨l.toArray⟩) (some (.int k (lo : Int))) none none) K :=
  .of (fun w => by
    rw [run_sliceAt_string w t _ _ _ _ ht]
    have : (l.drop lo).take (l.length - lo) = l.drop lo := List.take_of_length_le (by simp)
    simp [Instr.slice, run_underlying ht, Instr.sliceBounds, run_sliceBound, sizeL, h2, ByteArray.extract_mk, this]) h
/-- two texts, one behind the other -/
theorem cat_mk (l m : List UInt8) : (⟨l.toArray⟩ : ByteArray) ++ ⟨m.toArray⟩ = ⟨(l ++ m).toArray⟩ := by
  apply ByteArray.ext
  simp
theorem a_cat {t : TypeId} {X Y : Operand} {l m : List UInt8} (hl : l.length + m.length ≤ 9223372036854775807) (h : K (.string ⟨(l ++ m).toArray⟩)) : RunA P (bin .add t X Y (.string ⟨l.toArray⟩) (.string ⟨m.toArray⟩)) K :=
  .of (fun w => by
    have hn : ¬ 9223372036854775807 < l.length + m.length := by omega
    simp [bin, go_sem, binOp, hn, cat_mk]) h
/-- 'append(v, s...)': v the call's own, s a text -/
theorem v_appS {base : Nat} {t e u ty : TypeId} (hT : ElT P t e 1 1 (.int .u8 0)) (hu : P.underlying u = some .string) {v : Value} {n : Nat} {xs : List Value} (hown : w.ownsRow base e 1 v n xs) {l : List UInt8}
    (hm : n + l.length ≤ maxLen) (hb : n + l.length ≤ 140737488355328) (hbase : base ≤ w.heap.size)
    (h : ∀ v' w', w'.ownsRow base e 1 v' (n + l.length) (xs ++ bytesV l) → w.grownBy w' v.ownBlock → KW v' w') : RunV P (Builtin.append_ #[t, u] ty #[v, .string ⟨l.toArray⟩]) w KW := by
  obtain ⟨i, hi, hz, hs, hby⟩ := info_parts hT.info
  have hsz : (⟨l.toArray⟩ : ByteArray).size = l.length := by show l.toArray.size = _; simp
  obtain ⟨v', w', hr, h2, h3, h4⟩ := Lib.run_append_own_string (P := P) w base t u ty e i hT.und hu hi hz hs hby v n xs hown ⟨l.toArray⟩ (by rw [hsz]; exact hm) (by rw [hsz]; exact hb) hbase
  have hc : Lib.strCells ⟨l.toArray⟩ = bytesV l := by simp [Lib.strCells, bytesV, byteV]
  rw [hsz, hc] at h2
  exact .of hr (h v' w' h2 h3)

/-! ### variables of more than one cell -/
def Rec (W : World) (b : Nat) (t : TypeId) (cs : List Value) : Prop := W.heap[b]? = some (.cells cs.toArray t (0, 0))
theorem Rec.lt {W : World} {b : Nat} {t : TypeId} {cs : List Value} (h : Rec W b t cs) : b < W.heap.size := (Array.getElem?_eq_some_iff.1 h).1
theorem Rec.cell {W : World} {b : Nat} {t : TypeId} {cs : List Value} (h : Rec W b t cs) {j : Nat} {v : Value} (hj : cs[j]? = some v) : W.cell? ⟨b, j, none⟩ = some v := by
  rw [Lib.cell_of_heap h, List.getElem?_toArray]; exact hj
theorem Rec.frozen {W : World} {b : Nat} {t : TypeId} {cs : List Value} (h : Rec W b t cs) (j : Nat) : W.frozen? ⟨b, j, none⟩ = false := Lib.frozen_of_heap h j
theorem Rec.mod {W W' : World} {ks : List Nat} {b : Nat} {t : TypeId} {cs : List Value} (h : Rec W b t cs) (hm : Mod ks W W') (hn : b ∉ ks) : Rec W' b t cs := hm.heap h hn
theorem Rec.below {W W' : World} {b : Nat} {t : TypeId} {cs : List Value} (h : Rec W b t cs) (hm : Below W.heap.size W W') : Rec W' b t cs := (hm.block b h.lt).trans h

theorem w_recF {t : TypeId} {b j : Nat} {t0 : TypeId} {cs : List Value} {v : Value} (hagg : ∀ w, (isAgg t).run P w = .ok false w) (hr : Rec w b t0 cs) (hj : cs[j]? = some v) (h : K v) : RunW P (Instr.loadAt t (.pointer (some ⟨b, j, none⟩))) w K :=
  w_load hagg (hr.cell hj) h
theorem s_recF {S : World → Prop} {t : TypeId} {b j : Nat} {t0 : TypeId} {cs : List Value} {v : Value} (hagg : ∀ w, (isAgg t).run P w = .ok false w) (hr : ∀ w, S w → Rec w b t0 cs) (hj : cs[j]? = some v) (h : K v) : RunS P S (Instr.loadAt t (.pointer (some ⟨b, j, none⟩))) K :=
  s_load hagg (fun w hw => (hr w hw).cell hj) h
theorem run_rec {t : TypeId} {b : Nat} {cs : List Value} (hagg : ∀ w, (isAgg t).run P w = .ok true w) (hz : ∀ w, (sizeOf t).run P w = .ok cs.length w) (hr : Rec w b t cs) : (Instr.loadAt t (.pointer (some ⟨b, 0, none⟩))).run P w = .ok (.agg cs.toArray) w := by
  have := run_loadCells_list (P := P) w ⟨b, 0, none⟩ cs (fun j v hj => by rw [addr_add, Nat.zero_add]; exact hr.cell hj)
  simp [Instr.loadAt, Instr.sureAddr, loadVar, hagg, hz, this]
theorem w_rec {t : TypeId} {b : Nat} {cs : List Value} (hagg : ∀ w, (isAgg t).run P w = .ok true w) (hz : ∀ w, (sizeOf t).run P w = .ok cs.length w) (hr : Rec w b t cs) (h : K (.agg cs.toArray)) : RunW P (Instr.loadAt t (.pointer (some ⟨b, 0, none⟩))) w K :=
  .of (run_rec hagg hz hr) h
theorem s_rec {S : World → Prop} {t : TypeId} {b : Nat} {cs : List Value} (hagg : ∀ w, (isAgg t).run P w = .ok true w) (hz : ∀ w, (sizeOf t).run P w = .ok cs.length w) (hr : ∀ w, S w → Rec w b t cs) (h : K (.agg cs.toArray)) : RunS P S (Instr.loadAt t (.pointer (some ⟨b, 0, none⟩))) K :=
  ⟨_, fun w hw => run_rec hagg hz (hr w hw), h⟩
theorem u_recF {t : TypeId} {b j : Nat} {t0 : TypeId} {cs : List Value} {u v : Value} (hagg : ∀ w, (isAgg t).run P w = .ok false w) (hz : ∀ w, (sizeOf t).run P w = .ok 1 w) (h1 : v.oneCell' = true) (hr : Rec w b t0 cs) (hj : cs[j]? = some u)
    (h : ∀ w', Rec w' b t0 (cs.set j v) → Mod [b] w w' → KU w') : RunU P (Instr.storeAt t (.pointer (some ⟨b, j, none⟩)) v) w KU :=
  u_store hagg hz h1 (hr.cell hj) (hr.frozen j) (h _ (by
    unfold Rec
    rw [heap_setCell_same w b j cs.toArray t0 v hr]
    simp) (Mod.of_grown (grownBy_setAt w b j v)))
theorem v_allocRec {t : TypeId} {z : Value} (hz : ∀ w, (zeroValue t).run P w = .ok z w) (h : ∀ w', w'.heap.size = w.heap.size + 1 → Rec w' w.heap.size t z.cells.toList → Below w.heap.size w w' → KW (.pointer (some ⟨w.heap.size, 0, none⟩)) w') :
    RunV P (Instr.alloc t true (.tuple #[])) w KW :=
  v_alloc hz (h _ (by simp) (by unfold Rec; rw [Array.toArray_toList]; exact World.alloc_heap_new w _) ((Below.refl _ w).alloc (Nat.le_refl _) _))
theorem v_boxRec {t : TypeId} {cs : List Value} (h : ∀ w', w'.heap.size = w.heap.size + 1 → Rec w' w.heap.size t cs → Below w.heap.size w w' → KW (.pointer (some ⟨w.heap.size, 0, none⟩)) w') :
    RunV P (Instr.box t (.agg cs.toArray)) w KW :=
  v_box (h _ (by simp) (World.alloc_heap_new w _) ((Below.refl _ w).alloc (Nat.le_refl _) _))
/-- a struct written out -/
theorem v_build {t : TypeId} {z : Value} {fs : Array Field} {places : Array (Nat × Nat)} {parts : Array (Nat × Value)} {cells : Array Value} (hz : ∀ w, (zeroValue t).run P w = .ok z w) (ht : P.underlying t = some (.struct fs))
    (hp : ∀ w, (fs.mapM fun f => do pure (f.offset, ← sizeOf f.type) : Sem (Array (Nat × Nat))).run P w = .ok places w) (hf : Instr.fill (places[·]?) z.cells parts.toList = some cells) (h : KW (.agg cells) w) : RunV P (Instr.build t parts) w KW :=
  .of (by simp only [Instr.build, Sem.run_bind, hz, Result.andThen, run_underlying ht, hp, hf, Sem.run_pure]) h
/-- a whole variable set -/
theorem u_rec {t : TypeId} {b : Nat} {cs cs' : List Value} (hz : ∀ w, (sizeOf t).run P w = .ok cs.length w) (hl : cs'.length = cs.length) (h1 : ∀ v ∈ cs', v.oneCell' = true) (hr : Rec w b t cs)
    (h : ∀ w', Rec w' b t cs' → Mod [b] w w' → KU w') : RunU P (Instr.storeAt t (.pointer (some ⟨b, 0, none⟩)) (.agg cs'.toArray)) w KU := by
  have key : ∀ (vs : List Value) (i : Nat) (W : World) (ds : List Value), Rec W b t ds → i + vs.length = ds.length → (∀ v ∈ vs, v.oneCell' = true) →
      ∃ W', (storeCells ⟨b, 0, none⟩ vs i).run P W = .ok () W' ∧ Rec W' b t (ds.take i ++ vs) ∧ Mod [b] W W' := by
    intro vs
    induction vs with
    | nil =>
      intro i W ds hd hi _
      refine ⟨W, rfl, ?_, Mod.refl _ _⟩
      rw [List.append_nil, List.take_of_length_le (by simp at hi; omega)]
      exact hd
    | cons v vs ih =>
      intro i W ds hd hi hone
      simp only [List.length_cons] at hi
      have hil : i < ds.length := by omega
      have hci := hd.cell (List.getElem?_eq_getElem hil)
      have hs := run_store P W ⟨b, i, none⟩ v .plain (hone v (by simp))
      have hrec : Rec (W.setCell ⟨b, i, none⟩ v) b t (ds.set i v) := by
        unfold Rec
        rw [heap_setCell_same W b i ds.toArray t v hd]
        simp
      obtain ⟨W', hr', hd', hm'⟩ := ih (i + 1) (W.setCell ⟨b, i, none⟩ v) (ds.set i v) hrec (by rw [List.length_set]; omega) (fun x hx => hone x (by simp [hx]))
      refine ⟨W', ?_, ?_, (Mod.of_grown (grownBy_setAt W b i v)).trans hm'⟩
      · rw [storeCells]
        simp only [Sem.run_bind, addr_add, Nat.zero_add, hs, hci, hd.frozen i, Bool.false_eq_true, if_false, Result.andThen]
        exact hr'
      · have : (ds.set i v).take (i + 1) ++ vs = ds.take i ++ v :: vs := by
          rw [List.take_add_one, List.getElem?_set_self hil, List.take_set_of_le (Nat.le_refl _)]
          simp
        rw [← this]; exact hd'
  obtain ⟨W', hr', hd', hm'⟩ := key cs' 0 w cs hr (by omega) h1
  refine .of ?_ (h W' (by simpa using hd') hm')
  have hcells : (Value.agg cs'.toArray).cells = cs'.toArray := rfl
  simp only [Instr.storeAt, Instr.sureAddr, storeVar, Sem.run_bind, Sem.run_pure, Result.andThen, hz, hcells, List.size_toArray, hl, ne_eq, not_true_eq_false, if_false, hr']
end
end Go.Ez
