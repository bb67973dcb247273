/-
  EZ: memory: variables in boxes, what is owned, lists of slices, ranges over functions: laws of the forms with worlds left abstract.
-/
import Derived.Test.YtlflpbflpcmckaaDoorEzNat
namespace Go.Ez
open Go Go.Proofs Go.RowKit
set_option linter.unusedSimpArgs false
set_option linter.unusedVariables false

/-- of what was there, no block has turned but those of ks -/
structure Mod (ks : List Nat) (W W' : World) : Prop where
  os : W'.os = W.os
  tape : W'.tape = W.tape
  output : W'.output = W.output
  size : W.heap.size ≤ W'.heap.size
  block : ∀ i, i < W.heap.size → i ∉ ks → W'.heap[i]? = W.heap[i]?

theorem grownBy_setAt (W : World) (b q : Nat) (v : Value) : W.grownBy (W.setCell ⟨b, q, none⟩ v) (some b) :=
  ⟨rfl, rfl, rfl, by simp [World.setCell], fun k _ hk => Below.heap_setCell _ _ _ k (fun e => hk (by rw [e]))⟩

/-! ### functions of n values, applied -/
theorem app1 {f : FnN 1} {v0 : Value} {w : World} (h : f v0 w) : appN 1 f [v0] w := h
theorem app2 {f : FnN 2} {v0 v1 : Value} {w : World} (h : f v0 v1 w) : appN 2 f [v0, v1] w := h
theorem app3 {f : FnN 3} {v0 v1 v2 : Value} {w : World} (h : f v0 v1 v2 w) : appN 3 f [v0, v1, v2] w := h
theorem app4 {f : FnN 4} {v0 v1 v2 v3 : Value} {w : World} (h : f v0 v1 v2 v3 w) : appN 4 f [v0, v1, v2, v3] w := h
theorem app5 {f : FnN 5} {v0 v1 v2 v3 v4 : Value} {w : World} (h : f v0 v1 v2 v3 v4 w) : appN 5 f [v0, v1, v2, v3, v4] w := h
theorem app6 {f : FnN 6} {v0 v1 v2 v3 v4 v5 : Value} {w : World} (h : f v0 v1 v2 v3 v4 v5 w) : appN 6 f [v0, v1, v2, v3, v4, v5] w := h
theorem app7 {f : FnN 7} {v0 v1 v2 v3 v4 v5 v6 : Value} {w : World} (h : f v0 v1 v2 v3 v4 v5 v6 w) : appN 7 f [v0, v1, v2, v3, v4, v5, v6] w := h
theorem app8 {f : FnN 8} {v0 v1 v2 v3 v4 v5 v6 v7 : Value} {w : World} (h : f v0 v1 v2 v3 v4 v5 v6 v7 w) : appN 8 f [v0, v1, v2, v3, v4, v5, v6, v7] w := h
theorem app9 {f : FnN 9} {v0 v1 v2 v3 v4 v5 v6 v7 v8 : Value} {w : World} (h : f v0 v1 v2 v3 v4 v5 v6 v7 v8 w) : appN 9 f [v0, v1, v2, v3, v4, v5, v6, v7, v8] w := h
theorem app10 {f : FnN 10} {v0 v1 v2 v3 v4 v5 v6 v7 v8 v9 : Value} {w : World} (h : f v0 v1 v2 v3 v4 v5 v6 v7 v8 v9 w) : appN 10 f [v0, v1, v2, v3, v4, v5, v6, v7, v8, v9] w := h
theorem app11 {f : FnN 11} {v0 v1 v2 v3 v4 v5 v6 v7 v8 v9 v10 : Value} {w : World} (h : f v0 v1 v2 v3 v4 v5 v6 v7 v8 v9 v10 w) : appN 11 f [v0, v1, v2, v3, v4, v5, v6, v7, v8, v9, v10] w := h
theorem app12 {f : FnN 12} {v0 v1 v2 v3 v4 v5 v6 v7 v8 v9 v10 v11 : Value} {w : World} (h : f v0 v1 v2 v3 v4 v5 v6 v7 v8 v9 v10 v11 w) : appN 12 f [v0, v1, v2, v3, v4, v5, v6, v7, v8, v9, v10, v11] w := h

section
variable {ks ks' : List Nat} {W W' W'' : World}

theorem Mod.refl (ks : List Nat) (W : World) : Mod ks W W := ⟨rfl, rfl, rfl, Nat.le_refl _, fun _ _ _ => rfl⟩
theorem Mod.trans (h : Mod ks W W') (k : Mod ks W' W'') : Mod ks W W'' :=
  ⟨k.os.trans h.os, k.tape.trans h.tape, k.output.trans h.output, Nat.le_trans h.size k.size, fun i hi hn => (k.block i (Nat.lt_of_lt_of_le hi h.size) hn).trans (h.block i hi hn)⟩
theorem Mod.mono (h : Mod ks W W') (hs : ∀ x ∈ ks, x ∈ ks') : Mod ks' W W' := ⟨h.os, h.tape, h.output, h.size, fun i hi hn => h.block i hi fun hm => hn (hs i hm)⟩
theorem Mod.of_below (h : Below W.heap.size W W') : Mod ks W W' := ⟨h.os, h.tape, h.output, h.size, fun i hi _ => h.block i hi⟩
theorem Mod.of_grown {row : Option Nat} (h : W.grownBy W' row) : Mod row.toList W W' :=
  ⟨h.os, h.tape, h.output, h.size, fun i hi hn => h.block i hi fun e => hn (by rw [← e]; simp)⟩
theorem Mod.putObj (W : World) (l : Nat) (o : Obj) : Mod [l] W (W.putObj l o) := Mod.of_grown (grownBy_putObj' W l o)
theorem Mod.drew (W : World) : Mod [] W W.drew := ⟨rfl, rfl, rfl, Nat.le_refl _, fun _ _ _ => rfl⟩
theorem Mod.heap {b : Nat} {o : Obj} (h : Mod ks W W') (hb : W.heap[b]? = some o) (hn : b ∉ ks) : W'.heap[b]? = some o := (h.block b (Array.getElem?_eq_some_iff.1 hb).1 hn).trans hb
theorem Mod.boxed {b : Nat} {t : TypeId} {v : Value} (h : Mod ks W W') (hb : Boxed W b t v) (hn : b ∉ ks) : Boxed W' b t v := h.heap hb hn
theorem Mod.below {B : Nat} {a : World} (h : Mod ks W W') (hb : Below B a W) (hB : B ≤ a.heap.size) (hk : ∀ k ∈ ks, B ≤ k) : Below B a W' :=
  ⟨h.os.trans hb.os, h.tape.trans hb.tape, h.output.trans hb.output, Nat.le_trans hb.size h.size, fun i hi => (h.block i (Nat.lt_of_lt_of_le hi (Nat.le_trans hB hb.size)) (fun hm => by have := hk i hm; omega)).trans (hb.block i hi)⟩
theorem Mod.own {base : Nat} {e : TypeId} {size : Nat} {v : Value} {n : Nat} {xs : List Value} (h : Mod ks W W') (ho : W.ownsRow base e size v n xs) (hn : ∀ k ∈ ks, v.ownBlock ≠ some k) : W'.ownsRow base e size v n xs := by
  obtain ⟨h1, h2⟩ := ho
  refine ⟨h1, ?_⟩
  rcases h2 with h2 | ⟨g, cap, cur, rfl, hg, hh, r⟩
  · exact Or.inl h2
  · exact Or.inr ⟨g, cap, cur, rfl, hg, h.heap hh (fun hm => hn g hm rfl), r⟩
/-- what is owned lies in no block that holds something else -/
theorem own_not {base : Nat} {e : TypeId} {size : Nat} {v : Value} {n : Nat} {xs : List Value} (ho : W.ownsRow base e size v n xs) {k : Nat} {o : Obj} (hk : W.heap[k]? = some o) (hne : ∀ cs, o ≠ .cells cs e (0, 0)) : v.ownBlock ≠ some k := by
  rcases ho.2 with ⟨rfl, _⟩ | ⟨g, cap, cur, rfl, hg, hh, r⟩
  · simp [Value.ownBlock]
  · intro he
    cases he
    rw [hh] at hk
    cases hk
    exact hne _ rfl
theorem own_notBox {base : Nat} {e t : TypeId} {size : Nat} {u v : Value} {n : Nat} {xs : List Value} (ho : W.ownsRow base e size v n xs) {k : Nat} (hk : Boxed W k t u) (hne : t ≠ e) : v.ownBlock ≠ some k :=
  own_not ho hk (fun cs he => by cases he; exact hne rfl)
theorem own_notLow {base : Nat} {e : TypeId} {size : Nat} {v : Value} {n : Nat} {xs : List Value} (ho : W.ownsRow base e size v n xs) {k : Nat} (hk : k < base) : v.ownBlock ≠ some k := fun he => by have := own_base ho k he; omega
theorem own_notOwn {base base' : Nat} {e e' : TypeId} {size size' : Nat} {v v' : Value} {n n' : Nat} {xs xs' : List Value} (ho : W.ownsRow base e size v n xs) (ho' : W.ownsRow base' e' size' v' n' xs') (hne : e ≠ e') {k : Nat} (hk : v'.ownBlock = some k) : v.ownBlock ≠ some k := by
  rcases ho'.2 with ⟨rfl, _⟩ | ⟨g, cap, cur, rfl, hg, hh, r⟩
  · cases hk
  · cases hk
    exact own_not ho hh (fun cs he => by cases he; exact hne rfl)
theorem box_notAt {b l : Nat} {t : TypeId} {u : Value} {o : Obj} (hb : Boxed W b t u) (hl : W.heap[l]? = some o) (ho : o.isCells = false) : b ∉ [l] := fun hm => by
  rw [List.mem_singleton] at hm
  rw [← hm, show W.heap[b]? = _ from hb] at hl
  cases hl
  cases ho
/-- behind an append to what is owned -/
theorem Mod.grow {base : Nat} {e : TypeId} {size : Nat} {v : Value} {n : Nat} {xs : List Value} (_ : W.ownsRow base e size v n xs) (h : W.grownBy W' v.ownBlock) : Mod v.ownBlock.toList W W' := Mod.of_grown h
theorem mem_ownBlock {v : Value} {k : Nat} : k ∈ v.ownBlock.toList ↔ v.ownBlock = some k := by cases v.ownBlock <;> simp [eq_comm]
end

section
variable {P : Program} {w : World} {K : Value → Prop} {KW : Value → World → Prop} {KU : World → Prop}

theorem ift' {b : Bool} {p q : Prop} (hb : b = true) (h : p) : IfB (.bool b) p q := ⟨b, rfl, fun _ => h, fun e => by rw [hb] at e; cases e⟩
theorem ifnd {c : Prop} [hd : Decidable c] {p q : Prop} (h : ¬ c → p) (h' : c → q) : IfB (.bool (!decide c)) p q :=
  ⟨!decide c, rfl, fun e => h (by simpa using e), fun e => h' (by simpa using e)⟩
theorem ifnb {b : Bool} {p q : Prop} (h : b = false → p) (h' : b = true → q) : IfB (.bool (!b)) p q :=
  ⟨!b, rfl, fun e => h (by simpa using e), fun e => h' (by simpa using e)⟩

/-- a function held against nil -/
theorem run_equal_func_nil {t : TypeId} {ps rs : Array TypeId} {vr : Bool} {f : Fn} {a b : Array Value} (ht : P.underlying t = some (.func ps rs vr)) : (Op.equal t (.func f a b) .nilFunc).run P w = .ok false w := by
  have h : ∀ d, (Op.equalIn (d + 1) t (.func f a b) .nilFunc).run P w = .ok false w := fun d => by simp [Op.equalIn, run_underlying ht]
  exact h 9999
theorem w_nilFn {t : TypeId} {X Y : Operand} {ps rs : Array TypeId} {vr : Bool} {f : Fn} {a b : Array Value} (ht : P.underlying t = some (.func ps rs vr)) (h : K (.bool false)) : RunW P (bin .eql t X Y (.func f a b) .nilFunc) w K :=
  .of (by
    show (do eqGuard .eql t X Y (.func f a b) .nilFunc; pure (Value.bool (← Op.equal t (.func f a b) .nilFunc)) : Sem Value).run P w = _
    simp [eqGuard, run_equal_func_nil ht]) h

/-! ### variables in boxes -/
theorem w_box {t : TypeId} {b : Nat} {v : Value} (hagg : ∀ w, (isAgg t).run P w = .ok false w) (hb : Boxed w b t v) (h : K v) : RunW P (Instr.loadAt t (.pointer (some ⟨b, 0, none⟩))) w K := w_load hagg hb.cell h
theorem s_box {S : World → Prop} {t : TypeId} {b : Nat} {v : Value} (hagg : ∀ w, (isAgg t).run P w = .ok false w) (hb : ∀ w, S w → Boxed w b t v) (h : K v) : RunS P S (Instr.loadAt t (.pointer (some ⟨b, 0, none⟩))) K :=
  s_load hagg (fun w hw => (hb w hw).cell) h
theorem u_box {t : TypeId} {b : Nat} {u v : Value} (hagg : ∀ w, (isAgg t).run P w = .ok false w) (hz : ∀ w, (sizeOf t).run P w = .ok 1 w) (h1 : v.oneCell' = true) (hb : Boxed w b t u)
    (h : ∀ w', Boxed w' b t v → Mod [b] w w' → KU w') : RunU P (Instr.storeAt t (.pointer (some ⟨b, 0, none⟩)) v) w KU :=
  u_store hagg hz h1 hb.cell hb.frozen (h _ (hb.set v) (Mod.of_grown (grownBy_setCell' w b v)))
theorem v_allocBox {t : TypeId} {z : Value} (hz : ∀ w, (zeroValue t).run P w = .ok z w) (h1 : z.oneCell' = true) (h : ∀ w', w'.heap.size = w.heap.size + 1 → Boxed w' w.heap.size t z → Below w.heap.size w w' → KW (.pointer (some ⟨w.heap.size, 0, none⟩)) w') :
    RunV P (Instr.alloc t true (.tuple #[])) w KW := by
  have hc : z.cells = #[z] := by cases z <;> first | rfl | (simp [Value.oneCell'] at h1)
  refine v_alloc hz ?_
  rw [hc]
  exact h _ (by simp) (Boxed.new w t z) ((Below.refl _ w).alloc (Nat.le_refl _) _)
theorem v_boxBox {t : TypeId} {v : Value} (h1 : v.oneCell' = true) (h : ∀ w', w'.heap.size = w.heap.size + 1 → Boxed w' w.heap.size t v → Below w.heap.size w w' → KW (.pointer (some ⟨w.heap.size, 0, none⟩)) w') :
    RunV P (Instr.box t v) w KW := by
  have hc : v.cells = #[v] := by cases v <;> first | rfl | (simp [Value.oneCell'] at h1)
  refine v_box ?_
  rw [hc]
  exact h _ (by simp) (Boxed.new w t v) ((Below.refl _ w).alloc (Nat.le_refl _) _)
theorem one_slice {v : Value} {sz n : Nat} {cs : List Value} (h : Sl w sz v n cs) : v.oneCell' = true := by obtain ⟨_, _, rfl, _⟩ := h; rfl

/-! ### lists of slices of bytes -/
/-- each of vs holds the bytes that stand at its place -/
def Bs (w : World) (vs : List Value) (ls : List (List UInt8)) : Prop := vs.length = ls.length ∧ ∀ (i : Nat) (v : Value) (l : List UInt8), vs[i]? = some v → ls[i]? = some l → By w v l
/-- likewise, and owns them -/
def Owns (e : TypeId) (B : Nat) (w : World) (vs : List Value) (ls : List (List UInt8)) : Prop := vs.length = ls.length ∧ ∀ (i : Nat) (v : Value) (l : List UInt8), vs[i]? = some v → ls[i]? = some l → w.ownsRow B e 1 v l.length (bytesV l)
/-- a slice of slices of bytes -/
def Ls (w : World) (v : Value) (ls : List (List UInt8)) : Prop := ∃ vs, Sl w 1 v ls.length vs ∧ Bs w vs ls

theorem Bs.nil : Bs w [] [] := ⟨rfl, by simp⟩
theorem Owns.nil {e : TypeId} {B : Nat} : Owns e B w [] [] := ⟨rfl, by simp⟩
theorem Owns.bs {e : TypeId} {B : Nat} {vs : List Value} {ls : List (List UInt8)} (h : Owns e B w vs ls) : Bs w vs ls := ⟨h.1, fun i v l h1 h2 => Sl.of_own (h.2 i v l h1 h2)⟩
theorem Bs.below {w' : World} {vs : List Value} {ls : List (List UInt8)} (h : Bs w vs ls) (hb : Below w.heap.size w w') : Bs w' vs ls := ⟨h.1, fun i v l h1 h2 => (h.2 i v l h1 h2).below hb⟩
theorem Ls.below {w' : World} {v : Value} {ls : List (List UInt8)} (h : Ls w v ls) (hb : Below w.heap.size w w') : Ls w' v ls := by
  obtain ⟨vs, h1, h2⟩ := h
  exact ⟨vs, h1.below hb, h2.below hb⟩
theorem getElem?_snoc {α : Type} {l : List α} {x y : α} {i : Nat} (h : (l ++ [x])[i]? = some y) : (i < l.length ∧ l[i]? = some y) ∨ (i = l.length ∧ y = x) := by
  rcases Nat.lt_trichotomy i l.length with hi | hi | hi
  · rw [List.getElem?_append_left hi] at h; exact .inl ⟨hi, h⟩
  · subst hi; rw [List.getElem?_append_right (Nat.le_refl _)] at h; simp at h; exact .inr ⟨rfl, h.symm⟩
  · rw [List.getElem?_eq_none (by simp; omega)] at h; cases h
theorem Bs.snoc {vs : List Value} {ls : List (List UInt8)} {v : Value} {l : List UInt8} (h : Bs w vs ls) (hv : By w v l) : Bs w (vs ++ [v]) (ls ++ [l]) := by
  refine ⟨by simp [h.1], fun i u m h1 h2 => ?_⟩
  rcases getElem?_snoc h1 with ⟨hi, h1⟩ | ⟨hi, rfl⟩
  · rcases getElem?_snoc h2 with ⟨_, h2⟩ | ⟨hj, _⟩
    · exact h.2 i u m h1 h2
    · have := h.1; omega
  · rcases getElem?_snoc h2 with ⟨hj, _⟩ | ⟨_, rfl⟩
    · have := h.1; omega
    · exact hv
theorem Owns.snoc {e : TypeId} {B : Nat} {vs : List Value} {ls : List (List UInt8)} {v : Value} {l : List UInt8} (h : Owns e B w vs ls) (hv : w.ownsRow B e 1 v l.length (bytesV l)) : Owns e B w (vs ++ [v]) (ls ++ [l]) := by
  refine ⟨by simp [h.1], fun i u m h1 h2 => ?_⟩
  rcases getElem?_snoc h1 with ⟨hi, h1⟩ | ⟨hi, rfl⟩
  · rcases getElem?_snoc h2 with ⟨_, h2⟩ | ⟨hj, _⟩
    · exact h.2 i u m h1 h2
    · have := h.1; omega
  · rcases getElem?_snoc h2 with ⟨hj, _⟩ | ⟨_, rfl⟩
    · have := h.1; omega
    · exact hv
theorem Owns.mod {e : TypeId} {B : Nat} {w' : World} {ks : List Nat} {vs : List Value} {ls : List (List UInt8)} (h : Owns e B w vs ls) (hm : Mod ks w w') (hn : ∀ k ∈ ks, ∀ (v : Value) (l : List UInt8), w.ownsRow B e 1 v l.length (bytesV l) → v.ownBlock ≠ some k) : Owns e B w' vs ls :=
  ⟨h.1, fun i v l h1 h2 => hm.own (h.2 i v l h1 h2) fun k hk => hn k hk v l (h.2 i v l h1 h2)⟩
theorem Owns.base {e : TypeId} {B B' : Nat} {vs : List Value} {ls : List (List UInt8)} (h : Owns e B w vs ls) (hB : B' ≤ B) : Owns e B' w vs ls := ⟨h.1, fun i v l h1 h2 => own_mono (h.2 i v l h1 h2) hB⟩

theorem Bs.take {vs : List Value} {ls : List (List UInt8)} (h : Bs w vs ls) (d : Nat) : Bs w (vs.take d) (ls.take d) :=
  ⟨by rw [List.length_take, List.length_take, h.1], fun i v l h1 h2 => by
    rw [List.getElem?_take] at h1 h2
    split at h1
    · rename_i hi
      rw [if_pos hi] at h2
      exact h.2 i v l h1 h2
    · cases h1⟩
theorem Bs.ls {vs : List Value} {ls : List (List UInt8)} {v : Value} (h : Bs w vs ls) (hs : Sl w 1 v ls.length vs) : Ls w v ls := ⟨vs, hs, h⟩

/-! ### bytes that are owned, turned -/
/-- each of vs owns so many bytes, whatever they are -/
def OwnsN (e : TypeId) (B : Nat) (w : World) (vs : List Value) (ls : List (List UInt8)) : Prop := vs.length = ls.length ∧ ∀ (i : Nat) (v : Value) (l : List UInt8), vs[i]? = some v → ls[i]? = some l → ∃ l' : List UInt8, l'.length = l.length ∧ w.ownsRow B e 1 v l.length (bytesV l')
theorem Owns.n {e : TypeId} {B : Nat} {vs : List Value} {ls : List (List UInt8)} (h : Owns e B w vs ls) : OwnsN e B w vs ls := ⟨h.1, fun i v l h1 h2 => ⟨l, rfl, h.2 i v l h1 h2⟩⟩
theorem bytesV_set (l : List UInt8) (i : Nat) (b : UInt8) : (bytesV l).set i (byteV b) = bytesV (l.set i b) := by simp [bytesV, List.map_set]
theorem own_setByte {B B' : Nat} {e : TypeId} {v u : Value} {n m : Nat} {l : List UInt8} {xs : List Value} {g q : Nat} (h : w.ownsRow B e 1 v n (bytesV l)) (hu : w.ownsRow B' e 1 u m xs) (hg : u.ownBlock = some g) (b : UInt8) :
    ∃ l' : List UInt8, l'.length = l.length ∧ (w.setCell ⟨g, q, none⟩ (byteV b)).ownsRow B e 1 v n (bytesV l') := by
  by_cases hv : v.ownBlock = some g
  · have h' := h
    rcases h.2 with ⟨rfl, _⟩ | ⟨g', cap, cur, rfl, hb, hh, r⟩
    · cases hv
    · obtain rfl : g' = g := by simpa [Value.ownBlock] using hv
      have := (h'.stored q (byteV b)).1
      rw [bytesV_set] at this
      exact ⟨l.set q b, by simp, this⟩
  · exact ⟨l, rfl, (Mod.of_grown (grownBy_setAt w g q (byteV b))).own h (fun k hk => by simp at hk; subst hk; exact hv)⟩
theorem own_setCell {B : Nat} {e : TypeId} {v : Value} {n q : Nat} {xs : List Value} {P : Program} {t : TypeId} {bytes : Nat} {z : Value} {k : IntKind} {K : Value → Prop} (hT : ElT P t e 1 bytes z) (h : w.ownsRow B e 1 v n xs) (hq : q < n)
    (hK : ∀ g, v.ownBlock = some g → (∀ u, xs[q]? = some u → w.cell? ⟨g, q, none⟩ = some u) → w.frozen? ⟨g, q, none⟩ = false → K (.pointer (some ⟨g, q, none⟩))) : RunA P (Instr.indexAt t v (.int k (q : Int))) K := by
  have h' := h
  rcases h.2 with ⟨rfl, h0⟩ | ⟨g, cap, cur, rfl, hb, hh, r⟩
  · omega
  · refine a_indexAt hT.und hT.size (by omega) (by omega) ?_
    rw [Nat.zero_add, Nat.mul_one, Int.toNat_natCast]
    refine hK g rfl (fun u hu => ?_) (h'.frozenAt q)
    have := h'.cells (g := g) rfl q u hu
    rw [addr_add, Nat.zero_add] at this
    exact this

/-! ### a call -/
theorem CallF.mono {g : FuncId} {args : Array Value} {k k' : Value → World → Prop} (h : CallF P g args w k) (hk : ∀ v w', k v w' → k' v w') : CallF P g args w k' :=
  Calls.mono h (by rintro e w' ⟨v, rfl, hv⟩; exact ⟨v, rfl, hk v w' hv⟩)
end
end Go.Ez
