/-
  EZ: laws of the forms for numbers that are not below 0, for bytes, for comparisons with nil; frames of worlds.
-/
import Derived.Test.YtlflpbflpcmckaaDoorEzLib
import Derived.WalkSpells
namespace Go.Ez
open Go Go.Proofs Go.RowKit
set_option linter.unusedSimpArgs false
set_option linter.unusedVariables false

section
variable {P : Program} {w : World} {K : Value → Prop} {KW : Value → World → Prop} {KU : World → Prop}
variable {t : TypeId} {X Y : Operand} {k k' : IntKind} {a b : Int}

/-- a number that is not below 0 -/
abbrev nV (k : IntKind) (n : Nat) : Value := .int k (n : Int)

theorem kmax_lt (k : IntKind) : 0 ≤ k.max ∧ k.max < 2 ^ k.bits := by cases k <;> simp [IntKind.max, IntKind.bits, IntKind.signed]

theorem a_shrN {n m : Nat} (hm : m ≤ k.bits) (h : K (nV k (n / 2 ^ m))) : RunA P (bin .shr t X Y (nV k n) (nV k' m)) K :=
  a_shr (by omega) (by
    rw [Int.toNat_natCast, Nat.min_eq_left hm, Int.fdiv_eq_ediv_of_nonneg _ (by exact_mod_cast Nat.zero_le (2 ^ m))]
    exact h)
theorem a_shlN {n m : Nat} (hm : m ≤ k.bits) (hx : ((n * 2 ^ m : Nat) : Int) ≤ k.max) (h : K (nV k (n * 2 ^ m))) : RunA P (bin .shl t X Y (nV k n) (nV k' m)) K :=
  a_shl (by omega) (by
    rw [Int.toNat_natCast, Nat.min_eq_left hm]
    have : ((n : Int) * 2 ^ m) = ((n * 2 ^ m : Nat) : Int) := by push_cast; rfl
    rw [this, wrap_nat hx]
    exact h)
theorem nat_lt_bits {n : Nat} (h : (n : Int) ≤ k.max) : (n : Int) < 2 ^ k.bits := Int.lt_of_le_of_lt h (kmax_lt k).2
theorem a_andN {n m : Nat} (hn : (n : Int) ≤ k.max) (hm : (m : Int) ≤ k.max) (h : K (nV k (n &&& m))) : RunA P (bin .and t X Y (nV k n) (nV k m)) K :=
  a_and (by omega) (nat_lt_bits hn) (by omega) (nat_lt_bits hm) (by
    have : n &&& m ≤ n := Nat.and_le_left
    simp only [Int.toNat_natCast]; omega) (by simpa using h)
theorem bits_pow (k : IntKind) : ∃ b, k.max = 2 ^ b - 1 := by
  cases k
  all_goals first | exact ⟨7, rfl⟩ | exact ⟨15, rfl⟩ | exact ⟨31, rfl⟩ | exact ⟨63, rfl⟩ | exact ⟨8, rfl⟩ | exact ⟨16, rfl⟩ | exact ⟨32, rfl⟩ | exact ⟨64, rfl⟩
theorem or_le_max {n m : Nat} (hn : (n : Int) ≤ k.max) (hm : (m : Int) ≤ k.max) : ((n ||| m : Nat) : Int) ≤ k.max ∧ ((n ^^^ m : Nat) : Int) ≤ k.max := by
  obtain ⟨b, hb⟩ := bits_pow k
  have e : ((2 ^ b : Nat) : Int) = 2 ^ b := by push_cast; rfl
  rw [hb, ← e] at hn hm ⊢
  have hp : 0 < 2 ^ b := Nat.two_pow_pos b
  have h1 : n < 2 ^ b := by omega
  have h2 : m < 2 ^ b := by omega
  have h3 := Nat.or_lt_two_pow h1 h2
  have h4 := Nat.xor_lt_two_pow h1 h2
  omega
theorem a_orN {n m : Nat} (hn : (n : Int) ≤ k.max) (hm : (m : Int) ≤ k.max) (h : K (nV k (n ||| m))) : RunA P (bin .or t X Y (nV k n) (nV k m)) K :=
  a_or (by omega) (nat_lt_bits hn) (by omega) (nat_lt_bits hm) (by simpa using (or_le_max hn hm).1) (by simpa using h)
theorem a_xorN {n m : Nat} (hn : (n : Int) ≤ k.max) (hm : (m : Int) ≤ k.max) (h : K (nV k (n ^^^ m))) : RunA P (bin .xor t X Y (nV k n) (nV k m)) K :=
  a_xor (by omega) (nat_lt_bits hn) (by omega) (nat_lt_bits hm) (by simpa using (or_le_max hn hm).2) (by simpa using h)
theorem a_complN {n : Nat} (hk : k.signed = false) (hn : (n : Int) ≤ k.max) (h : K (nV k (k.max.toNat ^^^ n))) : RunA P (Op.unary .xor (nV k n)) K :=
  a_compl hk (kmax_lt k) (by omega) (nat_lt_bits hn) (by
    have := (or_le_max (k := k) (n := k.max.toNat) (m := n) (by have := (kmax_lt k).1; omega) hn).2
    simpa using this) (by simpa using h)
/-- as a byte -/
theorem v_byte {src dst : TypeId} {d0 : TypeDesc} {n : Nat} (hs : P.underlying src = some d0) (hd : P.underlying dst = some (.int .u8)) (h : KW (byteV (UInt8.ofNat n)) w) : RunV P (convert src dst (nV k' n)) w KW :=
  v_conv hs hd (by
    have : IntKind.u8.wrap (n : Int) = ((UInt8.ofNat n).toNat : Int) := by
      simp only [IntKind.wrap, IntKind.bits, IntKind.signed, UInt8.toNat_ofNat']
      simp
    rw [this]; exact h)
theorem v_convN {src dst : TypeId} {d0 : TypeDesc} {n : Nat} (hs : P.underlying src = some d0) (hd : P.underlying dst = some (.int k)) (hn : (n : Int) ≤ k.max) (h : KW (nV k n) w) : RunV P (convert src dst (nV k' n)) w KW :=
  v_conv hs hd (by rw [wrap_nat hn]; exact h)
theorem v_ofByte {src dst : TypeId} {d0 : TypeDesc} {b : UInt8} (hs : P.underlying src = some d0) (hd : P.underlying dst = some (.int k)) (hk : 255 ≤ k.max) (h : KW (nV k b.toNat) w) : RunV P (convert src dst (byteV b)) w KW :=
  v_convN (k' := .u8) hs hd (by have := b.toNat_lt; omega) h

/-! ### nil -/
theorem w_nilE {t : TypeId} {X Y : Operand} {ao : Option Addr} {n c : Nat} {e : TypeId} (ht : P.underlying t = some (.slice e)) (h : K (.bool ao.isNone)) : RunW P (bin .eql t X Y (.slice ao n c) (.slice none 0 0)) w K :=
  .of (by simp [bin, go_sem, binOp, ht, eqGuard, Op.equal, Op.maxDepth, Lib.run_equalIn_slice_nil w 9999 t e ao n c 0 0 ht]) h
theorem w_nilN {t : TypeId} {X Y : Operand} {ao : Option Addr} {n c : Nat} {e : TypeId} (ht : P.underlying t = some (.slice e)) (h : K (.bool (!ao.isNone))) : RunW P (bin .neq t X Y (.slice ao n c) (.slice none 0 0)) w K :=
  .of (by simp [bin, go_sem, binOp, ht, eqGuard, Op.equal, Op.maxDepth, Lib.run_equalIn_slice_nil w 9999 t e ao n c 0 0 ht]) h
/-- a slice that holds cells, held against nil: nil only if it has none -/
theorem w_nilSE {t e : TypeId} {X Y : Operand} {v : Value} {sz n : Nat} {cs : List Value} {w0 : World} (ht : P.underlying t = some (.slice e)) (hs : Sl w0 sz v n cs) (h : ∀ b, (b = true → v = .slice none 0 0 ∧ n = 0) → K (.bool b)) : RunW P (bin .eql t X Y v (.slice none 0 0)) w K := by
  obtain ⟨ao, cap, rfl, hnc, _, _, hnil⟩ := hs
  refine w_nilE ht (h _ fun hb => ?_)
  have : ao = none := by simpa using hb
  subst this
  have := hnil rfl
  subst this
  exact ⟨by have : n = 0 := by { omega }; rw [this], by omega⟩

/-! ### an element read -/
theorem w_at {t e : TypeId} {bytes : Nat} {z v : Value} {n : Nat} {cs : List Value} {i : Nat} (hT : ElT P t e 1 bytes z) (hagg : ∀ w, (isAgg e).run P w = .ok false w) (hs : Sl w 1 v n cs) (hi : i < n) (h : ∀ u, cs[i]? = some u → K u) :
    RunA P (Instr.indexAt t v (.int k (i : Int))) fun p => RunW P (Instr.loadAt e p) w K := by
  have hl : i < cs.length := by obtain ⟨_, _, _, _, hl, _⟩ := hs; omega
  refine a_indexS hT.und hT.size (by omega) hs (by omega) (by omega) fun b o hc => ?_
  have := hc 0 (cs[i]'hl) (by omega) (by simp [hl])
  exact w_load hagg this (h _ (List.getElem?_eq_getElem hl))
theorem s_at {S : World → Prop} {t e : TypeId} {bytes : Nat} {z v : Value} {n : Nat} {cs : List Value} {i : Nat} {w0 : World} (hT : ElT P t e 1 bytes z) (hagg : ∀ w, (isAgg e).run P w = .ok false w) (hs : Sl w0 1 v n cs) (hS : ∀ w, S w → Below w0.heap.size w0 w) (hi : i < n) (h : ∀ u, cs[i]? = some u → K u) :
    RunA P (Instr.indexAt t v (.int k (i : Int))) fun p => RunS P S (Instr.loadAt e p) K := by
  have hl : i < cs.length := by obtain ⟨_, _, _, _, hl, _⟩ := hs; omega
  refine a_indexS hT.und hT.size (by omega) hs (by omega) (by omega) fun b o hc => ?_
  have hx := hc 0 (cs[i]'hl) (by omega) (by simp [hl])
  exact s_load hagg (fun w hw => ((hS w hw).cell (p := ⟨b, o + 0, none⟩) (World.block_lt_of_cell? _ _ hx)).trans hx) (h _ (List.getElem?_eq_getElem hl))
theorem bytesV_get {l : List UInt8} {i : Nat} {u : Value} (h : (bytesV l)[i]? = some u) : ∃ b, l[i]? = some b ∧ u = byteV b := by
  rw [bytesV, List.getElem?_map] at h
  cases hx : l[i]? with
  | none => rw [hx] at h; cases h
  | some b => rw [hx] at h; cases h; exact ⟨b, rfl, rfl⟩
/-- a part of bytes -/
theorem a_part {t e : TypeId} {bytes : Nat} {z v : Value} {l : List UInt8} {w0 : World} {lo hi : Nat} (hT : ElT P t e 1 bytes z) (hs : By w0 v l) (h1 : lo ≤ hi) (h2 : hi ≤ l.length)
    (h : ∀ v', By w0 v' ((l.drop lo).take (hi - lo)) → K v') : RunA P (Instr.sliceAt t v (some (.int k (lo : Int))) (some (.int k' (hi : Int))) none) K := by
  refine a_slice hT hs (by omega) (by omega) (by omega) fun v' hv => h v' ?_
  simp only [Int.toNat_natCast, Nat.mul_one] at hv
  have e1 : ((l.drop lo).take (hi - lo)).length = hi - lo := by rw [List.length_take, List.length_drop]; omega
  unfold By
  rw [e1]
  have e2 : bytesV ((l.drop lo).take (hi - lo)) = ((bytesV l).drop lo).take (hi - lo) := by simp [bytesV, List.map_take, List.map_drop]
  rw [e2]; exact hv

/-! ### worlds -/
theorem Below.ext {B : Nat} {a b c : World} (h : Below B a b) (k : Below b.heap.size b c) (hB : B ≤ a.heap.size) : Below B a c := h.trans (k.mono (Nat.le_trans hB h.size))
theorem Below.next {a b c : World} (h : Below a.heap.size a b) (k : Below b.heap.size b c) : Below a.heap.size a c := Below.ext h k (Nat.le_refl _)

/-- what is owned stays owned where no block that was there has turned -/
theorem ownsRow_ext {w w' : World} {base : Nat} {e : TypeId} {size : Nat} {v : Value} {n : Nat} {xs : List Value} (h : w.ownsRow base e size v n xs) (k : Below w.heap.size w w') : w'.ownsRow base e size v n xs := by
  obtain ⟨h1, h2⟩ := h
  refine ⟨h1, ?_⟩
  rcases h2 with h2 | ⟨g, cap, cur, hv, hg, hh, r⟩
  · exact Or.inl h2
  · exact Or.inr ⟨g, cap, cur, hv, hg, by rw [k.block g (Array.getElem?_eq_some_iff.1 hh).1]; exact hh, r⟩
/-- the block of what is owned -/
theorem own_base {w : World} {base : Nat} {e : TypeId} {size : Nat} {v : Value} {n : Nat} {xs : List Value} (h : w.ownsRow base e size v n xs) : ∀ k, v.ownBlock = some k → base ≤ k := by
  intro k hk
  rcases h.2 with ⟨rfl, _⟩ | ⟨g, cap, cur, rfl, hb, _⟩
  · cases hk
  · cases hk; exact hb
theorem own_nil {w : World} {base : Nat} {e : TypeId} {size : Nat} : w.ownsRow base e size (.slice none 0 0) 0 [] := ⟨by simp, .inl ⟨rfl, rfl⟩⟩
theorem own_mono {w : World} {base base' : Nat} {e : TypeId} {size : Nat} {v : Value} {n : Nat} {xs : List Value} (h : w.ownsRow base e size v n xs) (hb : base' ≤ base) : w.ownsRow base' e size v n xs := by
  refine ⟨h.1, h.2.imp id ?_⟩
  rintro ⟨g, cap, cur, hv, hg, r⟩
  exact ⟨g, cap, cur, hv, Nat.le_trans hb hg, r⟩
end
end Go.Ez
