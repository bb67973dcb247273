/-
  EZ: the laws of the forms, one operation each, over any program.
-/
import Derived.Test.YtlflpbflpcmckaaDoorEzSound
import Derived.Laws.OwnMore
import Derived.Laws.BytesArg
import Derived.Laws.Bits
import Derived.WalkLawsBesides
namespace Go.Ez
open Go Go.Proofs Go.RowKit
set_option linter.unusedSimpArgs false
set_option linter.unusedVariables false

section
variable {P : Program} {w : World} {K : Value → Prop} {KW : Value → World → Prop} {KU : World → Prop}

theorem RunA.of {m : Sem Value} {v : Value} (h : ∀ w, m.run P w = .ok v w) (k : K v) : RunA P m K := ⟨v, h, k⟩
theorem RunS.ofA {S : World → Prop} {m : Sem Value} (h : RunA P m K) : RunS P S m K := let ⟨v, h1, h2⟩ := h; ⟨v, fun w _ => h1 w, h2⟩
theorem RunW.of {m : Sem Value} {v : Value} (h : m.run P w = .ok v w) (k : K v) : RunW P m w K := ⟨v, h, k⟩
theorem RunS.of {S : World → Prop} {m : Sem Value} {v : Value} (h : ∀ w, S w → m.run P w = .ok v w) (k : K v) : RunS P S m K := ⟨v, h, k⟩
theorem RunV.of {m : Sem Value} {v : Value} {w' : World} (h : m.run P w = .ok v w') (k : KW v w') : RunV P m w KW := ⟨v, w', h, k⟩
theorem RunU.of {m : Sem Unit} {w' : World} (h : m.run P w = .ok () w') (k : KU w') : RunU P m w KU := ⟨w', h, k⟩

/-! ### tests -/
theorem ifb {b : Bool} {p q : Prop} (h : b = true → p) (h' : b = false → q) : IfB (.bool b) p q := ⟨b, rfl, h, h'⟩
theorem ifd {c : Prop} [Decidable c] {p q : Prop} (h : c → p) (h' : ¬ c → q) : IfB (.bool (decide c)) p q :=
  ⟨decide c, rfl, fun e => h (of_decide_eq_true e), fun e => h' (of_decide_eq_false e)⟩
theorem ifd_pos {c : Prop} [Decidable c] {p q : Prop} (hc : c) (h : p) : IfB (.bool (decide c)) p q := ifd (fun _ => h) (fun n => absurd hc n)
theorem ifd_neg {c : Prop} [Decidable c] {p q : Prop} (hc : ¬ c) (h : q) : IfB (.bool (decide c)) p q := ifd (fun y => absurd y hc) (fun _ => h)
theorem ift {p q : Prop} (h : p) : IfB (.bool true) p q := ⟨true, rfl, fun _ => h, by simp⟩
theorem iff' {p q : Prop} (h : q) : IfB (.bool false) p q := ⟨false, rfl, by simp, fun _ => h⟩

/-! ### loops -/
/-- I holds where the loop begins; a round hands it on, and μ goes down -/
theorem lpx {α : Type} (f : α → List Value) (I : α → World → Prop) (μ : α → Nat) {n : Nat} {body : FnN n → FnN n} {vs : List Value} (x0 : α) (hf : ∀ x, (f x).length = n) (h0 : vs = f x0) (hI : I x0 w)
    (hstep : ∀ (next : FnN n) x w, (∀ x' w', μ x' < μ x → I x' w' → appN n next (f x') w') → I x w → appN n (body next) (f x) w) : lp n body vs w :=
  ⟨fun d vs w => ∃ x, vs = f x ∧ μ x = d ∧ I x w, ⟨_, x0, h0, rfl, hI⟩, by
    rintro d vs' w' hl ⟨x, rfl, rfl, hx⟩
    refine hstep _ x w' (fun x' w' hlt hI' => ?_) hx
    rw [appN_lamN _ _ _ (hf x')]
    exact ⟨_, hlt, x', rfl, rfl, hI'⟩⟩
/-- where ways meet: k itself -/
theorem jni {n : Nat} {k : FnN n} {body : FnN n → Prop} (M : List Value → World → Prop) (hM : ∀ vs w, vs.length = n → M vs w → appN n k vs w) (h : body (lamN n M)) : jn n k body := ⟨M, hM, h⟩

/-! ### numbers -/
section nums
variable {t : TypeId} {X Y : Operand} {k k' : IntKind} {a b : Int}

theorem a_lss (h : K (.bool (decide (a < b)))) : RunA P (bin .lss t X Y (.int k a) (.int k b)) K := .of (fun w => by simp [bin, go_sem, binOp]) h
theorem a_leq (h : K (.bool (decide (a ≤ b)))) : RunA P (bin .leq t X Y (.int k a) (.int k b)) K := .of (fun w => by simp [bin, go_sem, binOp]) h
theorem a_gtr (h : K (.bool (decide (b < a)))) : RunA P (bin .gtr t X Y (.int k a) (.int k b)) K := .of (fun w => by simp [bin, go_sem, binOp]) h
theorem a_geq (h : K (.bool (decide (b ≤ a)))) : RunA P (bin .geq t X Y (.int k a) (.int k b)) K := .of (fun w => by simp [bin, go_sem, binOp]) h
theorem w_eql (h : K (.bool (decide (a = b)))) : RunW P (bin .eql t X Y (.int k a) (.int k b)) w K := .of (by simp [bin, go_sem, binOp]; rfl) h
theorem w_neq (h : K (.bool (decide (a ≠ b)))) : RunW P (bin .neq t X Y (.int k a) (.int k b)) w K := .of (by simp [bin, go_sem, binOp, bne]; rfl) h
theorem s_eql {S : World → Prop} (h : K (.bool (decide (a = b)))) : RunS P S (bin .eql t X Y (.int k a) (.int k b)) K := .of (fun w _ => by simp [bin, go_sem, binOp]; rfl) h
theorem s_neq {S : World → Prop} (h : K (.bool (decide (a ≠ b)))) : RunS P S (bin .neq t X Y (.int k a) (.int k b)) K := .of (fun w _ => by simp [bin, go_sem, binOp, bne]; rfl) h
theorem a_add (h : K (.int k (k.wrap (a + b)))) : RunA P (bin .add t X Y (.int k a) (.int k b)) K := .of (fun w => by simp [bin, go_sem, binOp]) h
theorem a_sub (h : K (.int k (k.wrap (a - b)))) : RunA P (bin .sub t X Y (.int k a) (.int k b)) K := .of (fun w => by simp [bin, go_sem, binOp]) h
theorem a_mul (h : K (.int k (k.wrap (a * b)))) : RunA P (bin .mul t X Y (.int k a) (.int k b)) K := .of (fun w => by simp [bin, go_sem, binOp]) h

theorem wrap64 (h : -9223372036854775808 ≤ a) (h' : a ≤ 9223372036854775807) : IntKind.i64.wrap a = a := by
  simp only [IntKind.wrap, IntKind.bits, IntKind.signed]
  simp
  omega

theorem a_add64 (h1 : -9223372036854775808 ≤ a + b) (h2 : a + b ≤ 9223372036854775807) (h : K (.int .i64 (a + b))) : RunA P (bin .add t X Y (.int .i64 a) (.int .i64 b)) K := a_add (by rw [wrap64 h1 h2]; exact h)
theorem a_sub64 (h1 : -9223372036854775808 ≤ a - b) (h2 : a - b ≤ 9223372036854775807) (h : K (.int .i64 (a - b))) : RunA P (bin .sub t X Y (.int .i64 a) (.int .i64 b)) K := a_sub (by rw [wrap64 h1 h2]; exact h)
theorem a_mul64 (h1 : -9223372036854775808 ≤ a * b) (h2 : a * b ≤ 9223372036854775807) (h : K (.int .i64 (a * b))) : RunA P (bin .mul t X Y (.int .i64 a) (.int .i64 b)) K := a_mul (by rw [wrap64 h1 h2]; exact h)

theorem a_quo (hb : b ≠ 0) (h : K (.int k (k.wrap (a.tdiv b)))) : RunA P (bin .quo t X Y (.int k a) (.int k b)) K := .of (fun w => by simp [bin, go_sem, binOp, hb]) h
theorem a_rem (hb : b ≠ 0) (h : K (.int k (a.tmod b))) : RunA P (bin .rem t X Y (.int k a) (.int k b)) K := .of (fun w => by simp [bin, go_sem, binOp, hb]) h
/-- a number that is not below 0, by one above it -/
theorem a_quo64 (ha : 0 ≤ a) (ha' : a ≤ 9223372036854775807) (hb : 0 < b) (h : K (.int .i64 (a / b))) : RunA P (bin .quo t X Y (.int .i64 a) (.int .i64 b)) K :=
  a_quo (by omega) (by
    have h1 := Int.ediv_nonneg ha (Int.le_of_lt hb)
    have h2 : a / b ≤ a := Int.ediv_le_self b ha
    rw [Int.tdiv_eq_ediv_of_nonneg ha, wrap64 (by omega) (by omega)]; exact h)
theorem a_rem64 (ha : 0 ≤ a) (hb : 0 < b) (h : K (.int k (a % b))) : RunA P (bin .rem t X Y (.int k a) (.int k b)) K :=
  a_rem (by omega) (by rw [Int.tmod_eq_emod_of_nonneg ha]; exact h)

theorem a_shr (hb : 0 ≤ b) (h : K (.int k (a.fdiv (2 ^ min b.toNat k.bits)))) : RunA P (bin .shr t X Y (.int k a) (.int k' b)) K :=
  .of (fun w => by simp [bin, go_sem, binOp, Op.shift, Int.not_lt.2 hb]) h
theorem a_shl (hb : 0 ≤ b) (h : K (.int k (k.wrap (a * 2 ^ min b.toNat k.bits)))) : RunA P (bin .shl t X Y (.int k a) (.int k' b)) K :=
  .of (fun w => by simp [bin, go_sem, binOp, Op.shift, Int.not_lt.2 hb]) h

theorem ofInt_nat (n : Nat) {x : Int} (h0 : 0 ≤ x) (h1 : x < 2 ^ n) : (BitVec.ofInt n x).toNat = x.toNat := by
  obtain ⟨m, rfl⟩ := Int.eq_ofNat_of_zero_le h0
  have hm : m < 2 ^ n := by exact_mod_cast h1
  simp [BitVec.toNat_ofInt]
  exact Nat.mod_eq_of_lt hm

theorem wrap_nat {m : Nat} (h : (m : Int) ≤ k.max) : k.wrap m = m := by
  cases k <;> simp [IntKind.wrap, IntKind.bits, IntKind.signed, IntKind.max] at h ⊢ <;> omega

/-- bits of two numbers that are not below 0 -/
theorem a_and (ha : 0 ≤ a) (ha' : a < 2 ^ k.bits) (hb : 0 ≤ b) (hb' : b < 2 ^ k.bits) (hm : ((a.toNat &&& b.toNat : Nat) : Int) ≤ k.max) (h : K (.int k ((a.toNat &&& b.toNat : Nat) : Int))) :
    RunA P (bin .and t X Y (.int k a) (.int k b)) K :=
  .of (v := .int k ((a.toNat &&& b.toNat : Nat) : Int)) (fun w => by
    simp only [bin, eqGuard_and, binOp, Op.intBits, Sem.run_bind, Sem.run_pure, Result.andThen, ne_eq, not_true_eq_false, if_false, BitVec.toNat_and, ofInt_nat _ ha ha', ofInt_nat _ hb hb', wrap_nat hm]) h
theorem a_or (ha : 0 ≤ a) (ha' : a < 2 ^ k.bits) (hb : 0 ≤ b) (hb' : b < 2 ^ k.bits) (hm : ((a.toNat ||| b.toNat : Nat) : Int) ≤ k.max) (h : K (.int k ((a.toNat ||| b.toNat : Nat) : Int))) :
    RunA P (bin .or t X Y (.int k a) (.int k b)) K :=
  .of (v := .int k ((a.toNat ||| b.toNat : Nat) : Int)) (fun w => by
    simp only [bin, eqGuard_or, binOp, Op.intBits, Sem.run_bind, Sem.run_pure, Result.andThen, ne_eq, not_true_eq_false, if_false, BitVec.toNat_or, ofInt_nat _ ha ha', ofInt_nat _ hb hb', wrap_nat hm]) h
theorem a_xor (ha : 0 ≤ a) (ha' : a < 2 ^ k.bits) (hb : 0 ≤ b) (hb' : b < 2 ^ k.bits) (hm : ((a.toNat ^^^ b.toNat : Nat) : Int) ≤ k.max) (h : K (.int k ((a.toNat ^^^ b.toNat : Nat) : Int))) :
    RunA P (bin .xor t X Y (.int k a) (.int k b)) K :=
  .of (v := .int k ((a.toNat ^^^ b.toNat : Nat) : Int)) (fun w => by
    simp only [bin, eqGuard_xor, binOp, Op.intBits, Sem.run_bind, Sem.run_pure, Result.andThen, ne_eq, not_true_eq_false, if_false, BitVec.toNat_xor, ofInt_nat _ ha ha', ofInt_nat _ hb hb', wrap_nat hm]) h
/-- ^x of a kind without a sign -/
theorem a_compl (hk : k.signed = false) (hmx : 0 ≤ k.max ∧ k.max < 2 ^ k.bits) (ha : 0 ≤ a) (ha' : a < 2 ^ k.bits) (hm : ((k.max.toNat ^^^ a.toNat : Nat) : Int) ≤ k.max) (h : K (.int k ((k.max.toNat ^^^ a.toNat : Nat) : Int))) :
    RunA P (Op.unary .xor (.int k a)) K :=
  .of (v := .int k ((k.max.toNat ^^^ a.toNat : Nat) : Int)) (fun w => by
    simp only [Op.unary, hk, Op.intBits, Bool.false_eq_true, if_false, Sem.run_pure, BitVec.toNat_xor, ofInt_nat _ ha ha', ofInt_nat _ hmx.1 hmx.2, wrap_nat hm]) h
theorem a_not {b : Bool} (h : K (.bool (!b))) : RunA P (Op.unary .not (.bool b)) K := .of (fun w => by simp [Op.unary]) h
theorem a_notd {c : Prop} [Decidable c] (h : K (.bool (decide (¬ c)))) : RunA P (Op.unary .not (.bool (decide c))) K := a_not (by rw [← decide_not]; exact h)
theorem a_neg (h : K (.int k (k.wrap (0 - a)))) : RunA P (Op.unary .neg (.int k a)) K := .of (fun w => by simp [Op.unary, go_sem]) h

/-- a number in another kind -/
theorem v_conv {src dst : TypeId} {d0 : TypeDesc} (hs : P.underlying src = some d0) (hd : P.underlying dst = some (.int k)) (h : KW (.int k (k.wrap a)) w) : RunV P (convert src dst (.int k' a)) w KW :=
  .of (by simp [convert, run_underlying hs, run_underlying hd, Conv.intToInt]) h
end nums

/-! ### bools, texts, tuples -/
theorem run_equalIn_bool (d : Nat) {t : TypeId} {a b : Bool} (ht : P.underlying t = some .bool) : (Op.equalIn (d + 1) t (.bool a) (.bool b)).run P w = .ok (a == b) w := by
  simp [Op.equalIn, run_underlying ht]
theorem run_equal_bool {t : TypeId} {a b : Bool} (ht : P.underlying t = some .bool) : (Op.equal t (.bool a) (.bool b)).run P w = .ok (a == b) w := run_equalIn_bool 9999 ht
theorem w_eqlb {t : TypeId} {X Y : Operand} {a b : Bool} (ht : P.underlying t = some .bool) (h : K (.bool (a == b))) : RunW P (bin .eql t X Y (.bool a) (.bool b)) w K :=
  .of (by
    show (do eqGuard .eql t X Y (.bool a) (.bool b); pure (Value.bool (← Op.equal t (.bool a) (.bool b))) : Sem Value).run P w = _
    simp only [eqGuard_at_bool, Sem.run_bind, Sem.run_pure, Result.andThen, run_equal_bool ht]) h
theorem w_neqb {t : TypeId} {X Y : Operand} {a b : Bool} (ht : P.underlying t = some .bool) (h : K (.bool (!(a == b)))) : RunW P (bin .neq t X Y (.bool a) (.bool b)) w K :=
  .of (by
    show (do eqGuard .neq t X Y (.bool a) (.bool b); pure (Value.bool (!(← Op.equal t (.bool a) (.bool b)))) : Sem Value).run P w = _
    simp only [eqGuard_at_bool, Sem.run_bind, Sem.run_pure, Result.andThen, run_equal_bool ht]) h

theorem a_ext {vs : Array Value} {i : Nat} {v : Value} (hv : vs[i]? = some v) (h : K v) : RunA P (Instr.extract (.tuple vs) i) K := .of (fun w => by simp [Instr.extract, hv]) h
theorem a_ext0 {v0 : Value} {vs : List Value} (h : K v0) : RunA P (Instr.extract (.tuple (List.toArray (v0 :: vs))) 0) K := a_ext (by simp) h
theorem a_ext1 {v0 v1 : Value} {vs : List Value} (h : K v1) : RunA P (Instr.extract (.tuple (List.toArray (v0 :: v1 :: vs))) 1) K := a_ext (by simp) h
theorem a_ext2 {v0 v1 v2 : Value} {vs : List Value} (h : K v2) : RunA P (Instr.extract (.tuple (List.toArray (v0 :: v1 :: v2 :: vs))) 2) K := a_ext (by simp) h
theorem a_nil {a : Addr} (h : K (.pointer (some a))) : RunA P (nilV (.pointer (some a))) K := .of (fun w => by simp [nilV]) h

/-- a byte of a text -/
theorem a_index {t : TypeId} {k : IntKind} {i : Int} {s : ByteArray} (ht : P.underlying t = some .string) (h0 : 0 ≤ i) (h1 : i < s.size) (h : K (.int .u8 ((s.data[i.toNat]'(by have : s.size = s.data.size := rfl; omega)).toNat : Int))) :
    RunA P (Instr.index t (.string s) (.int k i)) K :=
  .of (fun w => by
    have hlt : i.toNat < s.size := by omega
    simp only [Instr.index, asIntOf, run_underlying ht, Sem.run_bind, Sem.run_pure, Result.andThen, h0, if_true, getElem?_pos s i.toNat hlt]
    rfl) h

/-! ### slices -/
/-- v is a slice of n elements of so many cells each; they hold cs -/
def Sl (w : World) (sz : Nat) (v : Value) (n : Nat) (cs : List Value) : Prop :=
  ∃ ao cap, v = .slice ao n cap ∧ n ≤ cap ∧ cs.length = n * sz ∧ (∀ j u, cs[j]? = some u → ∃ b o, ao = some ⟨b, o, none⟩ ∧ w.cell? ⟨b, o + j, none⟩ = some u) ∧ (ao = none → cap = 0)

theorem Sl.nil (w : World) (sz : Nat) : Sl w sz (.slice none 0 0) 0 [] := ⟨none, 0, rfl, Nat.le_refl _, by simp, by simp, fun _ => rfl⟩

/-- cells that are there stay where no block that was there has turned -/
theorem Sl.below {w w' : World} {sz : Nat} {v : Value} {n : Nat} {cs : List Value} (h : Sl w sz v n cs) (hb : Below w.heap.size w w') : Sl w' sz v n cs := by
  obtain ⟨ao, cap, hv, h1, h2, h3, h4⟩ := h
  refine ⟨ao, cap, hv, h1, h2, fun j u hj => ?_, h4⟩
  obtain ⟨b, o, e1, e2⟩ := h3 j u hj
  exact ⟨b, o, e1, (hb.cell (p := ⟨b, o + j, none⟩) (World.block_lt_of_cell? _ _ e2)).trans e2⟩

theorem Sl.of_own {w : World} {base : Nat} {e : TypeId} {sz : Nat} {v : Value} {n : Nat} {cs : List Value} (h : w.ownsRow base e sz v n cs) : Sl w sz v n cs := by
  rcases h.2 with ⟨rfl, rfl⟩ | ⟨g, cap, cur, rfl, hb, hg, hnc, hcm, hcs, htake⟩
  · have : cs = [] := List.eq_nil_of_length_eq_zero (by simpa using h.1)
    subst this
    exact Sl.nil w sz
  · refine ⟨_, cap, rfl, hnc, h.1, fun j u hj => ⟨g, 0, rfl, ?_⟩, by simp⟩
    have := h.cells (g := g) rfl j u hj
    have hadd : (⟨g, 0, none⟩ : Addr).add j = ⟨g, 0 + j, none⟩ := by unfold Addr.add; split <;> simp_all
    rw [hadd] at this
    exact this

theorem w_len {t e ty : TypeId} {ao : Option Addr} {n c : Nat} (ht : P.underlying t = some (.slice e)) (h : K (.int .i64 n)) : RunW P (Builtin.len_ #[t] ty #[.slice ao n c]) w K :=
  .of (by simp [Builtin.len_, run_underlying ht, goInt]) h
theorem s_len {S : World → Prop} {t e ty : TypeId} {ao : Option Addr} {n c : Nat} (ht : P.underlying t = some (.slice e)) (h : K (.int .i64 n)) : RunS P S (Builtin.len_ #[t] ty #[.slice ao n c]) K :=
  .of (fun w _ => by simp [Builtin.len_, run_underlying ht, goInt]) h
theorem w_lens {t ty : TypeId} {s : ByteArray} (ht : P.underlying t = some .string) (h : K (.int .i64 s.size)) : RunW P (Builtin.len_ #[t] ty #[.string s]) w K :=
  .of (by simp [Builtin.len_, run_underlying ht, goInt]) h
theorem s_lens {S : World → Prop} {t ty : TypeId} {s : ByteArray} (ht : P.underlying t = some .string) (h : K (.int .i64 s.size)) : RunS P S (Builtin.len_ #[t] ty #[.string s]) K :=
  .of (fun w _ => by simp [Builtin.len_, run_underlying ht, goInt]) h
/-- the length, off what is known of the slice -/
theorem w_lenS {t e ty : TypeId} {v : Value} {sz n : Nat} {cs : List Value} {w0 : World} (ht : P.underlying t = some (.slice e)) (hs : Sl w0 sz v n cs) (h : K (.int .i64 n)) : RunW P (Builtin.len_ #[t] ty #[v]) w K := by
  obtain ⟨ao, cap, rfl, _⟩ := hs
  exact w_len ht h
theorem s_lenS {S : World → Prop} {t e ty : TypeId} {v : Value} {sz n : Nat} {cs : List Value} {w0 : World} (ht : P.underlying t = some (.slice e)) (hs : Sl w0 sz v n cs) (h : K (.int .i64 n)) : RunS P S (Builtin.len_ #[t] ty #[v]) K := by
  obtain ⟨ao, cap, rfl, _⟩ := hs
  exact s_len ht h

theorem addr_add (b o n : Nat) : (⟨b, o, none⟩ : Addr).add n = ⟨b, o + n, none⟩ := by unfold Addr.add; split <;> simp_all

/-- an element's address -/
theorem a_indexAt {t e : TypeId} {k : IntKind} {b o n c sz : Nat} {i : Int} (ht : P.underlying t = some (.slice e)) (hz : ∀ w, (sizeOf e).run P w = .ok sz w) (h0 : 0 ≤ i) (h1 : i < n)
    (h : K (.pointer (some ⟨b, o + i.toNat * sz, none⟩))) : RunA P (Instr.indexAt t (.slice (some ⟨b, o, none⟩) n c) (.int k i)) K :=
  .of (fun w => by
    simp [Instr.indexAt, asIntOf, run_underlying ht, h0, h1, hz]
    rw [addr_add]) h

/-- an element's address, off what is known of the slice: and the cells behind it -/
theorem a_indexS {t e : TypeId} {k : IntKind} {v : Value} {n sz : Nat} {cs : List Value} {i : Int} {w0 : World} (ht : P.underlying t = some (.slice e)) (hz : ∀ w, (sizeOf e).run P w = .ok sz w) (hsz : 0 < sz) (hs : Sl w0 sz v n cs) (h0 : 0 ≤ i) (h1 : i < n)
    (h : ∀ b o, (∀ j u, j < sz → cs[i.toNat * sz + j]? = some u → w0.cell? ⟨b, o + j, none⟩ = some u) → K (.pointer (some ⟨b, o, none⟩))) : RunA P (Instr.indexAt t v (.int k i)) K := by
  obtain ⟨ao, cap, rfl, hnc, hl, hc, _⟩ := hs
  have hlt : i.toNat * sz < cs.length := by
    rw [hl]
    have : i.toNat + 1 ≤ n := by omega
    calc i.toNat * sz < i.toNat * sz + sz := by omega
      _ = (i.toNat + 1) * sz := by rw [Nat.add_mul, Nat.one_mul]
      _ ≤ n * sz := Nat.mul_le_mul_right _ this
  obtain ⟨b, o, rfl, _⟩ := hc _ _ (List.getElem?_eq_getElem hlt)
  refine a_indexAt ht hz h0 h1 (h _ _ fun j u hj hu => ?_)
  obtain ⟨b', o', e1, e2⟩ := hc _ _ hu
  cases e1
  rw [Nat.add_assoc]
  exact e2

/-! ### memory -/
theorem w_load {t : TypeId} {a : Addr} {v : Value} (hagg : ∀ w, (isAgg t).run P w = .ok false w) (hc : w.cell? a = some v) (h : K v) : RunW P (Instr.loadAt t (.pointer (some a))) w K :=
  .of (by simp [Instr.loadAt, Instr.sureAddr, loadVar, hagg, hc]) h
theorem s_load {S : World → Prop} {t : TypeId} {a : Addr} {v : Value} (hagg : ∀ w, (isAgg t).run P w = .ok false w) (hc : ∀ w, S w → w.cell? a = some v) (h : K v) : RunS P S (Instr.loadAt t (.pointer (some a))) K :=
  .of (fun w hw => by simp [Instr.loadAt, Instr.sureAddr, loadVar, hagg, hc w hw]) h

theorem u_store {t : TypeId} {a : Addr} {u v : Value} (hagg : ∀ w, (isAgg t).run P w = .ok false w) (hz : ∀ w, (sizeOf t).run P w = .ok 1 w) (h1 : v.oneCell' = true) (hc : w.cell? a = some u) (hf : w.frozen? a = false) (h : KU (w.setCell a v)) :
    RunU P (Instr.storeAt t (.pointer (some a)) v) w KU :=
  .of (by
    have hcells : v.cells = #[v] := by cases v <;> first | rfl | (simp [Value.oneCell'] at h1)
    simp only [Instr.storeAt, Instr.sureAddr, storeVar, Sem.run_bind, Sem.run_pure, Result.andThen, hz, hcells, List.size_toArray, List.length_cons, List.length_nil, Nat.zero_add, ne_eq, not_true_eq_false, if_false, storeCells, Addr.add_zero', run_store P w a v .plain h1, hc, hf, Bool.false_eq_true]) h

theorem v_alloc {e : TypeId} {z : Value} (hz : ∀ w, (zeroValue e).run P w = .ok z w) (h : KW (.pointer (some ⟨w.heap.size, 0, none⟩)) (w.alloc (.cells z.cells e))) : RunV P (Instr.alloc e true (.tuple #[])) w KW :=
  .of (by simp [Instr.alloc, hz, newVar, newRow, Sem.run_bind, Sem.run_pure, Result.andThen, run_newObj_alloc]) h

theorem v_box {e : TypeId} {v : Value} (h : KW (.pointer (some ⟨w.heap.size, 0, none⟩)) (w.alloc (.cells v.cells e))) : RunV P (Instr.box e v) w KW :=
  .of (by simp [Instr.box, newVar, newRow, Sem.run_bind, Sem.run_pure, Result.andThen, run_newObj_alloc]) h

theorem v_func {fn : Fn} {first captured : Array Value} (h : KW (.func fn first captured) w) : RunV P (Instr.makeFunc fn first captured) w KW := .of (by simp [Instr.makeFunc]) h

/-- what is asked of a slice's type: its element's type, cells and bytes -/
structure ElT (P : Program) (t e : TypeId) (sz bytes : Nat) (z : Value) : Prop where
  und : P.underlying t = some (.slice e)
  info : (P.info? e).map (fun i => (i.zero, i.size, i.bytes)) = some (some z, sz, bytes)
  cells : z.cells.size = sz
  pos : 0 < sz

theorem ElT.size {t e : TypeId} {sz bytes : Nat} {z : Value} (h : ElT P t e sz bytes z) (w : World) : (sizeOf e).run P w = .ok sz w := by
  obtain ⟨i, h1, h2, h3, h4⟩ := info_parts h.info
  simp [sizeOf, typeInfo, h1, h3]
theorem ElT.zero {t e : TypeId} {sz bytes : Nat} {z : Value} (h : ElT P t e sz bytes z) (w : World) : (zeroValue e).run P w = .ok z w := by
  obtain ⟨i, h1, h2, h3, h4⟩ := info_parts h.info
  simp [zeroValue, typeInfo, h1, h2]

/-- 'append(v, u...)': v the call's own, u whatever -/
theorem v_app {base : Nat} {t e ty : TypeId} {sz bytes : Nat} {z : Value} (hT : ElT P t e sz bytes z) {v : Value} {n : Nat} {xs : List Value} (hown : w.ownsRow base e sz v n xs)
    {u : Value} {m : Nat} {news : List Value} (hu : Sl w sz u m news) (h1 : ∀ c ∈ news, c.oneCell' = true) (hm : n + m ≤ maxLen) (hb : (n + m) * bytes ≤ 140737488355328) (hbase : base ≤ w.heap.size)
    (h : ∀ v' w', w'.ownsRow base e sz v' (n + m) (xs ++ news) → w.grownBy w' v.ownBlock → (v' = .slice none 0 0 ↔ v = .slice none 0 0 ∧ m = 0) → KW v' w') : RunV P (Builtin.append_ #[t, t] ty #[v, u]) w KW := by
  obtain ⟨i, hi, hz, hs, hby⟩ := info_parts hT.info
  obtain ⟨ao, cap, rfl, hmc, hl, hc, hnil⟩ := hu
  cases ao with
  | none =>
    obtain rfl : cap = 0 := hnil rfl
    obtain rfl : m = 0 := by omega
    have : news = [] := List.eq_nil_of_length_eq_zero (by simpa using hl)
    subst this
    exact .of (run_append_owned_none (P := P) w base t ty e i sz hT.und hi v n xs hown) (h _ _ (by simpa using hown) ⟨rfl, rfl, rfl, Nat.le_refl _, fun _ _ _ => rfl⟩ (by simp))
  | some a =>
    obtain ⟨v', w', hr, h2, h3, h4⟩ := run_append_own (P := P) w base t ty e i z sz bytes hT.und hi hz hs hby hT.cells hT.pos v n xs hown a m cap news hl
      (fun j x hj => by obtain ⟨b', o', e1, e2⟩ := hc j x hj; cases e1; rw [addr_add]; exact e2) h1 hm hb hbase
    exact .of hr (h v' w' h2 h3 h4)

/-- a slice of cells written out -/
theorem v_lit0 {t e : TypeId} {sz bytes : Nat} {z : Value} (hT : ElT P t e sz bytes z) (h : KW (.slice (some ⟨w.heap.size, 0, none⟩) 0 0) (w.alloc (.cells #[] e))) : RunV P (Instr.buildSlice t 0 #[]) w KW :=
  .of (by simp [Instr.buildSlice, run_underlying hT.und, hT.size, Instr.fill, newRow, Sem.run_bind, Sem.run_pure, Result.andThen, run_newObj_alloc, Array.range_zero']) h
theorem v_lit1 {t e : TypeId} {bytes : Nat} {z x : Value} (hT : ElT P t e 1 bytes z) (hx : x.oneCell' = true) (h : KW (.slice (some ⟨w.heap.size, 0, none⟩) 1 1) (w.alloc (.cells #[x] e))) : RunV P (Instr.buildSlice t 1 #[(0, x)]) w KW := by
  have hc : x.cells = #[x] := by cases x <;> first | rfl | (simp [Value.oneCell'] at hx)
  exact .of (by simp [Instr.buildSlice, run_underlying hT.und, hT.size, hT.zero, Instr.fill, newRow, Sem.run_bind, Sem.run_pure, Result.andThen, run_newObj_alloc, hc, Array.range_succ, Array.range_zero']) h
theorem v_lit2 {t e : TypeId} {bytes : Nat} {z x y : Value} (hT : ElT P t e 1 bytes z) (hx : x.oneCell' = true) (hy : y.oneCell' = true) (h : KW (.slice (some ⟨w.heap.size, 0, none⟩) 2 2) (w.alloc (.cells #[x, y] e))) : RunV P (Instr.buildSlice t 2 #[(0, x), (1, y)]) w KW := by
  have hc : x.cells = #[x] := by cases x <;> first | rfl | (simp [Value.oneCell'] at hx)
  have hc2 : y.cells = #[y] := by cases y <;> first | rfl | (simp [Value.oneCell'] at hy)
  exact .of (by simp [Instr.buildSlice, run_underlying hT.und, hT.size, hT.zero, Instr.fill, newRow, Sem.run_bind, Sem.run_pure, Result.andThen, run_newObj_alloc, hc, hc2, Array.range_succ, Array.range_zero']) h

theorem v_lit6 {t e : TypeId} {bytes : Nat} {z x0 x1 x2 x3 x4 x5 : Value} (hT : ElT P t e 1 bytes z) (h0 : x0.oneCell' = true) (h1 : x1.oneCell' = true) (h2 : x2.oneCell' = true) (h3 : x3.oneCell' = true) (h4 : x4.oneCell' = true) (h5 : x5.oneCell' = true)
    (h : KW (.slice (some ⟨w.heap.size, 0, none⟩) 6 6) (w.alloc (.cells #[x0, x1, x2, x3, x4, x5] e))) : RunV P (Instr.buildSlice t 6 #[(0, x0), (1, x1), (2, x2), (3, x3), (4, x4), (5, x5)]) w KW := by
  have one : ∀ {x : Value}, x.oneCell' = true → x.cells = #[x] := by intro x hx; cases x <;> first | rfl | (simp [Value.oneCell'] at hx)
  exact .of (by simp [Instr.buildSlice, run_underlying hT.und, hT.size, hT.zero, Instr.fill, newRow, Sem.run_bind, Sem.run_pure, Result.andThen, run_newObj_alloc, one h0, one h1, one h2, one h3, one h4, one h5, Array.range_succ, Array.range_zero']) h

theorem own_lit {base e : Nat} {cs : List Value} {n : Nat} (hb : base ≤ w.heap.size) (hn : cs.length = n) (hm : n ≤ maxLen) : (w.alloc (.cells cs.toArray e)).ownsRow base e 1 (.slice (some ⟨w.heap.size, 0, none⟩) n n) n cs := by
  have := World.ownsRow_lit (base := base) (e := e) (size := 1) w cs.toArray n hb hm (by simp [hn])
  simpa using this

theorem grownBy_trans {w w1 w2 : World} {r : Option Nat} (h : w.grownBy w1 r) (k : w1.grownBy w2 r) : w.grownBy w2 r :=
  ⟨k.os.trans h.os, k.tape.trans h.tape, k.output.trans h.output, Nat.le_trans h.size k.size, fun i hi hr => (k.block i (Nat.lt_of_lt_of_le hi h.size) hr).trans (h.block i hi hr)⟩

/-- 'append(v, x)' -/
theorem v_push {base : Nat} {t e ty : TypeId} {bytes : Nat} {z : Value} (hT : ElT P t e 1 bytes z) {v : Value} {n : Nat} {xs : List Value} (hown : w.ownsRow base e 1 v n xs)
    {x : Value} (hx : x.oneCell' = true) (hm : n + 1 ≤ maxLen) (hb : (n + 1) * bytes ≤ 140737488355328) (hbase : base ≤ w.heap.size)
    (h : ∀ v' w', w'.ownsRow base e 1 v' (n + 1) (xs ++ [x]) → w.grownBy w' v.ownBlock → v' ≠ .slice none 0 0 → KW v' w') :
    RunV P (Instr.buildSlice t 1 #[(0, x)]) w fun u w1 => RunV P (Builtin.append_ #[t, t] ty #[v, u]) w1 KW := by
  refine v_lit1 hT hx ?_
  refine v_app hT (hown.alloc _) (m := 1) (news := [x]) (Sl.of_own (own_lit (base := 0) (Nat.zero_le _) rfl (by unfold maxLen; omega))) (by simpa using hx) hm hb (by simp; omega) ?_
  intro v' w' h1 h2 h3
  exact h v' w' h1 (grownBy_trans (World.grownBy_alloc w _ _) h2) (fun hn => absurd (h3.1 hn).2 (by decide))

/-! ### bytes -/
def byteV (b : UInt8) : Value := .int .u8 (b.toNat : Int)
def bytesV (l : List UInt8) : List Value := l.map byteV

theorem bytesV_one (l : List UInt8) : ∀ c ∈ bytesV l, c.oneCell' = true := by intro c hc; simp [bytesV] at hc; obtain ⟨b, _, rfl⟩ := hc; rfl
theorem bytesV_append (l m : List UInt8) : bytesV (l ++ m) = bytesV l ++ bytesV m := by simp [bytesV]
theorem bytesV_length (l : List UInt8) : (bytesV l).length = l.length := by simp [bytesV]
theorem bytesV_inj {l m : List UInt8} (h : bytesV l = bytesV m) : l = m := by
  induction l generalizing m with
  | nil => cases m with | nil => rfl | cons _ _ => simp [bytesV] at h
  | cons a l ih =>
    cases m with
    | nil => simp [bytesV] at h
    | cons b m =>
      simp only [bytesV, List.map_cons, List.cons.injEq, byteV, Value.int.injEq, true_and] at h
      have h1 : a = b := UInt8.toNat_inj.1 (by exact_mod_cast h.1)
      rw [h1, ih h.2]

/-- a []byte that holds l -/
abbrev By (w : World) (v : Value) (l : List UInt8) : Prop := Sl w 1 v l.length (bytesV l)

/-- string(v) -/
theorem v_str {src dst e : TypeId} {v : Value} {l : List UInt8} (hs : P.underlying src = some (.slice e)) (he : P.underlying e = some (.int .u8)) (hd : P.underlying dst = some .string) (hv : By w v l)
    (h : KW (.string ⟨l.toArray⟩) w) : RunV P (convert src dst v) w KW := by
  obtain ⟨ao, cap, rfl, hmc, hl, hc, hnil⟩ := hv
  by_cases hl0 : l = []
  · subst hl0
    refine .of ?_ h
    rw [run_convert_bytes_string w src dst e ao _ cap hs he hd]
    cases ao <;> simp [Conv.bytesToString, loadCells, loadCellsFrom, Sem.run_bind, Result.andThen] <;> rfl
  · have hpos : 0 < l.length := List.length_pos_iff.2 hl0
    obtain ⟨b, o, rfl, _⟩ := hc 0 (byteV l[0]) (by simp [bytesV, hpos])
    have := run_convert_bytes_arg (P := P) w src e hs he b o l.length cap (l.map fun x => (x.toNat : Int)) (by simp) (fun i hi => by
      obtain ⟨b', o', e1, e2⟩ := hc i (byteV l[i]) (by simp [bytesV, hi])
      cases e1
      rw [e2]
      simp [byteV, List.getD, hi]) dst hd
    refine .of this ?_
    have e : strOfNums (l.map fun x => (x.toNat : Int)) = ⟨l.toArray⟩ := by
      unfold strOfNums
      congr 1
      congr 1
      rw [List.map_map]
      conv => rhs; rw [← List.map_id l]
      refine List.map_congr_left fun x _ => ?_
      simp
    rw [e]; exact h

theorem bytes_eq {a b : List UInt8} : ((⟨a.toArray⟩ : ByteArray).toList == (⟨b.toArray⟩ : ByteArray).toList) = decide (a = b) := by
  simp only [ByteArray.toList_mk]
  rw [Bool.eq_iff_iff]; simp

theorem str_inj {a b : ByteArray} : a.toList = b.toList ↔ a = b := by
  rw [ByteArray.toList_eq, ByteArray.toList_eq]
  refine ⟨fun h => ?_, fun h => by rw [h]⟩
  cases a; cases b
  simp only [ByteArray.mk.injEq]
  exact Array.toList_inj.1 h

theorem w_eqls {t : TypeId} {X Y : Operand} {a b : ByteArray} (h : K (.bool (decide (a = b)))) : RunW P (bin .eql t X Y (.string a) (.string b)) w K :=
  .of (v := .bool (decide (a = b))) (by
    simp only [bin, eqGuard_at_string, binOp_string_eql, Sem.run_bind, Sem.run_pure, Result.andThen]
    congr 2
    rw [Bool.eq_iff_iff]; simp [str_inj]) h
theorem w_neqs {t : TypeId} {X Y : Operand} {a b : ByteArray} (h : K (.bool (decide (a ≠ b)))) : RunW P (bin .neq t X Y (.string a) (.string b)) w K :=
  .of (v := .bool (decide (a ≠ b))) (by
    simp only [bin, eqGuard_at_string, binOp_string_neq, Sem.run_bind, Sem.run_pure, Result.andThen]
    congr 2
    rw [Bool.eq_iff_iff]; simp [str_inj]) h

/-! ### a part of a slice -/
theorem Sl.sliced {ao : Option Addr} {n cap sz : Nat} {cs : List Value} {w0 : World} {lo hi : Nat} (hs : Sl w0 sz (.slice ao n cap) n cs) (h1 : lo ≤ hi) (h2 : hi ≤ n) :
    Sl w0 sz (Go.sliced ao lo hi cap sz) (hi - lo) ((cs.drop (lo * sz)).take ((hi - lo) * sz)) := by
  obtain ⟨ao', cap', hv, hnc, hl, hc, hnil⟩ := hs
  cases hv
  refine ⟨_, _, rfl, by omega, ?_, ?_, ?_⟩
  · rw [List.length_take, List.length_drop, hl, ← Nat.sub_mul]
    exact Nat.min_eq_left (Nat.mul_le_mul_right _ (by omega))
  · intro j u hj
    rw [List.getElem?_take] at hj
    split at hj
    · rename_i hlt
      rw [List.getElem?_drop] at hj
      obtain ⟨b, o, e1, e2⟩ := hc _ _ hj
      subst e1
      have hpos : 0 < (hi - lo) := Nat.pos_of_ne_zero fun h0 => by rw [h0] at hlt; simp at hlt
      rw [if_neg (by omega)]
      refine ⟨b, o + lo * sz, ?_, ?_⟩
      · simp only [Option.map_some]; rw [addr_add]
      · rw [Nat.add_assoc]; exact e2
    · cases hj
  · intro hn
    split at hn
    · have := hnil hn; omega
    · cases ao with
      | none => have := hnil rfl; omega
      | some a => simp at hn
theorem a_slice {t e : TypeId} {sz bytes : Nat} {z : Value} (hT : ElT P t e sz bytes z) {v : Value} {n : Nat} {cs : List Value} {w0 : World} (hs : Sl w0 sz v n cs) {k k' : IntKind} {lo hi : Int} (h0 : 0 ≤ lo) (h1 : lo ≤ hi) (h2 : hi ≤ n)
    (h : ∀ v', Sl w0 sz v' (hi.toNat - lo.toNat) ((cs.drop (lo.toNat * sz)).take ((hi.toNat - lo.toNat) * sz)) → K v') : RunA P (Instr.sliceAt t v (some (.int k lo)) (some (.int k' hi)) none) K := by
  have hs' := hs
  obtain ⟨ao, cap, rfl, hnc, _⟩ := hs
  have ht : P.underlying t = some (.slice (P.elem t)) := by rw [hT.und]; simp [Program.elem, hT.und]
  have hel : P.elem t = e := by simp [Program.elem, hT.und]
  refine .of (v := Go.sliced ao lo.toNat hi.toNat cap sz) (fun w => ?_) (h _ (hs'.sliced (by omega) (by omega)))
  rw [run_sliceAt_slice w t _ _ _ _ ht, run_slice_lh w t ao n cap ht k k' lo hi h0 h1 (by omega), hel, hT.size]
  rfl
/-- the first of a slice -/
theorem a_sliceH {t e : TypeId} {sz bytes : Nat} {z : Value} (hT : ElT P t e sz bytes z) {v : Value} {n : Nat} {cs : List Value} {w0 : World} (hs : Sl w0 sz v n cs) {k : IntKind} {hi : Int} (h0 : 0 ≤ hi) (h2 : hi ≤ n)
    (h : ∀ v', Sl w0 sz v' hi.toNat (cs.take (hi.toNat * sz)) → K v') : RunA P (Instr.sliceAt t v none (some (.int k hi)) none) K := by
  have hs' := hs
  obtain ⟨ao, cap, rfl, hnc, _⟩ := hs
  have ht : P.underlying t = some (.slice (P.elem t)) := by rw [hT.und]; simp [Program.elem, hT.und]
  have hel : P.elem t = e := by simp [Program.elem, hT.und]
  have h3 := hs'.sliced (lo := 0) (hi := hi.toNat) (by omega) (by omega)
  rw [Nat.zero_mul, List.drop_zero, Nat.sub_zero] at h3
  refine .of (v := Go.sliced ao 0 hi.toNat cap sz) (fun w => ?_) (h _ h3)
  rw [run_sliceAt_slice w t _ _ _ _ ht, run_slice_h w t ao n cap ht k hi h0 (by omega), hel, hT.size]
  rfl
/-- a slice from a place on -/
theorem a_sliceL {t e : TypeId} {sz bytes : Nat} {z : Value} (hT : ElT P t e sz bytes z) {v : Value} {n : Nat} {cs : List Value} {w0 : World} (hs : Sl w0 sz v n cs) {k : IntKind} {lo : Int} (h0 : 0 ≤ lo) (h2 : lo ≤ n)
    (h : ∀ v', Sl w0 sz v' (n - lo.toNat) (cs.drop (lo.toNat * sz)) → K v') : RunA P (Instr.sliceAt t v (some (.int k lo)) none none) K := by
  have hs' := hs
  obtain ⟨ao, cap, rfl, hnc, hl, _⟩ := hs
  have ht : P.underlying t = some (.slice (P.elem t)) := by rw [hT.und]; simp [Program.elem, hT.und]
  have hel : P.elem t = e := by simp [Program.elem, hT.und]
  have h3 := hs'.sliced (lo := lo.toNat) (hi := n) (by omega) (by omega)
  rw [List.take_of_length_le (by rw [List.length_drop, hl, Nat.sub_mul]; omega)] at h3
  refine .of (v := Go.sliced ao lo.toNat n cap sz) (fun w => ?_) (h _ h3)
  rw [run_sliceAt_slice w t _ _ _ _ ht, run_slice_l w t ao n cap ht k lo h0 h2, hel, hT.size]
  rfl

theorem w_max {ts : Array TypeId} {t : TypeId} {k k' : IntKind} {a b : Int} (h : K (.int k (max a b))) : RunW P (Builtin.max_ ts t #[.int k a, .int k' b]) w K :=
  .of (run_max_int2 (P := P) w ts t k k' a b) (by
    have : (if b > a then b else a) = max a b := by omega
    rw [this]; exact h)
theorem w_min {ts : Array TypeId} {t : TypeId} {k k' : IntKind} {a b : Int} (h : K (.int k (min a b))) : RunW P (Builtin.min_ ts t #[.int k a, .int k' b]) w K :=
  .of (run_min_int2 (P := P) w ts t k k' a b) (by
    have : (if b < a then b else a) = min a b := by omega
    rw [this]; exact h)
end
end Go.Ez
