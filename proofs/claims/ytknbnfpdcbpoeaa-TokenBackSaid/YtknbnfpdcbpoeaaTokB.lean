/-
  TOKENS: may it be one, a token's text: what each function answers.
-/
import Derived.Test.YtknbnfpdcbpoeaaTokA
namespace Go.Proofs.Ytknbnfpdcbpoeaa
open Go Go.Ez Go.RowKit Go.Lib
set_option linter.unusedSimpArgs false
set_option linter.unusedVariables false

abbrev strV (l : List UInt8) : Value := .string ⟨l.toArray⟩
/-- the cells of a token -/
abbrev tkC (u : List UInt8) (f t : Int) (k : List UInt8) : List Value := [strV u, .int .i64 f, .int .i64 t, strV k]
abbrev tkV (u : List UInt8) (f t : Int) (k : List UInt8) : Value := .agg (tkC u f t k).toArray

/-- keys.Name -/
theorem name_spec {l : List UInt8} {w : World} {R : Value → World → Prop} (hl : l.length ≤ 9223372036854775807) (h : R (.bool (decide (nameOk l))) w) : CallF Try.prog 39 #[strV l] w R := by
  refine sh39_calls ?_
  unfold sh39
  refine w_lenL Try.underlying9 ?_
  refine lpx (α := Nat) (fun i => [nV .i64 i]) (fun i W => W = w ∧ i ≤ l.length ∧ ∀ c ∈ l.take i, okc c) (fun i => l.length - i) 0 (fun _ => rfl) rfl ⟨rfl, Nat.zero_le _, by simp⟩ ?_
  rintro next i W hnext ⟨rfl, h1, h2⟩
  refine app1 ?_
  refine a_lss (ifd (fun hc => ?_) fun hc => ?_)
  · have hil : i < l.length := by omega
    have hli := List.getElem?_eq_getElem hil
    generalize l[i] = c at hli
    refine a_indexL Try.underlying9 hli ?_
    refine jni (fun vs W' => vs = [strV l, nV .i64 l.length, nV .i64 i] ∧ W' = W ∧ okc c) ?_ ?_
    · rintro vs W' _ ⟨rfl, rfl, hok⟩
      refine app3 ?_
      refine a_add64 (by omega) (by omega) ⟨rfl, rfl, ?_⟩
      have e3 : ((i : Int) + 1) = ((i + 1 : Nat) : Int) := by push_cast; rfl
      rw [e3]
      refine hnext (i + 1) W' (by omega) ⟨rfl, by omega, ?_⟩
      intro d hd
      rw [take_snoc hli, List.mem_append, List.mem_singleton] at hd
      rcases hd with hd | rfl
      · exact h2 d hd
      · exact hok
    · have bad : ¬ okc c → R (.bool false) W := fun hn => r_false (fun hx => hn (hx.1 c (List.mem_of_getElem? hli))) h
      have dash : ∀ (hn : ¬ (97 ≤ c.toNat ∧ c.toNat ≤ 122)) (hn2 : ¬ (48 ≤ c.toNat ∧ c.toNat ≤ 57)) (J : Prop), (okc c → J) → RunW Try.prog (bin .eql 5 (.tmp 28) (.const (.int .u8 45)) (byteV c) (.int .u8 45)) W fun t => RunA Try.prog (Op.unary .not t) fun t => IfB t (R (.bool false) W) J := by
        intro hn hn2 J hJ
        refine w_eql ?_
        refine a_not (ifnd (fun hx => bad ?_) fun hx => hJ (.inr (.inr (by omega))))
        rintro (hy | hy | hy)
        · exact hn hy
        · exact hn2 hy
        · exact hx (by rw [hy]; rfl)
      have yes : ∀ (J : Prop), J → RunA Try.prog (Op.unary .not (.bool true)) fun t => IfB t (R (.bool false) W) J := fun J hJ => a_not (iff' hJ)
      have digit : ∀ (hn : ¬ (97 ≤ c.toNat ∧ c.toNat ≤ 122)) (J : Prop), (okc c → J) → RunA Try.prog (bin .geq 5 (.tmp 20) (.const (.int .u8 48)) (byteV c) (.int .u8 48)) fun t => IfB t
          (RunA Try.prog (bin .leq 5 (.tmp 23) (.const (.int .u8 57)) (byteV c) (.int .u8 57)) fun t => IfB t (RunA Try.prog (Op.unary .not (.bool true)) fun t => IfB t (R (.bool false) W) J)
            (RunW Try.prog (bin .eql 5 (.tmp 28) (.const (.int .u8 45)) (byteV c) (.int .u8 45)) W fun t => RunA Try.prog (Op.unary .not t) fun t => IfB t (R (.bool false) W) J))
          (RunW Try.prog (bin .eql 5 (.tmp 28) (.const (.int .u8 45)) (byteV c) (.int .u8 45)) W fun t => RunA Try.prog (Op.unary .not t) fun t => IfB t (R (.bool false) W) J) := by
        intro hn J hJ
        refine a_geq (ifd (fun h3 => ?_) fun h3 => dash hn (by omega) J hJ)
        refine a_leq (ifd (fun h4 => yes J (hJ (.inr (.inl (by omega))))) fun h4 => dash hn (by omega) J hJ)
      refine a_geq (ifd (fun h3 => ?_) fun h3 => digit (by omega) _ fun hok => ⟨rfl, rfl, hok⟩)
      refine a_leq (ifd (fun h4 => yes _ ⟨rfl, rfl, .inl (by omega)⟩) fun h4 => digit (by omega) _ fun hok => ⟨rfl, rfl, hok⟩)
  · have : i = l.length := by omega
    subst this
    rw [List.take_length] at h2
    refine w_neqL (b := []) (ifd (fun hne => ?_) fun hne => r_false (fun hx => hne hx.2.1) h)
    refine w_lenL Try.underlying9 ?_
    refine a_leq (r_dec ?_ h)
    exact ⟨fun hx => ⟨h2, hne, by omega⟩, fun hx => by have := hx.2.2; omega⟩

/-- token.May -/
theorem may_spec {u k : List UInt8} {f t : Int} {w : World} {R : Value → World → Prop} (hu : u.length ≤ 9223372036854775807) (hk : k.length ≤ 9223372036854775807) (h : ∀ w', Below w.heap.size w w' → R (.bool (decide (mayT u f t k))) w') : CallF Try.prog 21 #[tkV u f t k] w R := by
  refine sh21_calls ?_
  unfold sh21
  refine v_boxRec fun w1 z1 r1 m1 => ?_
  have h := h w1 m1
  have F0 : ∀ {K : Value → Prop}, K (strV u) → RunA Try.prog (Instr.fieldAt 42 (.pointer (some ⟨w.heap.size, 0, none⟩)) 0) fun p => RunW Try.prog (Instr.loadAt 9 p) w1 K := fun hK => a_field Try.underlying42 rfl Try.sizeOf9 (by decide) (w_recF Try.isAgg9 r1 rfl hK)
  have F1 : ∀ {K : Value → Prop}, K (.int .i64 f) → RunA Try.prog (Instr.fieldAt 42 (.pointer (some ⟨w.heap.size, 0, none⟩)) 1) fun p => RunW Try.prog (Instr.loadAt 3 p) w1 K := fun hK => a_field Try.underlying42 rfl Try.sizeOf3 (by decide) (w_recF Try.isAgg3 r1 rfl hK)
  have F2 : ∀ {K : Value → Prop}, K (.int .i64 t) → RunA Try.prog (Instr.fieldAt 42 (.pointer (some ⟨w.heap.size, 0, none⟩)) 2) fun p => RunW Try.prog (Instr.loadAt 3 p) w1 K := fun hK => a_field Try.underlying42 rfl Try.sizeOf3 (by decide) (w_recF Try.isAgg3 r1 rfl hK)
  have F3 : ∀ {K : Value → Prop}, K (strV k) → RunA Try.prog (Instr.fieldAt 42 (.pointer (some ⟨w.heap.size, 0, none⟩)) 3) fun p => RunW Try.prog (Instr.loadAt 9 p) w1 K := fun hK => a_field Try.underlying42 rfl Try.sizeOf9 (by decide) (w_recF Try.isAgg9 r1 rfl hK)
  refine F0 ?_
  refine name_spec hu ?_
  refine a_not (ifnd (fun hc => r_false (fun hx => hc hx.1) h) fun hname => ?_)
  refine F1 (a_lss (ifd (fun hc => r_false (fun hx => by have := hx.2.1; omega) h) fun hc1 => ?_))
  refine F1 (a_gtr (ifd (fun hc => r_false (fun hx => by have := hx.2.2.1; omega) h) fun hc2 => ?_))
  refine F2 (w_eql (ifd (fun hc => ?_) fun hc3 => ?_))
  · refine F3 (w_eqlL (b := []) (r_dec ?_ h))
    unfold mayT
    rw [if_pos hc]
    exact ⟨fun hx => ⟨hname, by omega, by omega, hx⟩, fun hx => hx.2.2.2⟩
  · have hm : mayT u f t k ↔ max f 1 ≤ t ∧ t ≤ 1099511627776 ∧ k ≠ [] ∧ k.length ≤ 100 := by
      unfold mayT
      rw [if_neg hc3]
      exact ⟨fun hx => hx.2.2.2, fun hx => ⟨hname, by omega, by omega, hx⟩⟩
    replace h := r_dec (R := R) (w := w1) hm.symm h
    refine F2 (F1 (w_max ?_))
    refine a_geq (ifd (fun hc4 => ?_) fun hc4 => r_false (fun hx => by have := hx.1; omega) h)
    refine F2 (a_leq (ifd (fun hc5 => ?_) fun hc5 => r_false (fun hx => by have := hx.2.1; omega) h))
    refine F3 (w_neqL (b := []) (ifd (fun hc6 => ?_) fun hc6 => r_false (fun hx => hc6 hx.2.2.1) h))
    refine F3 (w_lenL Try.underlying9 ?_)
    refine a_leq (r_dec ?_ h)
    exact ⟨fun hx => ⟨by omega, by omega, hc6, by omega⟩, fun hx => by have := hx.2.2.2; omega⟩

end Go.Proofs.Ytknbnfpdcbpoeaa
