/-
  TokenReads: any token as a text, any text as one, by the program as by the document: the walk.
-/
import Derived.Test.YtknbnfpdcbpoeaaTokE
import Derived.Test.YtknbnfpdcbpoeaaTokM
namespace Go.Proofs.Ytknbnfpdcbpoeaa
open Go Go.Ez Go.RowKit Go.Lib
set_option linter.unusedSimpArgs false
set_option linter.unusedVariables false

/-- what both parsers answer -/
def Pars (s u : List UInt8) (f t : Int) (k : List UInt8) (e : Int) : Prop :=
  (e = 0 ∧ mayT u f t k ∧ tokS u f.toNat t.toNat k = s) ∨ (e = 14 ∧ u = [] ∧ f = 0 ∧ t = 0 ∧ k = [] ∧ ∀ u f t k, mayT u f t k → tokS u f.toNat t.toNat k ≠ s)
theorem Pars.same {s u u' k k' : List UInt8} {f f' t t' e e' : Int} (h : Pars s u f t k e) (h' : Pars s u' f' t' k' e') : u = u' ∧ f = f' ∧ t = t' ∧ k = k' ∧ e = e' := by
  rcases h with ⟨rfl, hm, hs⟩ | ⟨rfl, rfl, rfl, rfl, rfl, hn⟩ <;> rcases h' with ⟨rfl, hm', hs'⟩ | ⟨rfl, rfl, rfl, rfl, rfl, hn'⟩
  · obtain ⟨a, b, c, d⟩ := tokS_inj hm hm' (hs.trans hs'.symm)
    exact ⟨a, b, c, d, rfl⟩
  · exact absurd hs (hn' _ _ _ _ hm)
  · exact absurd hs' (hn _ _ _ _ hm')
  · exact ⟨rfl, rfl, rfl, rfl, rfl⟩
theorem parse_all {s : List UInt8} {w : World} {R : Value → World → Prop} (hl : s.length ≤ 1000000000) (h : ∀ u f t k e w', Pars s u f t k e → Below w.heap.size w w' → R (.tuple #[tkV u f t k, .int .i64 e]) w') : CallF Try.prog 24 #[strV s] w R :=
  parse_spec hl (fun u f t k hm hs w' hw => h u f t k 0 w' (.inl ⟨rfl, hm, hs⟩) hw) fun hn w' hw => h [] 0 0 [] 14 w' (.inr ⟨rfl, rfl, rfl, rfl, rfl, hn⟩) hw
theorem rparse_all {s : List UInt8} {w : World} {R : Value → World → Prop} (hl : s.length ≤ 1000000000) (h : ∀ u f t k e w', Pars s u f t k e → Below w.heap.size w w' → R (.tuple #[tkV u f t k, .int .i64 e]) w') : CallF Try.prog 25 #[strV s] w R :=
  rparse_spec hl (fun u f t k hm hs w' hw => h u f t k 0 w' (.inl ⟨rfl, hm, hs⟩) hw) fun hn w' hw => h [] 0 0 [] 14 w' (.inr ⟨rfl, rfl, rfl, rfl, rfl, hn⟩) hw

/-- hbllaw22.TokenReads -/
theorem reads22_spec {u k s : List UInt8} {f t : Int} {w : World} {R : Value → World → Prop} (hu : u.length ≤ 9223372036854775807) (hk : k.length ≤ 9223372036854775807)
    (h : ∀ w', Below w.heap.size w w' → R (.bool true) w') : CallF Try.prog 7 #[tkV u f t k, strV s] w R := by
  refine sh7_calls ?_
  unfold sh7
  refine v_boxRec fun w1 z1 r1 m1 => ?_
  refine first22_spec fun w3 m3 => ?_
  have c3 := Below.next m1 m3
  replace r1 := r1.below m3
  refine a_not (iff' ?_)
  have end1 : ∀ w4, Below w.heap.size w w4 → CallF Try.prog 19 #[] w4 R := fun w4 c4 => first22_spec fun w5 m5 => h w5 (Below.next c4 m5)
  refine a_field Try.underlying42 rfl Try.sizeOf9 (by decide) (w_recF (j := 0 + 0) Try.isAgg9 r1 rfl (w_lenL Try.underlying9 ?_))
  refine a_gtr (ifd (fun _ => end1 w3 c3) fun hc1 => ?_)
  refine a_field Try.underlying42 rfl Try.sizeOf9 (by decide) (w_recF (j := 0 + 3) Try.isAgg9 r1 rfl (w_lenL Try.underlying9 ?_))
  refine a_gtr (ifd (fun _ => end1 w3 c3) fun hc2 => ?_)
  refine w_lenL Try.underlying9 ?_
  refine a_gtr (ifd (fun _ => end1 w3 c3) fun hc3 => ?_)
  refine w_rec (cs := tkC u f t k) Try.isAgg42 Try.sizeOf42 r1 ?_
  refine print_all hu hk fun w4 m4 => ?_
  refine a_ext0 (a_ext1 ?_)
  refine w_rec (cs := tkC u f t k) Try.isAgg42 Try.sizeOf42 (r1.below m4) ?_
  refine plain_spec fun w5 m5 => ?_
  refine rprint_all hu hk fun w6 m6 => ?_
  refine a_ext0 (a_ext1 ?_)
  have d6 := Below.next (Below.next m4 m5) m6
  refine parse_all (by omega) fun x1 x2 x3 x4 xe w7 px m7 => ?_
  refine a_ext0 (a_ext1 ?_)
  have d7 := Below.next d6 m7
  refine v_allocRec Try.zeroValue42 fun w8 z8 r8 m8 => ?_
  replace r8 : Rec w8 w7.heap.size 42 (tkC [] 0 0 []) := r8
  refine u_rec (cs := tkC [] 0 0 []) (cs' := tkC x1 x2 x3 x4) Try.sizeOf42 rfl (by simp [Value.oneCell']) r8 fun w9 r9 m9 => ?_
  have h7 := d7.size
  have d9 : Below w3.heap.size w3 w9 := m9.below (Below.next d7 m8) (Nat.le_refl _) (by simp; omega)
  refine rparse_all (by omega) fun y1 y2 y3 y4 ye w10 py m10 => ?_
  refine a_ext0 (a_ext1 ?_)
  obtain ⟨rfl, rfl, rfl, rfl, rfl⟩ := px.same py
  have d10 := Below.next d9 m10
  replace r9 := r9.below m10
  refine v_allocRec Try.zeroValue46 fun w11 z11 r11 m11 => ?_
  replace r11 : Rec w11 w10.heap.size 46 (tkC [] 0 0 []) := r11
  refine u_rec (cs := tkC [] 0 0 []) (cs' := tkC x1 x2 x3 x4) Try.sizeOf46 rfl (by simp [Value.oneCell']) r11 fun w12 r12 m12 => ?_
  have h10 := d10.size
  have d12 : Below w3.heap.size w3 w12 := m12.below (Below.next d10 m11) (Nat.le_refl _) (by simp; omega)
  have hr9 := r9.lt
  have r9' : Rec w12 w7.heap.size 42 (tkC x1 x2 x3 x4) := (r9.below m11).mod m12 (by simp; omega)
  have r1' := r1.below d12
  have c12 := Below.next c3 d12
  refine ⟨fun W => Below w12.heap.size w12 W, (Below.refl _ _).drew, ?_⟩
  refine first22_spec fun w13 m13' => ?_
  have m13 : Below w12.heap.size w12 w13 := ((Below.refl _ w12).drew).trans m13'
  refine ⟨m13, ift ?_⟩
  refine s_rec (cs := tkC u f t k) Try.isAgg42 Try.sizeOf42 (fun W hW => r1'.below hW) ?_
  refine s_rec (cs := tkC u f t k) Try.isAgg42 Try.sizeOf42 (fun W hW => r1'.below hW) ?_
  refine may_spec hu hk fun w14 m14 => ?_
  have m14' := m13.trans (m14.mono m13.size)
  refine ⟨m14', plain_spec fun w15 m15 => ?_⟩
  have m15' := m14'.trans (m15.mono m14'.size)
  refine ⟨m15', rmay_spec hu hk fun w16 m16 => ?_⟩
  have m16' := m15'.trans (m16.mono m15'.size)
  refine ⟨m16', ?_⟩
  have ebb : ∀ (S : World → Prop) (K : Value → Prop) (X Y : Operand) (a : Bool), K (.bool true) → RunS Try.prog S (bin .eql 4 X Y (.bool a) (.bool a)) K := fun S K X Y a hK => by
    refine ⟨_, fun w' _ => ?_, hK⟩
    obtain ⟨v, hv, hk⟩ := w_eqlb (P := Try.prog) (w := w') (K := fun v => v = .bool (a == a)) (t := 4) (X := X) (Y := Y) Try.underlying4 rfl
    rw [hv, hk, beq_self_eq_true]
  refine ebb _ _ _ _ _ (ift ?_)
  refine s_eqlL (ifd_pos rfl ?_)
  refine s_eql (ifd_pos rfl ?_)
  refine s_rec (cs := tkC x1 x2 x3 x4) Try.isAgg42 Try.sizeOf42 (fun W hW => r9'.below hW) ?_
  refine s_rec (cs := tkC x1 x2 x3 x4) Try.isAgg46 Try.sizeOf46 (fun W hW => r12.below hW) ?_
  refine plain_spec fun w17 m17 => ?_
  have m17' := m16'.trans (m17.mono m16'.size)
  refine ⟨m17', RunS.of (fun w' _ => eql_tok w') ?_⟩
  refine ifd_pos ⟨rfl, rfl, rfl, rfl⟩ ?_
  refine s_eql ?_
  rw [decide_eq_true rfl]
  exact h w17 (Below.next c12 m17')

end Go.Proofs.Ytknbnfpdcbpoeaa
