/-
  TOKENS: what the chapter's examples fix; the document's token; unlike tokens have unlike texts: the walk.
-/
import Derived.Test.YtknbnfpdcbpoeaaTokC
namespace Go.Proofs.Ytknbnfpdcbpoeaa
open Go Go.Ez Go.RowKit Go.Lib
set_option linter.unusedSimpArgs false
set_option linter.unusedVariables false

/-- hbllaw22.first -/
theorem first22_spec {w : World} {R : Value → World → Prop} (h : ∀ w', Below w.heap.size w w' → R (.bool true) w') : CallF Try.prog 19 #[] w R := by
  refine sh19_calls ?_
  unfold sh19
  refine v_build (places := #[(0, 1), (1, 1), (2, 1), (3, 1)]) (cells := (tkC [117] 0 0 []).toArray) Try.zeroValue42 Try.underlying42 (fun w => by kernel_rfl) (by kernel_rfl) ?_
  refine print_spec (u := [117]) (f := 0) (t := 0) (k := []) (by decide) (by decide) (fun hn => absurd (by decide) hn) fun _ w1 m1 => ?_
  have e := tok_first
  refine a_ext0 (a_ext1 ?_)
  refine w_eql (ifd_pos rfl ?_)
  refine w_lenL Try.underlying9 ?_
  refine w_eql (ifd_pos (by show ((tokS [117] 0 0 []).length : Int) = 18; rw [e.1]; rfl) ?_)
  refine a_sliceStrH (hi := 10) Try.underlying9 (by show 10 ≤ (tokS [117] 0 0 []).length; rw [e.1]; decide) ?_
  refine w_eqlL (b := [48, 48, 48, 48, 48, 49, 55, 53, 48, 48]) (r_dec (B := True) ?_ (by simpa using h w1 m1))
  exact ⟨fun _ => trivial, fun _ => e.2⟩

/-- hbllaw22.plain -/
theorem plain_spec {u k : List UInt8} {f t : Int} {w : World} {R : Value → World → Prop} (h : ∀ w', Below w.heap.size w w' → R (tkV u f t k) w') : CallF Try.prog 22 #[tkV u f t k] w R := by
  refine sh22_calls ?_
  unfold sh22
  refine v_boxRec fun w1 z1 r1 m1 => ?_
  refine v_allocRec Try.zeroValue46 fun w2 z2 r2 m2 => ?_
  have r1 := r1.below m2
  refine a_field Try.underlying42 rfl Try.sizeOf9 (by decide) (w_recF (j := 0 + 0) Try.isAgg9 r1 rfl ?_)
  refine a_field Try.underlying42 rfl Try.sizeOf3 (by decide) (w_recF (j := 0 + 1) Try.isAgg3 r1 rfl ?_)
  refine a_field Try.underlying42 rfl Try.sizeOf3 (by decide) (w_recF (j := 0 + 2) Try.isAgg3 r1 rfl ?_)
  refine a_field Try.underlying42 rfl Try.sizeOf9 (by decide) (w_recF (j := 0 + 3) Try.isAgg9 r1 rfl ?_)
  refine v_build (places := #[(0, 1), (1, 1), (2, 1), (3, 1)]) (cells := (tkC u f t k).toArray) Try.zeroValue46 Try.underlying46 (fun w => by kernel_rfl) (by rfl) ?_
  have r2' : Rec w2 w1.heap.size 46 [strV [], .int .i64 0, .int .i64 0, strV []] := r2
  refine u_rec (cs := [strV [], .int .i64 0, .int .i64 0, strV []]) (cs' := tkC u f t k) Try.sizeOf46 rfl (by simp [Value.oneCell']) r2' fun w3 r3 m3 => ?_
  refine w_rec (cs := tkC u f t k) Try.isAgg46 Try.sizeOf46 r3 ?_
  refine h w3 (m3.below (Below.next m1 m2) (Nat.le_refl _) (by simpa using m1.size))

end Go.Proofs.Ytknbnfpdcbpoeaa
