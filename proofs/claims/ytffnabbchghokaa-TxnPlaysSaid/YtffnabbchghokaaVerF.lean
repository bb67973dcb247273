/-
  VERSIONS: what the chapter's examples fix: the walk.
-/
import Derived.Test.YtffnabbchghokaaVerCvs
namespace Go.Proofs.Ytffnabbchghokaa
open Go Go.Ez Go.RowKit
set_option linter.unusedSimpArgs false
set_option linter.unusedVariables false

section
variable {w0 W W' : World} {RR : Value → World → Prop}
/-- hbllaw11.first -/
theorem vfirst_spec (k : ∀ W', Below W.heap.size W W' → RR (.bool true) W') : CallF Try.prog 13 #[] W RR := by
  refine sh13_calls ?_
  unfold sh13
  refine vnewvs_spec (St.start W) fun v W1 h _ => ?_
  obtain ⟨b, mv, hv, _⟩ := h.openVvs (v := v)
  subst hv
  refine x_nilP (iff' ?_)
  have h := h.kqNil PoolK.a verCvs 58 3
  refine vputvs_spec (kp := []) (rs := []) (n := 0) (key := [107]) (val := [97]) h (fun r hr => by cases hr) ⟨Nat.le_refl _, fun r hr => by cases hr⟩ (by decide) fun kp1 rs1 W2 hk1 _ e1 h => ?_
  have a1 : addR ([] : VRows Txt) 0 [107] (1, [97], false) = (0, [([107], [(1, [97], false)])]) := rfl
  have a1' : addR (rwvs []) 0 [107] (1, [97], false) = (0, [([107], [(1, [97], false)])]) := a1
  rw [a1'] at e1 ⊢
  refine vputvs_spec (n := 1) (key := [107]) (val := [98]) h hk1 (by rw [e1]; exact ⟨by decide, by simp⟩) (by decide) fun kp2 rs2 W3 hk2 _ e2 h => ?_
  have a2 : addR ([([107], [(1, [97], false)])] : VRows Txt) 0 [107] (5, [98], false) = (0, [([107], [(1, [97], false), (5, [98], false)])]) := rfl
  rw [e1, a2] at e2 ⊢
  have hbd : Bd 2 (rwvs rs2) := by rw [e2]; exact ⟨by decide, by simp⟩
  refine vgetvs_spec (n := 2) (key := [107]) (h.freezeVvs hk2) hbd (by decide) fun W4 hb => ?_
  replace h := h.ext hb
  have a3 : toldC (chainR (rwvs rs2) [107]) 4 = some [97] := by rw [e2]; rfl
  rw [a3]
  refine a_ext0 (a_ext1 ?_)
  refine w_eql (ifd_pos rfl (w_eql (ifd_pos rfl (ift ?_))))
  refine w_eqlL (ifd_pos rfl ?_)
  refine vprunevs_spec (n := 2) h hk2 hbd (by decide) fun kp3 rs3 W5 hk3 _ e3 h => ?_
  have a4 : (pruneR (rwvs rs2) 0 5).1 = 1 := by rw [e2]; rfl
  rw [a4]
  refine w_eql ?_
  exact k W5 h.low
end
end Go.Proofs.Ytffnabbchghokaa
