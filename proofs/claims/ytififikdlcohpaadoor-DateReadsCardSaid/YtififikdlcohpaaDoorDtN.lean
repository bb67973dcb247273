/-
  DateReads: the law.
-/
import Derived.Test.YtififikdlcohpaaDoorDtM
namespace Go.Proofs.YtififikdlcohpaaDoor
open Go Go.Ez Go.RowKit
set_option linter.unusedSimpArgs false
set_option linter.unusedVariables false
theorem dayIs_same {n : Int} {y mo d y' mo' d' : Nat} (a : DayIs n y mo d) (b : DayIs n y' mo' d') : y = y' ∧ mo = mo' ∧ d = d' := by
  obtain ⟨a1, a2, a3⟩ := day_order a b
  obtain ⟨b1, b2, b3⟩ := day_order b a
  have hy : y = y' := by
    rcases Nat.lt_trichotomy y y' with h | h | h
    · have := a1 h; omega
    · exact h
    · have := b1 h; omega
  have hm : mo = mo' := by
    rcases Nat.lt_trichotomy mo mo' with h | h | h
    · have := a2 hy h; omega
    · exact h
    · have := b2 hy.symm h; omega
  have := a3 hy hm
  exact ⟨hy, hm, by omega⟩
section
variable {w0 W W' : World} {G : Nat → Prop} {l R : List As} {RR : Value → World → Prop} {s : Txt} {t y mo d hh mi c : Int}
theorem datereads_spec (h : St w0 G l W) (k : ∀ W', St w0 G l W' → RR (.bool true) W') :
    CallF Tryd.prog 11 #[strV s, .int .i64 t, .int .i64 y, .int .i64 mo, .int .i64 d, .int .i64 hh, .int .i64 mi, .int .i64 c] W RR := by
  refine sh11_calls ?_
  unfold sh11
  refine first5_spec h fun W h => a_not (iff' ?_)
  refine x_len (a_gtr (ifd (fun hl => ?_) fun hl => ?_))
  · exact first5_spec h fun W h => k W h
  refine mail_spec h (by omega) fun W h => a_ext0 (a_ext1 ?_)
  refine mailR_spec h (by omega) fun W h => a_ext0 (a_ext1 ?_)
  refine net_spec h fun W h => a_ext0 (a_ext1 ?_)
  refine netR_spec h (by omega) fun W h => a_ext0 (a_ext1 ?_)
  refine any_spec h (by omega) fun W h => a_ext0 (a_ext1 ?_)
  refine anyR_spec h (by omega) fun W h => a_ext0 (a_ext1 ?_)
  rw [mail_same, net_same, any_same]
  cases hw : within t
  · refine print_spec h (fun _ => ?_) fun hn => by rw [hw] at hn; cases hn
    refine a_ext0 (a_ext1 ?_)
    refine dateR_spec h (fun _ => ?_) fun hn => by rw [hw] at hn; cases hn
    refine a_ext0 (a_ext1 ?_)
    refine make_spec (a_ext0 (a_ext1 (makeR_spec (a_ext0 (a_ext1 ?_)))))
    refine first5_spec h fun W h => ift ?_
    refine w_eql (ifd_pos rfl (w_eql (ifd_pos rfl (w_eql (ifd_pos rfl (w_eql (ifd_pos rfl (w_eql (ifd_pos rfl (w_eql (ifd_pos rfl ?_)))))))))))
    refine w_eqlL (ifd_pos rfl (w_eql (ifd_pos rfl (w_eql (ifd_pos rfl (x_eqb ?_))))))
    rw [beq_self_eq_true]
    exact k W h
  · refine print_spec h (fun hn => by rw [hw] at hn; cases hn) fun _ y1 m1 d1 W D1 h => ?_
    refine a_ext0 (a_ext1 ?_)
    refine dateR_spec h (fun hn => by rw [hw] at hn; cases hn) fun _ y2 m2 d2 W D2 h => ?_
    obtain ⟨rfl, rfl, rfl⟩ := dayIs_same D1 D2
    refine a_ext0 (a_ext1 ?_)
    refine make_spec (a_ext0 (a_ext1 (makeR_spec (a_ext0 (a_ext1 ?_)))))
    refine first5_spec h fun W h => ift ?_
    refine w_eql (ifd_pos rfl (w_eql (ifd_pos rfl (w_eql (ifd_pos rfl (w_eql (ifd_pos rfl (w_eql (ifd_pos rfl (w_eql (ifd_pos rfl ?_)))))))))))
    refine w_eqlL (ifd_pos rfl (w_eql (ifd_pos rfl (w_eql (ifd_pos rfl (x_eqb ?_))))))
    rw [beq_self_eq_true]
    exact k W h
end
end Go.Proofs.YtififikdlcohpaaDoor
