/-
  KeysReads: the statement, proved for every argument: it returns true, and the arguments read as they did.
-/
import Derived.Test.YtgflkjhljggeiaaDoorCards
import Derived.Test.YtgflkjhljggeiaaDoorTie
import Derived.Test.YtgflkjhljggeiaaDoorEzRow
import Derived.Lay
import Derived.LaidMore
import Derived.LaidOnce
import Derived.SevenTiedAt
import Derived.PinnedBridge
import Derived.Stop.Joined
import Derived.Test.YtgflkjhljggeiaaDoorKyR
import Derived.Test.YtgflkjhljggeiaaDoorKyS
namespace Go.Proofs.YtgflkjhljggeiaaDoor
open Go Go.Ez Go.RowKit Go.ChangeShapes Go.WideShapes Go.ChangeAt
set_option linter.unusedVariables false

theorem keysReads_knob : ownKnob Tryd.prog.godebug = none := by kernel_rfl
theorem keysReads_laid : laidOutB Tryd.prog = true := by kernel_rfl

set_option maxRecDepth 100000 in
theorem keysReads_lifted (os : Os) (started : os.Started) (H : Type) (enc : TypeId × Value → H) :
    ReturnsInHanded Rows.keysReadsRow.assume Tryd.checked os 4 .any (fun w args => (Rows.keysReadsSpec.pre enc Tryd.prog Tryd.f4 Rows.keysReadsRow.domain false w args ∧ laidMetH Tryd.prog Rows.keysReadsRow.laid w) ∧ sizedMet enc Tryd.prog Tryd.f4 (OpenSpec.ofChange Rows.keysReadsSpec) false w args)
      (Rows.keysReadsSpec.post enc Tryd.prog Tryd.f4 false true false false) := by
  refine handed_and_shaped (C := Tryd.checked) (X := fun w _ => laidMetH Tryd.prog Rows.keysReadsRow.laid w) (fun _ _ _ hh h => h.of_heap hh) keysReads_knob started (by kernel_rfl) Tryd.func4
    (ChangeSpec.witness_shaped (enc := enc) (C := Tryd.checked) (os := os) (X := fun w _ => laidMetH Tryd.prog Rows.keysReadsRow.laid w) false (World.laidAll Tryd.prog os Rows.keysReadsRow.laid) #[.agg #[.int .i64 0, .string ⟨#[]⟩, .string ⟨#[]⟩, .string ⟨#[]⟩, .string ⟨#[]⟩, .int .i64 0], .string ⟨#[]⟩] 8 (World.laidAll_os _ _ _)
      (World.shaped_of_ZipB (by kernel_rfl) (by kernel_rfl)) (by kernel_rfl) (by kernel_rfl) (by kernel_rfl)
      (by rw [MakeChecks.laidMetH_plain _ _ _ (by kernel_rfl)]; exact laidMet_laidAll _ (by kernel_rfl) (by kernel_rfl))) ?_
  intro W base args ds gs before hval0 hW hcnd _ hsh hL _
  have hval : ∀ (j : Nat) t v, Tryd.f4.params[j]? = some t → args[j]? = some v → Value.okWide Tryd.prog W .any base t v := hval0
  have hW' := hW
  obtain ⟨p, q, hA0, hV, rfl, hfz, hnd⟩ := hW
  have hA : DataW.TrodAll enc Tryd.prog W 0 (fun _ => true) true Tryd.f4.params.toList args.toList ds p := hA0
  rw [Tryd.params4] at hA hval
  obtain ⟨v0, vs0, d0, ds0, p0, q0, e0, rfl, rfl, h0, hA1⟩ := trodAll_cons hA
  obtain ⟨v1, vs1, d1, ds1, p1, q1, rfl, rfl, rfl, h1, hA2⟩ := trodAll_cons hA1
  obtain ⟨rfl, rfl, rfl⟩ := trodAll_nil hA2
  obtain ⟨rfl, rfl⟩ := trodVars_none hV
  have eargs : args = #[v0, v1] := by rw [← Array.toArray_toList (xs := args), e0]
  subst eargs
  obtain ⟨s1, rfl⟩ := okWide_string Tryd.underlying9 (hval 1 9 v1 rfl rfl)
  rw [MakeChecks.laidMetH_plain _ _ _ (by kernel_rfl)] at hL
  have hT : KTabs W := ktabs_of hsh (powTab_of ((show Rows.laid_internal_strconv_uint64pow10 = Go.Lib.tabData .u64 Go.Lib.pow10Tab by kernel_rfl) ▸ Go.Lib.laidMet.reads hL (.tail _ (.tail _ (.head _)))))
    (Go.Lib.laidMet.reads hL (.tail _ (.tail _ (.tail _ (.tail _ (.tail _ (.head _))))))) (Go.Lib.laidMet.reads hL (.tail _ (.tail _ (.tail _ (.tail _ (.head _))))))
  obtain ⟨p0, rfl, a1, a2, a3, _, a4⟩ := pt_of_trod (hval 0 23 v0 rfl rfl) h0
  obtain ⟨l1, rfl⟩ : ∃ l : List UInt8, s1 = ⟨l.toArray⟩ := ⟨s1.data.toList, rfl⟩
  refine Calls.mono (kreads_spec (s := l1) (RR := fun v W' => v = .bool true ∧ Below W.heap.size W W') hT (St.start W) a4 fun w' hw => ⟨rfl, hw.low⟩) ?_
  rintro e W' ⟨v, rfl, rfl, hb⟩
  exact ⟨_, rfl, post_true (tb := 4) hW' keysReads_laid (by kernel_rfl) rfl (by kernel_rfl) Tryd.underlying4 rfl hb⟩

theorem keysReads_row : Rows.KeysReadsSaid :=
  OpenClaim.holds_of_wide 4 Tryd.f4 rfl rfl rfl rfl rfl rfl rfl ⟨rfl, rfl, rfl, rfl, rfl⟩ rfl rfl rfl rfl rfl (by kernel_rfl) Tryd.func4 (by kernel_rfl)
    (of_decide_eq_true (by kernel_rfl)) (by unfold Func.isWrapper; first | (rw [if_pos (by decide +kernel)]; kernel_rfl) | (rw [if_neg (by decide +kernel)]; exact ⟨rfl, rfl⟩))
    (fun os started H enc _ => keysReads_lifted os started H enc)

theorem keysReads_holds : Rows.KeysReadsCardSaid :=
  Claim7.holds_tied_plain_at .later [] [.data, .data, .data, .data, .sentinel, .sentinel, .pinned] true (true, "5b03b16256fa3667da63d7597901a21179e452a463264819ef7f4aec0a70e386") true keysReads_row (fun _ h => by cases h) (by kernel_rfl) (fun _ h => by cases h) keysReads_row_tie rfl ⟨rfl, rfl⟩ (by kernel_rfl) rfl
    (fun f fn hf hfn => by
      obtain rfl : f = 4 := Option.some.inj ((show Tryd.prog.funcNamed "handbill/hbllaw14.KeysReads" = some 4 by kernel_rfl).symm.trans hf) |>.symm
      obtain rfl : fn = Tryd.f4 := (Option.some.inj (Tryd.func4.symm.trans hfn)).symm
      exact ⟨by kernel_rfl, fun j t ht => by
        rw [Tryd.params4] at ht
        have hm : t ∈ [23, 9] := by
          have := Array.mem_of_getElem? ht
          simpa using this
        have hall : ([23, 9].all fun u => !Tryd.prog.wantsStandIn u) = true := by kernel_rfl
        exact (show Tryd.prog.wantsStandIn t = false by simpa using List.all_eq_true.1 hall t hm)⟩)
    (by kernel_rfl)

#print axioms keysReads_holds
end Go.Proofs.YtgflkjhljggeiaaDoor
