/-
  FeedKinds: the statement, proved for every argument: it returns true, and the arguments read as they did.
-/
import Derived.Test.YtlflpbflpcmckaaGreatDoorPkFeedF
import Derived.Test.YtlflpbflpcmckaaGreatDoorCards
import Derived.Test.YtlflpbflpcmckaaGreatDoorTie
import Derived.Lay
import Derived.LaidMore
import Derived.LaidOnce
import Derived.SevenTiedAt
import Derived.PinnedBridge
import Derived.Stop.Joined
namespace Go.Proofs.YtlflpbflpcmckaaGreatDoor
open Go Go.Ez Go.RowKit Go.ChangeShapes Go.WideShapes Go.ChangeAt
set_option linter.unusedVariables false
theorem feedKinds_knob : ownKnob Tryz.prog.godebug = none := by kernel_rfl
theorem feedKinds_laid : laidOutB Tryz.prog = true := by kernel_rfl
set_option maxRecDepth 100000 in
theorem feedKinds_lifted (os : Os) (started : os.Started) (H : Type) (enc : TypeId × Value → H) :
    ReturnsInHanded Rows.feedKindsRow.assume Tryz.checked os 6 .any (fun w args => (Rows.feedKindsSpec.pre enc Tryz.prog Tryz.f6 Rows.feedKindsRow.domain false w args ∧ laidMetH Tryz.prog Rows.feedKindsRow.laid w) ∧ sizedMet enc Tryz.prog Tryz.f6 (OpenSpec.ofChange Rows.feedKindsSpec) false w args)
      (Rows.feedKindsSpec.post enc Tryz.prog Tryz.f6 false true false false) := by
  refine returnsInHanded_of_change_and (C := Tryz.checked) (X := fun w _ => laidMetH Tryz.prog Rows.feedKindsRow.laid w) (fun _ _ _ hh h => h.of_heap hh) feedKinds_knob started (by kernel_rfl) Tryz.func6
    (ChangeSpec.witness_shaped (enc := enc) (C := Tryz.checked) (os := os) (X := fun w _ => laidMetH Tryz.prog Rows.feedKindsRow.laid w) false (World.laidAll Tryz.prog os Rows.feedKindsRow.laid) #[.string ⟨#[]⟩, .slice none 0 0, .slice none 0 0, .bool false] 8 (World.laidAll_os _ _ _)
      (World.shaped_of_ZipB (by kernel_rfl) (by kernel_rfl)) (by kernel_rfl) (by kernel_rfl) (by kernel_rfl)
      (by rw [MakeChecks.laidMetH_plain _ _ _ (by kernel_rfl)]; exact laidMet_laidAll _ (by kernel_rfl) (by kernel_rfl))) ?_
  intro W base args ds gs before hval0 hW hcnd _ hL _
  have hval : ∀ (j : Nat) t v, Tryz.f6.params[j]? = some t → args[j]? = some v → Value.okWide Tryz.prog W .any base t v := hval0
  have hW' := hW
  obtain ⟨p, q, hA0, hV, rfl, hfz, hnd⟩ := hW
  have hA : DataW.TrodAll enc Tryz.prog W 0 (fun _ => true) true Tryz.f6.params.toList args.toList ds p := hA0
  rw [Tryz.params6] at hA hval
  obtain ⟨v0, vs0, d0, ds0, p0, q0, e0, rfl, rfl, h0, hA1⟩ := trodAll_cons hA
  obtain ⟨v1, vs1, d1, ds1, p1, q1, rfl, rfl, rfl, h1, hA2⟩ := trodAll_cons hA1
  obtain ⟨v2, vs2, d2, ds2, p2, q2, rfl, rfl, rfl, h2, hA3⟩ := trodAll_cons hA2
  obtain ⟨v3, vs3, d3, ds3, p3, q3, rfl, rfl, rfl, h3, hA4⟩ := trodAll_cons hA3
  obtain ⟨rfl, rfl, rfl⟩ := trodAll_nil hA4
  obtain ⟨rfl, rfl⟩ := trodVars_none hV
  have eargs : args = #[v0, v1, v2, v3] := by rw [← Array.toArray_toList (xs := args), e0]
  subst eargs
  obtain ⟨l1, x1, m1, e1m⟩ := strs_of_trod Tryz.underlying22 Tryz.underlying9 (by kernel_rfl) (hval 1 22 v1 rfl rfl) h1
  obtain ⟨l2, x2, m2, e2m⟩ := strs_of_trod Tryz.underlying22 Tryz.underlying9 (by kernel_rfl) (hval 2 22 v2 rfl rfl) h2
  obtain ⟨s0, rfl⟩ := okWide_string Tryz.underlying9 (hval 0 9 v0 rfl rfl)
  have hs0 : s0.size ≤ maxLen := by
    obtain ⟨fuel0, hf0⟩ := h0
    obtain ⟨s', e', _, hm⟩ := DataW.trod_string Tryz.underlying9 hf0
    have : [Value.string s0] = [Value.string s'] := e'
    cases this
    exact hm
  obtain ⟨b3, rfl⟩ := okWide_bool Tryz.underlying4 (hval 3 4 v3 rfl rfl)
  obtain ⟨l0, rfl⟩ : ∃ l : List UInt8, s0 = ⟨l.toArray⟩ := ⟨_, strL_of s0⟩
  replace hs0 : l0.length ≤ 9223372036854775807 := by rw [sizeL] at hs0; exact hs0
  rw [MakeChecks.laidMetH_plain _ _ _ (by kernel_rfl)] at hL
  have hT : XTabs W := xtabs_of (Pinned.utf8First_eq ▸ Lib.laidMet.reads hL (.tail _ (.tail _ (.tail _ (.tail _ (.tail _ (.tail _ (.head _))))))))
    (show Go.Lib.VarReads Tryz.prog W "unicode/utf8.acceptRanges" Go.Lib.acceptData from (show Rows.laid_unicode_utf8_acceptRanges = Go.Lib.acceptData by kernel_rfl) ▸ Lib.laidMet.reads hL (.tail _ (.tail _ (.tail _ (.head _)))))
    (Lib.laidMet.reads hL (.tail _ (.tail _ (.tail _ (.tail _ (.tail _ (.head _)))))))
  refine Calls.mono (fkinds_law (RR := fun v W' => v = .bool true ∧ Below W.heap.size W W') hT hs0 x1 x2 e1m e2m (St.start W) fun w' hw => ⟨rfl, hw.low⟩) ?_
  rintro e W' ⟨v, rfl, rfl, hb⟩
  exact ⟨_, rfl, post_true (tb := 4) hW' feedKinds_laid (by kernel_rfl) rfl (by kernel_rfl) Tryz.underlying4 rfl hb⟩
theorem feedKinds_row : Rows.FeedKindsSaid :=
  OpenClaim.holds_of_wide 6 Tryz.f6 rfl rfl rfl rfl rfl rfl rfl ⟨rfl, rfl, rfl, rfl, rfl⟩ rfl rfl rfl rfl rfl (by kernel_rfl) Tryz.func6 (by kernel_rfl)
    (of_decide_eq_true (by kernel_rfl)) (by unfold Func.isWrapper; first | (rw [if_pos (by decide +kernel)]; kernel_rfl) | (rw [if_neg (by decide +kernel)]; exact ⟨rfl, rfl⟩))
    (fun os started H enc _ => feedKinds_lifted os started H enc)
theorem feedKinds_holds : Rows.FeedKindsCardSaid :=
  Claim7.holds_tied_plain_at .later [] [.data, .data, .data, .data, .sentinel, .sentinel, .pinned] true (true, "a7c4451474bbb9e6120b77622541ae8d095c43a4b0b8eaebebfdce3d7e4c15f9") true feedKinds_row (fun _ h => by cases h) (by kernel_rfl) (fun _ h => by cases h) feedKinds_row_tie rfl ⟨rfl, rfl⟩ (by kernel_rfl) rfl
    (fun f fn hf hfn => by
      obtain rfl : f = 6 := Option.some.inj ((show Tryz.prog.funcNamed "handbill/hbllaw7.FeedKinds" = some 6 by kernel_rfl).symm.trans hf) |>.symm
      obtain rfl : fn = Tryz.f6 := (Option.some.inj (Tryz.func6.symm.trans hfn)).symm
      exact ⟨by kernel_rfl, fun j t ht => by
        rw [Tryz.params6] at ht
        have hm : t ∈ [9, 22, 4] := by
          have := Array.mem_of_getElem? ht
          simpa using this
        have hall : ([9, 22, 4].all fun u => !Tryz.prog.wantsStandIn u) = true := by kernel_rfl
        exact (show Tryz.prog.wantsStandIn t = false by simpa using List.all_eq_true.1 hall t hm)⟩)
    (by kernel_rfl)
#print axioms feedKinds_holds
end Go.Proofs.YtlflpbflpcmckaaGreatDoor
