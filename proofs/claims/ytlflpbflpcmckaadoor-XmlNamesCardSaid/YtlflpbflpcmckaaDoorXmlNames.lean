/-
  XmlNames: the statement, proved for every argument: it returns true, and the arguments read as they did.
-/
import Derived.Test.YtlflpbflpcmckaaDoorCards
import Derived.Test.YtlflpbflpcmckaaDoorTie
import Derived.Test.YtlflpbflpcmckaaDoorEzRow
import Derived.Lay
import Derived.LaidMore
import Derived.LaidOnce
import Derived.SevenTiedAt
import Derived.PinnedBridge
import Derived.Stop.Joined
import Derived.Test.YtlflpbflpcmckaaDoorEzRow2
import Derived.Test.YtlflpbflpcmckaaDoorXmW
import Derived.Test.YtlflpbflpcmckaaDoorXmNm
namespace Go.Proofs.YtlflpbflpcmckaaDoor
open Go Go.Ez Go.RowKit Go.ChangeShapes Go.WideShapes Go.ChangeAt
set_option linter.unusedVariables false

theorem xmlNames_knob : ownKnob Tryd.prog.godebug = none := by kernel_rfl
theorem xmlNames_laid : laidOutB Tryd.prog = true := by kernel_rfl

set_option maxRecDepth 100000 in
theorem xmlNames_lifted (os : Os) (started : os.Started) (H : Type) (enc : TypeId × Value → H) :
    ReturnsInHanded Rows.xmlNamesRow.assume Tryd.checked os 6 .any (fun w args => (Rows.xmlNamesSpec.pre enc Tryd.prog Tryd.f6 Rows.xmlNamesRow.domain false w args ∧ laidMetH Tryd.prog Rows.xmlNamesRow.laid w) ∧ sizedMet enc Tryd.prog Tryd.f6 (OpenSpec.ofChange Rows.xmlNamesSpec) false w args)
      (Rows.xmlNamesSpec.post enc Tryd.prog Tryd.f6 false true false false) := by
  refine returnsInHanded_of_change_and (C := Tryd.checked) (X := fun w _ => laidMetH Tryd.prog Rows.xmlNamesRow.laid w) (fun _ _ _ hh h => h.of_heap hh) xmlNames_knob started (by kernel_rfl) Tryd.func6
    (ChangeSpec.witness_shaped (enc := enc) (C := Tryd.checked) (os := os) (X := fun w _ => laidMetH Tryd.prog Rows.xmlNamesRow.laid w) false (World.laidAll Tryd.prog os Rows.xmlNamesRow.laid) #[.slice none 0 0, .slice none 0 0] 8 (World.laidAll_os _ _ _)
      (World.shaped_of_ZipB (by kernel_rfl) (by kernel_rfl)) (by kernel_rfl) (by kernel_rfl) (by kernel_rfl)
      (by rw [MakeChecks.laidMetH_plain _ _ _ (by kernel_rfl)]; exact laidMet_laidAll _ (by kernel_rfl) (by kernel_rfl))) ?_
  intro W base args ds gs before hval0 hW hcnd _ hL _
  have hval : ∀ (j : Nat) t v, Tryd.f6.params[j]? = some t → args[j]? = some v → Value.okWide Tryd.prog W .any base t v := hval0
  have hW' := hW
  obtain ⟨p, q, hA0, hV, rfl, hfz, hnd⟩ := hW
  have hA : DataW.TrodAll enc Tryd.prog W 0 (fun _ => true) true Tryd.f6.params.toList args.toList ds p := hA0
  rw [Tryd.params6] at hA hval
  obtain ⟨v0, vs0, d0, ds0, p0, q0, e0, rfl, rfl, h0, hA1⟩ := trodAll_cons hA
  obtain ⟨v1, vs1, d1, ds1, p1, q1, rfl, rfl, rfl, h1, hA2⟩ := trodAll_cons hA1
  obtain ⟨rfl, rfl, rfl⟩ := trodAll_nil hA2
  obtain ⟨rfl, rfl⟩ := trodVars_none hV
  have eargs : args = #[v0, v1] := by rw [← Array.toArray_toList (xs := args), e0]
  subst eargs
  obtain ⟨l0, x0, m0, e0m⟩ := strs_of_trod Tryd.underlying41 Tryd.underlying9 (by kernel_rfl) (hval 0 41 v0 rfl rfl) h0
  obtain ⟨l1, x1, m1, e1m⟩ := strs_of_trod Tryd.underlying41 Tryd.underlying9 (by kernel_rfl) (hval 1 41 v1 rfl rfl) h1
  rw [MakeChecks.laidMetH_plain _ _ _ (by kernel_rfl)] at hL
  have hT : XTabs W := xtabs_of (Pinned.utf8First_eq ▸ Lib.laidMet.reads hL (.tail _ (.tail _ (.tail _ (.tail _ (.tail _ (.tail _ (.head _))))))))
    (show Go.Lib.VarReads Tryd.prog W "unicode/utf8.acceptRanges" Go.Lib.acceptData from (show Rows.laid_unicode_utf8_acceptRanges = Go.Lib.acceptData by kernel_rfl) ▸ Lib.laidMet.reads hL (.tail _ (.tail _ (.tail _ (.head _)))))
    (Lib.laidMet.reads hL (.tail _ (.tail _ (.tail _ (.tail _ (.tail _ (.head _)))))))
  refine Calls.mono (names_spec (RR := fun v W' => v = .bool true ∧ Below W.heap.size W W') (hT) (x0) (x1) (m0) (m1) (e0m) (e1m) (St.start W) fun w' hw => ⟨rfl, hw.low⟩) ?_
  rintro e W' ⟨v, rfl, rfl, hb⟩
  exact ⟨_, rfl, post_true (tb := 4) hW' xmlNames_laid (by kernel_rfl) rfl (by kernel_rfl) Tryd.underlying4 rfl hb⟩

theorem xmlNames_row : Rows.XmlNamesSaid :=
  OpenClaim.holds_of_wide 6 Tryd.f6 rfl rfl rfl rfl rfl rfl rfl ⟨rfl, rfl, rfl, rfl, rfl⟩ rfl rfl rfl rfl rfl (by kernel_rfl) Tryd.func6 (by kernel_rfl)
    (of_decide_eq_true (by kernel_rfl)) (by unfold Func.isWrapper; first | (rw [if_pos (by decide +kernel)]; kernel_rfl) | (rw [if_neg (by decide +kernel)]; exact ⟨rfl, rfl⟩))
    (fun os started H enc _ => xmlNames_lifted os started H enc)

theorem xmlNames_holds : Rows.XmlNamesCardSaid :=
  Claim7.holds_tied_plain_at .later [] [.data, .data, .data, .data, .sentinel, .sentinel, .pinned] true (true, "b8acbd6ebbf4b70f0d9a2b7b9a5530d63ec0dcbf9a6e637653a6b10329cdef8a") true xmlNames_row (fun _ h => by cases h) (by kernel_rfl) (fun _ h => by cases h) xmlNames_row_tie rfl ⟨rfl, rfl⟩ (by kernel_rfl) rfl
    (fun f fn hf hfn => by
      obtain rfl : f = 6 := Option.some.inj ((show Tryd.prog.funcNamed "handbill/hbllaw6.XmlNames" = some 6 by kernel_rfl).symm.trans hf) |>.symm
      obtain rfl : fn = Tryd.f6 := (Option.some.inj (Tryd.func6.symm.trans hfn)).symm
      exact ⟨by kernel_rfl, fun j t ht => by
        rw [Tryd.params6] at ht
        have hm : t ∈ [41] := by
          have := Array.mem_of_getElem? ht
          simpa using this
        have hall : ([41].all fun u => !Tryd.prog.wantsStandIn u) = true := by kernel_rfl
        exact (show Tryd.prog.wantsStandIn t = false by simpa using List.all_eq_true.1 hall t hm)⟩)
    (by kernel_rfl)

#print axioms xmlNames_holds
end Go.Proofs.YtlflpbflpcmckaaDoor
