/-
  EZ: iterators that need something at their start alone, and leave it to the taker then.
-/
import Derived.Test.YtffnabbchghokaaEzIter
namespace Go.Ez
open Go Go.Proofs Go.RowKit
set_option linter.unusedSimpArgs false
set_option linter.unusedVariables false

/-- f tells xs; A is what it stands on, H what it needs at its start, out of the taker's own -/
def ItH (P : Program) (w0 : World) (G : Nat → Prop) (f : Value) (xs : List (List Value)) (A : Value → As) (H : As) : Prop :=
  ∃ gf lb, f = .func (.func gf) #[] lb ∧ Enters P gf ∧ ∀ (yv : Value) (C D C0 : Nat → As) (I : List As) (W : World) (R : Value → World → Prop), Cel1 yv → Yl P w0 G yv xs C D →
    (∀ J W, St w0 G (Ky 0 C :: J) W → St w0 G (H :: Ky 0 C0 :: J) W) → (∀ J W, St w0 G (H :: Ky 0 C0 :: J) W → St w0 G (Ky 0 C :: J) W) → St w0 G (Ky 0 C :: Ky f A :: I) W →
    (∀ W', St w0 G (Ky xs.length C :: Ky f A :: I) W' → R (.tuple #[]) W') → (∀ i W', i ≤ xs.length → St w0 G (Ky i D :: Ky f A :: I) W' → R (.tuple #[]) W') → CallF P gf (#[yv] ++ lb) W R

section
variable {P : Program} {w0 W : World} {G : Nat → Prop} {l R : List As}
/-- three turned: the third to the place after the first -/
theorem St.turn {A B C : As} (h : St w0 G (A :: B :: C :: l) W) : St w0 G (C :: A :: B :: l) W := by
  obtain ⟨F, hF, hG⟩ := h.own
  exact { h with own := ⟨F, sepL_swap (sepL_mono (fun F w h => sepL_swap h) hF), hG⟩ }

/-- a range over an iterator that needs H at its start -/
theorem rngH {np nl : Nat} {asg : Nat → FnN nl → FnN np} {bdy : Nat → (World → Prop) → (Code → World → Prop) → FnN nl} {f : Value} {kdone : Nat → World → Prop} {kstop : Nat → Code → World → Prop} {xs : List (List Value)} {A : Value → As} {H : As}
    (C : Nat → As) (Dd : Code → Nat → As) (hI : ItH P w0 G f xs A H) (C0 : Nat → As) (hin : ∀ J W, St w0 G (Ky 0 C :: J) W → St w0 G (H :: Ky 0 C0 :: J) W) (hout : ∀ J W, St w0 G (H :: Ky 0 C0 :: J) W → St w0 G (Ky 0 C :: J) W) (hx : ∀ x ∈ xs, x.length = np) (h : St w0 G (Ky 0 C :: Ky f A :: l) W)
    (hbody : ∀ (i : Nat) (x : List Value), xs[i]? = some x → ∀ (ll : Nat) (rec : LoopState → Option Code → Loop) (I : List As) (W : World) (kn : World → Prop) (ks : Code → World → Prop), St w0 G (Ky ll (Ob (.loop (rec .ready none))) :: Ky i C :: I) W →
      (∀ W', St w0 G (Ky ll (Ob (.loop (rec .busy none))) :: Ky (i + 1) C :: I) W' → kn W') → (∀ c W', St w0 G (Ky ll (Ob (.loop (rec .busy none))) :: Ky (i + 1) (Dd c) :: I) W' → ks c W') →
      appN np (asg ll (lamN nl fun vs W2 => W2.heap[ll]? = some (.loop (rec .ready none)) ∧ appN nl (bdy ll kn ks) vs (W2.putObj ll (.loop (rec .busy none))))) x W)
    (hdone : ∀ D W', St w0 G (Ky D (Ob (.deferred (some []))) :: Ky xs.length C :: Ky f A :: l) W' → kdone D W')
    (hstop : ∀ D c i W', i ≤ xs.length → St w0 G (Ky D (Ob (.deferred (some []))) :: Ky i (Dd c) :: Ky f A :: l) W' → kstop D c W') :
    rngP P none np nl asg bdy f W kdone kstop := by
  obtain ⟨gf, lb, rfl, hen, hrun⟩ := hI
  refine ⟨(fun l0 hl0 => nomatch hl0), gf, lb, rfl, hen, ?_⟩
  intro ll D rec W1 hll hlt hD hW1 hL hDD hround
  obtain ⟨hD1, hD2⟩ := hD rfl
  have hDD := hDD rfl
  -- the two new blocks
  have h1 : St w0 G (As.all True [Ky ll (Ob (.loop (rec .ready none))), Ky D (Ob (.deferred (some [])))] :: Ky 0 C :: Ky (.func (.func gf) #[] lb) A :: l) W1 := by
    refine h.new (F := fun x => x = ll ∨ x = D) hW1 ⟨trivial, fun x => x = ll, fun x => x = D, ⟨fun _ => Iff.rfl, hL⟩, ⟨fun x => x = D, fun _ => False, ⟨fun _ => Iff.rfl, hDD⟩, fun _ h => h, fun _ _ h => h, fun _ => by simp⟩, fun b h1 h2 => by omega, fun _ => Iff.rfl⟩ ?_
    rintro b (rfl | rfl) <;> omega
  have h2 : St w0 G (Ky ll (Ob (.loop (rec .ready none))) :: Ky D (Ob (.deferred (some []))) :: Ky 0 C :: Ky (.func (.func gf) #[] lb) A :: l) W1 := h1.openA.2
  let C' : Nat → As := fun i => As.all True [Ky ll (Ob (.loop (rec .ready none))), Ky i C]
  let D' : Nat → As := fun i => As.ex fun c : Code => As.all True [Ky ll (Ob (.loop (rec .done (some c)))), Ky i (Dd c)]
  have h3 : St w0 G (Ky 0 C' :: Ky (.func (.func gf) #[] lb) A :: Ky D (Ob (.deferred (some []))) :: l) W1 := by
    refine St.shutA trivial (?_ : St w0 G (Ky ll (Ob (.loop (rec .ready none))) :: Ky 0 C :: Ky (.func (.func gf) #[] lb) A :: Ky D (Ob (.deferred (some []))) :: l) W1)
    obtain ⟨F, hF, hG⟩ := h2.own
    exact { h2 with own := ⟨F, sepL_mono (fun F w h => sepL_mono (fun F w h => sepL_swap h) (sepL_swap h)) hF, hG⟩ }
  let C0' : Nat → As := fun i => As.all True [Ky ll (Ob (.loop (rec .ready none))), Ky i C0]
  refine hrun (.func (.yield ll) #[] #[]) C' D' C0' (Ky D (Ob (.deferred (some []))) :: l) W1 _ ⟨rfl⟩ ?_ (fun J W h => ?_) (fun J W h => ?_) h3 ?_ ?_
  · intro i x hxi I W K h kt kf
    have h4 : St w0 G (Ky ll (Ob (.loop (rec .ready none))) :: Ky i C :: I) W := (St.openA (show St w0 G (As.all True [Ky ll (Ob (.loop (rec .ready none))), Ky i C] :: I) W from h)).2
    refine hround x W K (hx x (List.mem_of_getElem? hxi)) (h4.ob (b := ll)) ?_
    refine hbody i x hxi ll rec I W _ _ h4 (fun W' h5 => ?_) fun c W' h5 => ?_
    · refine ⟨h5.ob (b := ll), kt _ ?_⟩
      exact St.shutA (L := [Ky ll (Ob (.loop (rec .ready none))), Ky (i + 1) C]) trivial (h5.putO (b := ll) (o := .loop (rec .busy none)) (.loop (rec .ready none)))
    · refine ⟨h5.ob (b := ll), kf _ ?_⟩
      exact St.shutE c (St.shutA (L := [Ky ll (Ob (.loop (rec .done (some c)))), Ky (i + 1) (Dd c)]) trivial (h5.putO (b := ll) (o := .loop (rec .busy none)) (.loop (rec .done (some c)))))
  · have h4 : St w0 G (Ky ll (Ob (.loop (rec .ready none))) :: Ky 0 C :: J) W := (St.openA (show St w0 G (As.all True [Ky ll (Ob (.loop (rec .ready none))), Ky 0 C] :: J) W from h)).2
    have h5 := hin _ _ h4.swap
    exact St.swap (St.shutA (L := [Ky ll (Ob (.loop (rec .ready none))), Ky 0 C0]) trivial (St.swap (St.turn (St.turn h5))))
  · have h4 : St w0 G (Ky ll (Ob (.loop (rec .ready none))) :: Ky 0 C0 :: H :: J) W := (St.openA (show St w0 G (As.all True [Ky ll (Ob (.loop (rec .ready none))), Ky 0 C0] :: H :: J) W from h.swap)).2
    have h5 := hout _ _ (St.turn h4.swap)
    exact St.shutA (L := [Ky ll (Ob (.loop (rec .ready none))), Ky 0 C]) trivial h5.swap
  · intro W' h4
    have h5 : St w0 G (Ky ll (Ob (.loop (rec .ready none))) :: Ky xs.length C :: Ky (.func (.func gf) #[] lb) A :: Ky D (Ob (.deferred (some []))) :: l) W' := (St.openA (show St w0 G (As.all True [Ky ll (Ob (.loop (rec .ready none))), Ky xs.length C] :: _) W' from h4)).2
    refine Or.inl ⟨h5.ob (b := ll), hdone D _ ?_⟩
    exact (h5.putO (b := ll) (o := .loop (rec .ready none)) (.loop (rec .exhausted none))).to
  · intro i W' hi h4
    obtain ⟨c, h4⟩ := St.openE (show St w0 G (As.ex (fun c : Code => As.all True [Ky ll (Ob (.loop (rec .done (some c)))), Ky i (Dd c)]) :: _) W' from h4)
    have h5 : St w0 G (Ky ll (Ob (.loop (rec .done (some c)))) :: Ky i (Dd c) :: Ky (.func (.func gf) #[] lb) A :: Ky D (Ob (.deferred (some []))) :: l) W' := (St.openA h4).2
    refine Or.inr ⟨c, h5.ob (b := ll), hstop D c i _ hi ?_⟩
    exact (h5.putO (b := ll) (o := .loop (rec .done (some c))) (.loop (rec .exhausted (some c)))).to
end
end Go.Ez
