/-
  EZ: iterators (functions to be ranged over): what they tell, one behind the other; ranges over them: laws over assertions.
-/
import Derived.Test.YtlflpbflpcmckaaDoorEzSlc
namespace Go.Ez
open Go Go.Proofs Go.RowKit
set_option linter.unusedSimpArgs false
set_option linter.unusedVariables false

section
variable (P : Program) (w0 : World) (G : Nat → Prop)

/-- what is asked of a yield: told the i-th, the taker's own goes from C i to C (i + 1); or it stops, at D (i + 1) -/
def Yl (yv : Value) (xs : List (List Value)) (C D : Nat → As) : Prop :=
  ∀ i x, xs[i]? = some x → ∀ (I : List As) (W : World) (K : Value → World → Prop), St w0 G (Ky i C :: I) W →
    (∀ W', St w0 G (Ky (i + 1) C :: I) W' → K (.bool true) W') → (∀ W', St w0 G (Ky (i + 1) D :: I) W' → K (.bool false) W') → CallV P yv x.toArray W K

/-- f tells xs; A is what it stands on -/
def Itr (f : Value) (xs : List (List Value)) (A : Value → As) : Prop :=
  ∃ gf lb, f = .func (.func gf) #[] lb ∧ Enters P gf ∧ ∀ (yv : Value) (C D : Nat → As) (I : List As) (W : World) (R : Value → World → Prop), Cel1 yv → Yl P w0 G yv xs C D → St w0 G (Ky 0 C :: Ky f A :: I) W →
    (∀ W', St w0 G (Ky xs.length C :: Ky f A :: I) W' → R (.tuple #[]) W') → (∀ i W', i ≤ xs.length → St w0 G (Ky i D :: Ky f A :: I) W' → R (.tuple #[]) W') → CallF P gf (#[yv] ++ lb) W R
end

section
variable {P : Program} {w0 W : World} {G : Nat → Prop} {l R : List As}

theorem St.swap {A B : As} (h : St w0 G (A :: B :: l) W) : St w0 G (B :: A :: l) W := by
  obtain ⟨F, hF, hG⟩ := h.own
  exact { h with own := ⟨F, sepL_swap hF, hG⟩ }
theorem St.congr {l l' : List As} (h : St w0 G l W) (e : l = l') : St w0 G l' W := e ▸ h

theorem St.shut1 {φ : Prop} {X : As} (hφ : φ) (h : St w0 G (X :: l) W) : St w0 G (As.all φ [X] :: l) W := St.shutA hφ h
theorem St.shut2 {φ : Prop} {X Y : As} (hφ : φ) (h : St w0 G (X :: Y :: l) W) : St w0 G (As.all φ [X, Y] :: l) W := St.shutA hφ h
theorem St.shut3 {φ : Prop} {X Y Z : As} (hφ : φ) (h : St w0 G (X :: Y :: Z :: l) W) : St w0 G (As.all φ [X, Y, Z] :: l) W := St.shutA hφ h
theorem St.shut4 {φ : Prop} {X Y Z U : As} (hφ : φ) (h : St w0 G (X :: Y :: Z :: U :: l) W) : St w0 G (As.all φ [X, Y, Z, U] :: l) W := St.shutA hφ h
theorem St.shut5 {φ : Prop} {X Y Z U V : As} (hφ : φ) (h : St w0 G (X :: Y :: Z :: U :: V :: l) W) : St w0 G (As.all φ [X, Y, Z, U, V] :: l) W := St.shutA hφ h
theorem St.open1 {φ : Prop} {X : As} (h : St w0 G (As.all φ [X] :: l) W) : φ ∧ St w0 G (X :: l) W := h.openA
theorem St.open2 {φ : Prop} {X Y : As} (h : St w0 G (As.all φ [X, Y] :: l) W) : φ ∧ St w0 G (X :: Y :: l) W := h.openA
theorem St.open3 {φ : Prop} {X Y Z : As} (h : St w0 G (As.all φ [X, Y, Z] :: l) W) : φ ∧ St w0 G (X :: Y :: Z :: l) W := h.openA
theorem St.open4 {φ : Prop} {X Y Z U : As} (h : St w0 G (As.all φ [X, Y, Z, U] :: l) W) : φ ∧ St w0 G (X :: Y :: Z :: U :: l) W := h.openA
theorem St.open5 {φ : Prop} {X Y Z U V : As} (h : St w0 G (As.all φ [X, Y, Z, U, V] :: l) W) : φ ∧ St w0 G (X :: Y :: Z :: U :: V :: l) W := h.openA
/-- two, kept together under a key -/
def Two {κ : Type} (A B : As) (_ : κ) : As := As.all True [A, B]
theorem St.two {κ κ1 κ2 : Type} {k : κ} {a : κ1} {b : κ2} {X : κ1 → As} {Y : κ2 → As} {R1 : List As} [i : Has l a X R1] [j : Has R1 b Y R] (h : St w0 G l W) : St w0 G (Ky k (Two (Ky a X) (Ky b Y)) :: R) W := by
  obtain ⟨F, hF, hG⟩ := h.own
  exact St.shutA trivial { h with own := ⟨F, sepL_mono j.to (i.to F W hF), hG⟩ }
theorem St.untwo {κ : Type} {k : κ} {A B : As} [i : Has l k (Two A B) R] (h : St w0 G l W) : St w0 G (A :: B :: R) W := (St.openA (h.find (k := k) (X := Two A B))).2

/-- a range over an iterator -/
theorem rngI {np nl : Nat} {asg : Nat → FnN nl → FnN np} {bdy : Nat → (World → Prop) → (Code → World → Prop) → FnN nl} {f : Value} {kdone : Nat → World → Prop} {kstop : Nat → Code → World → Prop} {xs : List (List Value)} {A : Value → As}
    (C : Nat → As) (Dd : Code → Nat → As) (hI : Itr P w0 G f xs A) (hx : ∀ x ∈ xs, x.length = np) (h : St w0 G (Ky 0 C :: Ky f A :: l) W)
    (hbody : ∀ (i : Nat) (x : List Value), xs[i]? = some x → ∀ (ll : Nat) (rec : LoopState → Option Code → Loop) (I : List As) (W : World) (kn : World → Prop) (ks : Code → World → Prop), St w0 G (Ky ll (Ob (.loop (rec .ready none))) :: Ky i C :: I) W →
      (∀ W', St w0 G (Ky ll (Ob (.loop (rec .busy none))) :: Ky (i + 1) C :: I) W' → kn W') → (∀ c W', St w0 G (Ky ll (Ob (.loop (rec .busy none))) :: Ky (i + 1) (Dd c) :: I) W' → ks c W') →
      appN np (asg ll (lamN nl fun vs W2 => W2.heap[ll]? = some (.loop (rec .ready none)) ∧ appN nl (bdy ll kn ks) vs (W2.putObj ll (.loop (rec .busy none))))) x W)
    (hdone : ∀ D W', St w0 G (Ky D (Ob (.deferred (some []))) :: Ky xs.length C :: Ky f A :: l) W' → kdone D W')
    (hstop : ∀ D c i W', i ≤ xs.length → St w0 G (Ky D (Ob (.deferred (some []))) :: Ky i (Dd c) :: Ky f A :: l) W' → kstop D c W') :
    rngP P none np nl asg bdy f W kdone kstop := by
  obtain ⟨gf, lb, rfl, hen, hrun⟩ := hI
  refine ⟨(fun l0 hl0 => nomatch hl0), gf, lb, rfl, hen, ?_⟩
  intro ll D rec W1 hll hlt hD hW1 hL hDD hround
  obtain ⟨hD1, hD2⟩ := hD rfl
  have hDD := hDD rfl
  -- the two new blocks
  have h1 : St w0 G (As.all True [Ky ll (Ob (.loop (rec .ready none))), Ky D (Ob (.deferred (some [])))] :: Ky 0 C :: Ky (.func (.func gf) #[] lb) A :: l) W1 := by
    refine h.new (F := fun x => x = ll ∨ x = D) hW1 ⟨trivial, fun x => x = ll, fun x => x = D, ⟨fun _ => Iff.rfl, hL⟩, ⟨fun x => x = D, fun _ => False, ⟨fun _ => Iff.rfl, hDD⟩, fun _ h => h, fun _ _ h => h, fun _ => by simp⟩, fun b h1 h2 => by omega, fun _ => Iff.rfl⟩ ?_
    rintro b (rfl | rfl) <;> omega
  have h2 : St w0 G (Ky ll (Ob (.loop (rec .ready none))) :: Ky D (Ob (.deferred (some []))) :: Ky 0 C :: Ky (.func (.func gf) #[] lb) A :: l) W1 := h1.openA.2
  let C' : Nat → As := fun i => As.all True [Ky ll (Ob (.loop (rec .ready none))), Ky i C]
  let D' : Nat → As := fun i => As.ex fun c : Code => As.all True [Ky ll (Ob (.loop (rec .done (some c)))), Ky i (Dd c)]
  have h3 : St w0 G (Ky 0 C' :: Ky (.func (.func gf) #[] lb) A :: Ky D (Ob (.deferred (some []))) :: l) W1 := by
    refine St.shutA trivial (?_ : St w0 G (Ky ll (Ob (.loop (rec .ready none))) :: Ky 0 C :: Ky (.func (.func gf) #[] lb) A :: Ky D (Ob (.deferred (some []))) :: l) W1)
    obtain ⟨F, hF, hG⟩ := h2.own
    exact { h2 with own := ⟨F, sepL_mono (fun F w h => sepL_mono (fun F w h => sepL_swap h) (sepL_swap h)) hF, hG⟩ }
  refine hrun (.func (.yield ll) #[] #[]) C' D' (Ky D (Ob (.deferred (some []))) :: l) W1 _ ⟨rfl⟩ ?_ h3 ?_ ?_
  · intro i x hxi I W K h kt kf
    have h4 : St w0 G (Ky ll (Ob (.loop (rec .ready none))) :: Ky i C :: I) W := (St.openA (show St w0 G (As.all True [Ky ll (Ob (.loop (rec .ready none))), Ky i C] :: I) W from h)).2
    refine hround x W K (hx x (List.mem_of_getElem? hxi)) (h4.ob (b := ll)) ?_
    refine hbody i x hxi ll rec I W _ _ h4 (fun W' h5 => ?_) fun c W' h5 => ?_
    · refine ⟨h5.ob (b := ll), kt _ ?_⟩
      exact St.shutA (L := [Ky ll (Ob (.loop (rec .ready none))), Ky (i + 1) C]) trivial (h5.putO (b := ll) (o := .loop (rec .busy none)) (.loop (rec .ready none)))
    · refine ⟨h5.ob (b := ll), kf _ ?_⟩
      exact St.shutE c (St.shutA (L := [Ky ll (Ob (.loop (rec .done (some c)))), Ky (i + 1) (Dd c)]) trivial (h5.putO (b := ll) (o := .loop (rec .busy none)) (.loop (rec .done (some c)))))
  · intro W' h4
    have h5 : St w0 G (Ky ll (Ob (.loop (rec .ready none))) :: Ky xs.length C :: Ky (.func (.func gf) #[] lb) A :: Ky D (Ob (.deferred (some []))) :: l) W' := (St.openA (show St w0 G (As.all True [Ky ll (Ob (.loop (rec .ready none))), Ky xs.length C] :: _) W' from h4)).2
    refine Or.inl ⟨h5.ob (b := ll), hdone D _ ?_⟩
    exact (h5.putO (b := ll) (o := .loop (rec .ready none)) (.loop (rec .exhausted none))).to
  · intro i W' hi h4
    obtain ⟨c, h4⟩ := St.openE (show St w0 G (As.ex (fun c : Code => As.all True [Ky ll (Ob (.loop (rec .done (some c)))), Ky i (Dd c)]) :: _) W' from h4)
    have h5 : St w0 G (Ky ll (Ob (.loop (rec .done (some c)))) :: Ky i (Dd c) :: Ky (.func (.func gf) #[] lb) A :: Ky D (Ob (.deferred (some []))) :: l) W' := (St.openA h4).2
    refine Or.inr ⟨c, h5.ob (b := ll), hstop D c i _ hi ?_⟩
    exact (h5.putO (b := ll) (o := .loop (rec .done (some c))) (.loop (rec .exhausted (some c)))).to
end
end Go.Ez
