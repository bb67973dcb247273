/-
  EZ: iterators that hand on what another one tells, or leave it out.
-/
import Derived.Test.YtffnabbchghokaaEzKq
namespace Go.Ez
open Go Go.Proofs Go.RowKit
set_option linter.unusedSimpArgs false
set_option linter.unusedVariables false

section
variable {P : Program} {w0 W : World} {G : Nat → Prop} {l R : List As}

/-- a range that calls the taker's yield with F of what it is told, or passes over it: L is what it keeps -/
theorem rngFm {np nl : Nat} {asg : Nat → FnN nl → FnN np} {bdy : Nat → (World → Prop) → (Code → World → Prop) → FnN nl} {f yv : Value} {kdone : Nat → World → Prop} {kstop : Nat → Code → World → Prop} {xs : List (List Value)} {A : Value → As} {C D : Nat → As}
    (F : List Value → Option (List Value)) (L : List As) (hI : Itr P w0 G f xs A) (hY : Yl P w0 G yv (xs.filterMap F) C D) (hx : ∀ x ∈ xs, x.length = np) (h : St w0 G (L ++ Ky 0 C :: Ky f A :: l) W)
    (hbody : ∀ (i : Nat) (x : List Value), xs[i]? = some x → ∀ (ll : Nat) (rec : LoopState → Option Code → Loop) (I : List As) (W : World) (kn : World → Prop) (ks : Code → World → Prop), St w0 G (Ky ll (Ob (.loop (rec .ready none))) :: (L ++ I)) W →
      (F x = none → ∀ W', St w0 G (Ky ll (Ob (.loop (rec .busy none))) :: (L ++ I)) W' → kn W') →
      (∀ y, F x = some y → ∀ W' K, St w0 G (Ky ll (Ob (.loop (rec .busy none))) :: (L ++ I)) W' → (∀ W'', kn W'' → K (.bool true) W'') → (∀ W'', ks .ret W'' → K (.bool false) W'') → CallV P yv y.toArray W' K) →
      appN np (asg ll (lamN nl fun vs W2 => W2.heap[ll]? = some (.loop (rec .ready none)) ∧ appN nl (bdy ll kn ks) vs (W2.putObj ll (.loop (rec .busy none))))) x W)
    (hdone : ∀ DD W', St w0 G (Ky DD (Ob (.deferred (some []))) :: Ky (xs.filterMap F).length C :: Ky f A :: (L ++ l)) W' → kdone DD W')
    (hstop : ∀ DD j W', j ≤ (xs.filterMap F).length → St w0 G (Ky DD (Ob (.deferred (some []))) :: Ky j D :: Ky f A :: (L ++ l)) W' → kstop DD .ret W') :
    rngP P none np nl asg bdy f W kdone kstop := by
  refine rngI (C := fun i => As.all True (Ky ((xs.take i).filterMap F).length C :: L)) (fun c i => As.all (c = .ret) (Ky ((xs.take i).filterMap F).length D :: L)) hI hx (l := l) ?_ ?_ ?_ ?_
  · exact St.shutA (L := Ky ((xs.take 0).filterMap F).length C :: L) trivial (St.before h)
  · intro i x hxi ll rec I' W kn ks h hn hk
    have h1 := h.swap
    have h2 : St w0 G (Ky ((xs.take i).filterMap F).length C :: (L ++ Ky ll (Ob (.loop (rec .ready none))) :: I')) W := (St.openA (show St w0 G (As.all True (Ky ((xs.take i).filterMap F).length C :: L) :: Ky ll (Ob (.loop (rec .ready none))) :: I') W from h1)).2
    have h3 : St w0 G (Ky ll (Ob (.loop (rec .ready none))) :: (L ++ Ky ((xs.take i).filterMap F).length C :: I')) W := by
      have h4 : St w0 G (L ++ Ky ((xs.take i).filterMap F).length C :: Ky ll (Ob (.loop (rec .ready none))) :: I') W := St.behind h2
      have h5 : St w0 G ((L ++ [Ky ((xs.take i).filterMap F).length C]) ++ Ky ll (Ob (.loop (rec .ready none))) :: I') W := h4.congr (by simp)
      exact (St.before h5).congr (by simp)
    have hs : (xs.take (i + 1)).filterMap F = (xs.take i).filterMap F ++ (F x).toList := by
      rw [List.take_add_one, hxi, List.filterMap_append]
      congr 1
    -- the state behind a round
    have backφ : ∀ (φ : Prop) (hφ : φ) (j : Nat) (E : Nat → As) (W : World), St w0 G (Ky ll (Ob (.loop (rec .busy none))) :: (L ++ Ky j E :: I')) W → St w0 G (Ky ll (Ob (.loop (rec .busy none))) :: As.all φ (Ky j E :: L) :: I') W := by
      intro φ hφ j E W h
      have h4 : St w0 G ((Ky ll (Ob (.loop (rec .busy none))) :: L) ++ Ky j E :: I') W := h
      have h5 := St.before h4
      have h6 : St w0 G (Ky ll (Ob (.loop (rec .busy none))) :: Ky j E :: (L ++ I')) W := (St.swap h5)
      have h7 : St w0 G ((Ky j E :: L) ++ Ky ll (Ob (.loop (rec .busy none))) :: I') W := by
        have h8 : St w0 G (Ky ll (Ob (.loop (rec .busy none))) :: ((Ky j E :: L) ++ I')) W := h6
        exact St.behind h8
      exact St.swap (St.shutA (L := Ky j E :: L) hφ h7)
    have back := backφ True trivial
    have backD := backφ (Code.ret = .ret) rfl
    refine hbody i x hxi ll rec (Ky ((xs.take i).filterMap F).length C :: I') W kn ks h3 (fun hF W' h => ?_) fun y hF W' K h kt kf => ?_
    · rw [hF] at hs
      have e : ((xs.take (i + 1)).filterMap F).length = ((xs.take i).filterMap F).length := by rw [hs]; simp
      refine hn W' (St.congr (back _ C W' h) ?_)
      show _ :: As.all True (Ky ((xs.take i).filterMap F).length C :: L) :: I' = _ :: As.all True (Ky ((xs.take (i + 1)).filterMap F).length C :: L) :: I'
      rw [e]
    · rw [hF] at hs
      have e : ((xs.take (i + 1)).filterMap F).length = ((xs.take i).filterMap F).length + 1 := by rw [hs]; simp
      have hg : (xs.filterMap F)[((xs.take i).filterMap F).length]? = some y := by
        have hd : xs.filterMap F = (xs.take (i + 1)).filterMap F ++ (xs.drop (i + 1)).filterMap F := by rw [← List.filterMap_append, List.take_append_drop]
        rw [hd, hs, List.append_assoc, List.getElem?_append_right (Nat.le_refl _)]
        simp
      have h4 : St w0 G ((Ky ll (Ob (.loop (rec .busy none))) :: L) ++ Ky ((xs.take i).filterMap F).length C :: I') W' := h
      refine hY _ y hg (Ky ll (Ob (.loop (rec .busy none))) :: (L ++ I')) W' K (St.before h4) (fun W'' h => kt W'' (hn W'' ?_)) fun W'' h => kf W'' (hk .ret W'' ?_)
      · have h5 : St w0 G ((Ky ll (Ob (.loop (rec .busy none))) :: L) ++ Ky (((xs.take i).filterMap F).length + 1) C :: I') W'' := St.behind h
        refine St.congr (back _ C W'' h5) ?_
        show _ :: As.all True (Ky (((xs.take i).filterMap F).length + 1) C :: L) :: I' = _ :: As.all True (Ky ((xs.take (i + 1)).filterMap F).length C :: L) :: I'
        rw [e]
      · have h5 : St w0 G ((Ky ll (Ob (.loop (rec .busy none))) :: L) ++ Ky (((xs.take i).filterMap F).length + 1) D :: I') W'' := St.behind h
        refine St.congr (backD _ D W'' h5) ?_
        show _ :: As.all (Code.ret = .ret) (Ky (((xs.take i).filterMap F).length + 1) D :: L) :: I' = _ :: As.all (Code.ret = .ret) (Ky ((xs.take (i + 1)).filterMap F).length D :: L) :: I'
        rw [e]
  · intro DD W h
    refine hdone DD W ?_
    have h2 : St w0 G ((Ky ((xs.take xs.length).filterMap F).length C :: L) ++ Ky DD (Ob (.deferred (some []))) :: Ky f A :: l) W := (St.openA (show St w0 G (As.all True (Ky ((xs.take xs.length).filterMap F).length C :: L) :: Ky DD (Ob (.deferred (some []))) :: Ky f A :: l) W from h.swap)).2
    rw [List.take_length] at h2
    have h3 : St w0 G (Ky DD (Ob (.deferred (some []))) :: ((Ky (xs.filterMap F).length C :: L) ++ Ky f A :: l)) W := St.before h2
    have h4 : St w0 G ((Ky DD (Ob (.deferred (some []))) :: Ky (xs.filterMap F).length C :: L) ++ Ky f A :: l) W := h3
    have h5 : St w0 G (Ky f A :: (Ky DD (Ob (.deferred (some []))) :: Ky (xs.filterMap F).length C :: (L ++ l))) W := St.before h4
    have h6 : St w0 G ([Ky DD (Ob (.deferred (some []))), Ky (xs.filterMap F).length C] ++ Ky f A :: (L ++ l)) W := St.behind (L := [Ky DD (Ob (.deferred (some []))), Ky (xs.filterMap F).length C]) h5
    exact h6
  · intro DD c i W hi h
    obtain ⟨rfl, h2⟩ := St.openA (show St w0 G (As.all (c = .ret) (Ky ((xs.take i).filterMap F).length D :: L) :: Ky DD (Ob (.deferred (some []))) :: Ky f A :: l) W from h.swap)
    have h3 : St w0 G (Ky DD (Ob (.deferred (some []))) :: ((Ky ((xs.take i).filterMap F).length D :: L) ++ Ky f A :: l)) W := St.before h2
    have h4 : St w0 G ((Ky DD (Ob (.deferred (some []))) :: Ky ((xs.take i).filterMap F).length D :: L) ++ Ky f A :: l) W := h3
    have h5 : St w0 G (Ky f A :: (Ky DD (Ob (.deferred (some []))) :: Ky ((xs.take i).filterMap F).length D :: (L ++ l))) W := St.before h4
    have h6 : St w0 G ([Ky DD (Ob (.deferred (some []))), Ky ((xs.take i).filterMap F).length D] ++ Ky f A :: (L ++ l)) W := St.behind (L := [Ky DD (Ob (.deferred (some []))), Ky ((xs.take i).filterMap F).length D]) h5
    refine hstop DD _ W ?_ h6
    have hd : xs.filterMap F = (xs.take i).filterMap F ++ (xs.drop i).filterMap F := by rw [← List.filterMap_append, List.take_append_drop]
    rw [hd, List.length_append]; omega
end
end Go.Ez
