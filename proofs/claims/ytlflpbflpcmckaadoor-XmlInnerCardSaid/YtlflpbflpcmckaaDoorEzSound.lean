/-
  EZ: the calculus of Ez is sound for the machine.
-/
import Derived.Test.YtlflpbflpcmckaaDoorEz
namespace Go.Ez
set_option linter.unusedSimpArgs false
set_option linter.unusedVariables false
open Go Go.Proofs

def FW (ro : Option Nat) : Fence := { Fence.wide with round := ro }

theorem callsIn_FW {ro : Option Nat} {n : Nat} {P : Program} {f : FuncId} {args : Array Value} {w : World} {R : Ending → World → Prop} (h : Calls P f args w R) : CallsIn (FW ro) n P f args w R :=
  show CallsIn Fence.wide n P f args w R from callsIn_wide.2 h

theorem room_FW (ro : Option Nat) (n : Nat) : (FW ro).room n := fun _ h => by simp [FW, Fence.wide] at h

theorem wpIn_FW_n {ro : Option Nat} {n m : Nat} {P : Program} {c : Code} {Q : Exit → Act → World → Prop} {a : Act} {w : World} (h : c.wpIn (FW ro) n P Q a w) : c.wpIn (FW ro) m P Q a w :=
  fun b k cs hro hb _ => h b k cs hro hb (room_FW _ _)

def mkD (D : Nat) : Deferred := { target := .collected D, args := #[] }

structure Ext (nt : Nat) (e : Env) (ds : List Nat) (a : Act) : Prop where
  size : a.tmps.size = nt
  get : ∀ t v, e.get t = some v → t < nt ∧ a.tmps[t]? = some v.1 ∧ ∀ b, v.2 = some b → v.1 = Kb.val b
  defers : a.defers = ds.map mkD

theorem memN_iff (k : Nat) : ∀ l, memN k l = true ↔ k ∈ l
  | [] => by simp [memN]
  | t :: r => by
    simp only [memN, List.mem_cons]
    cases h : Nat.beq k t
    · have : k ≠ t := fun e => by subst e; simp at h
      simp [memN_iff k r, this]
    · have : k = t := Nat.eq_of_beq_eq_true h
      simp [this]

theorem get_cons (k : Nat) (v : Value × Option Kb) (r : Env) (t : Nat) : Env.get ((k, v) :: r) t = if k = t then some v else Env.get r t := by
  simp only [Env.get]
  cases h : Nat.beq k t
  · have : k ≠ t := fun e => by subst e; simp at h
    simp [this]
  · have : k = t := Nat.eq_of_beq_eq_true h
    simp [this]

theorem get_keep (e : Env) : ∀ (l : List Nat) t v, (e.keep l).get t = some v → e.get t = some v
  | [], t, v, h => by simp [Env.keep, Env.get] at h
  | s :: r, t, v, h => by
    simp only [Env.keep] at h
    split at h
    · rename_i u hu
      rw [get_cons] at h
      split at h
      · rename_i hst; subst hst; cases h; exact hu
      · exact get_keep e r t v h
    · exact get_keep e r t v h

theorem get_zips : ∀ (l : List Nat) (vs : List Value) (e : Env) t v, (Env.zips l vs e).get t = some v → ((t, v.1) ∈ l.zip vs ∧ v.2 = none) ∨ e.get t = some v
  | [], vs, e, t, v, h => .inr (by simpa [Env.zips] using h)
  | _ :: _, [], e, t, v, h => .inr (by simpa [Env.zips] using h)
  | s :: l, u :: vs, e, t, v, h => by
    simp only [Env.zips] at h
    rw [get_cons] at h
    split at h
    · rename_i hst; subst hst; cases h; exact .inl (by simp)
    · rcases get_zips l vs e t v h with h | h
      · exact .inl (by simp [h.1, h.2])
      · exact .inr h

theorem gets_iff (e : Env) : ∀ (l : List Nat) (k : List Value → Prop), gets e l k → ∃ vs : List Value, vs.length = l.length ∧ (∀ t v, (t, v) ∈ l.zip vs → ∃ kb, e.get t = some (v, kb)) ∧ k vs
  | [], k, h => ⟨[], rfl, by simp, h⟩
  | t :: r, k, h => by
    simp only [gets] at h
    split at h
    · rename_i v hv
      obtain ⟨vs, hl, hz, hk⟩ := gets_iff e r _ h
      refine ⟨v.1 :: vs, by simp [hl], ?_, hk⟩
      intro t' v' hm
      simp only [List.zip_cons_cons, List.mem_cons, Prod.mk.injEq] at hm
      rcases hm with ⟨rfl, rfl⟩ | hm
      · exact ⟨v.2, hv⟩
      · exact hz _ _ hm
    · exact h.elim

theorem eqs_iff : ∀ (vs us : List Value) (p : Prop), eqs vs us p → vs = us ∧ p
  | [], [], p, h => ⟨rfl, h⟩
  | v :: vs, u :: us, p, h => by
    obtain ⟨h1, h2⟩ := h
    obtain ⟨h3, h4⟩ := eqs_iff vs us p h2
    exact ⟨by rw [h1, h3], h4⟩
  | [], _ :: _, p, h => h.elim
  | _ :: _, [], p, h => h.elim

theorem Ext.sub {nt : Nat} {e e' : Env} {ds : List Nat} {a : Act} (h : Ext nt e ds a) (hs : ∀ t v, e'.get t = some v → e.get t = some v) : Ext nt e' ds a :=
  ⟨h.size, fun t v ht => h.get t v (hs t v ht), h.defers⟩

theorem Ext.zips {nt : Nat} {e : Env} {ds : List Nat} {a : Act} {l : List Nat} {vs : List Value} {e0 : Env} (h : Ext nt e ds a) (hz : ∀ t v, (t, v) ∈ l.zip vs → ∃ kb, e.get t = some (v, kb))
    (h0 : Ext nt e0 ds a) : Ext nt (Env.zips l vs e0) ds a :=
  ⟨h.size, fun t v ht => by
    rcases get_zips l vs e0 t v ht with ⟨h1, h2⟩ | h1
    · obtain ⟨kb, h3⟩ := hz t v.1 h1
      have h4 := h.get t _ h3
      exact ⟨h4.1, h4.2.1, fun b hb => by rw [h2] at hb; cases hb⟩
    · exact h0.get t v h1, h.defers⟩

theorem Ext.nil {nt : Nat} {e : Env} {ds : List Nat} {a : Act} (h : Ext nt e ds a) : Ext nt [] ds a := h.sub fun t v ht => by simp [Env.get] at ht

theorem Ext.put {nt : Nat} {e : Env} {ds : List Nat} {a : Act} (h : Ext nt e ds a) {d : Option Nat} (hd : dstOk nt d = true) (v : Value) (kb : Option Kb) (hkb : ∀ b, kb = some b → v = Kb.val b) : Ext nt (e.put d v kb) ds (a.put d v) := by
  cases d with
  | none => exact h
  | some d =>
    refine ⟨by simp [Act.put, h.size], ?_, by simp [Act.put, h.defers]⟩
    intro t u ht
    simp only [Env.put] at ht
    rw [get_cons] at ht
    have hdn : d < nt := Nat.blt_eq.mp hd
    simp only [Act.put, Array.getElem?_setIfInBounds]
    split at ht
    · rename_i hdt; subst hdt; cases ht
      exact ⟨hdn, by simp [h.size, hdn], hkb⟩
    · rename_i hdt
      have h1 := h.get t u ht
      simp only [hdt, if_false]
      exact h1

/-- a slot whose bool has come to be known -/
theorem Ext.know {nt : Nat} {e : Env} {ds : List Nat} {a : Act} (h : Ext nt e ds a) {s : Nat} {v : Value} {kb : Option Kb} (hs : e.get s = some (v, kb)) {b : Bool} (hv : v = .bool b) : Ext nt ((s, .bool b, some (.bl b)) :: e) ds a := by
  refine ⟨h.size, ?_, h.defers⟩
  intro t u ht
  rw [get_cons] at ht
  split at ht
  · rename_i hst; subst hst; cases ht
    have := h.get s _ hs
    exact ⟨this.1, by rw [this.2.1, hv], fun b' hb' => by cases hb'; rfl⟩
  · exact h.get t u ht

theorem Ext.evalk {nt : Nat} {e : Env} {ds : List Nat} {a : Act} (h : Ext nt e ds a) {x : Operand} {k : Value → Option Kb → Prop} (hx : opdk e x k) : ∃ kb, (∀ b, kb = some b → a.eval x = Kb.val b) ∧ k (a.eval x) kb := by
  cases x with
  | tmp t =>
    simp only [opdk] at hx
    split at hx
    · rename_i v hv
      have h1 := h.get t v hv
      have he : a.eval (.tmp t) = v.1 := by simp [Act.eval, Array.getD_eq_getD_getElem?, h1.2.1]
      exact ⟨v.2, fun b hb => by rw [he]; exact h1.2.2 b hb, by rw [he]; exact hx⟩
    · exact hx.elim
  | const v => exact ⟨kbOf v, fun b hb => by cases v <;> simp only [kbOf, reduceCtorEq, Option.some.injEq] at hb; subst hb; rfl, hx⟩
  | global g => exact ⟨none, by simp, hx⟩
  | func f => exact ⟨none, by simp, hx⟩

theorem Ext.eval {nt : Nat} {e : Env} {ds : List Nat} {a : Act} (h : Ext nt e ds a) {x : Operand} {k : Value → Prop} (hx : opd e x k) : k (a.eval x) := by
  obtain ⟨_, _, h1⟩ := h.evalk hx
  exact h1

theorem Ext.evals {nt : Nat} {e : Env} {ds : List Nat} {a : Act} (h : Ext nt e ds a) : ∀ {l : List Operand} {k : List Value → Prop}, opds e l k → k (l.map a.eval)
  | [], k, hx => hx
  | x :: r, k, hx => by
    simp only [opds] at hx
    have h1 := h.eval hx
    exact h.evals (l := r) h1

theorem Ext.evalps {nt : Nat} {e : Env} {ds : List Nat} {a : Act} (h : Ext nt e ds a) : ∀ {l : List (Nat × Operand)} {k : List (Nat × Value) → Prop}, opdps e l k → k (l.map fun p => (p.1, a.eval p.2))
  | [], k, hx => hx
  | (i, x) :: r, k, hx => by
    simp only [opdps] at hx
    have h1 := h.eval hx
    exact h.evalps (l := r) h1

theorem Ext.evalo {nt : Nat} {e : Env} {ds : List Nat} {a : Act} (h : Ext nt e ds a) {x : Option Operand} {k : Option Value → Prop} (hx : opdo e x k) : k (x.map a.eval) := by
  cases x with
  | none => exact hx
  | some x => exact h.eval (by simpa [opdo] using hx)

section
variable {P : Program} {ent : List Nat} {nt : Nat} {ro : Option Nat} {n : Nat}

theorem wpIn_value {o : Oper} {a : Act} {w w' : World} {next : Act → World → Prop} {Q : Exit → Act → World → Prop} {v : Value} (hd : ∀ c, o.op ≠ .defer c)
    (h : (execOp a.eval o).run P w = .ok (.value v) w') (hn : next (a.put o.dst v) w') : o.wpIn (FW ro) n P a w next Q := by
  refine ⟨fun _ _ => trivial, ?_⟩
  rw [Oper.semAt_eq _ _ _ hd, h]
  exact hn

theorem wpIn_unit {o : Oper} {a : Act} {w w' : World} {next : Act → World → Prop} {Q : Exit → Act → World → Prop} (hd : ∀ c, o.op ≠ .defer c)
    (h : (execOp a.eval o).run P w = .ok .skip w') (hn : next (a.put o.dst undef) w') : o.wpIn (FW ro) n P a w next Q := by
  refine ⟨fun _ _ => trivial, ?_⟩
  rw [Oper.semAt_eq _ _ _ hd, h]
  exact hn

theorem run_v {m : Sem Value} {w w' : World} {v : Value} (h : m.run P w = .ok v w') : (do pure (Next.value (← m)) : Sem Next).run P w = .ok (.value v) w' := by
  simp only [Sem.run_bind, h, Result.andThen, Sem.run_pure]

theorem run_u {m : Sem Unit} {w w' : World} (h : m.run P w = .ok () w') : (do m; pure Next.skip : Sem Next).run P w = .ok .skip w' := by
  simp only [Sem.run_bind, h, Result.andThen, Sem.run_pure]

theorem toArray_map_toList {α β : Type} (f : α → β) (l : Array α) : (l.toList.map f).toArray = l.map f := by
  rw [← Array.toList_map]

/-- what a value's operation runs -/
theorem semOp_sound {e : Env} {ds : List Nat} {a : Act} (hE : Ext nt e ds a) {o : Oper} {k : Sem Value → Prop} (h : semOp e o.op o.type k) :
    (∀ c, o.op ≠ .defer c) ∧ ∃ m, k m ∧ ∀ w v w', m.run P w = .ok v w' → (execOp a.eval o).run P w = .ok (.value v) w' := by
  obtain ⟨dst, op, type, pos, after, guard⟩ := o
  cases op with
  | alloc elem => exact ⟨by simp, _, h, fun w v w' hr => run_v hr⟩
  | box elem x => exact ⟨by simp, _, hE.eval h, fun w v w' hr => run_v hr⟩
  | build t parts =>
    have h1 := hE.evalps h
    rw [toArray_map_toList] at h1
    exact ⟨by simp, _, h1, fun w v w' hr => run_v hr⟩
  | buildSlice t len parts =>
    have h1 := hE.evalps h
    rw [toArray_map_toList] at h1
    exact ⟨by simp, _, h1, fun w v w' hr => run_v hr⟩
  | load t x => exact ⟨by simp, _, hE.eval h, fun w v w' hr => run_v hr⟩
  | nilCheck x =>
    refine ⟨by simp, _, hE.eval h, fun w v w' hr => ?_⟩
    simp only [execOp]
    revert hr
    generalize a.eval x = u
    intro hr
    unfold nilV at hr
    split at hr
    · simp only [runtimePanic, Sem.run_bind] at hr
      exact absurd hr (by simp [runtimePanic, goPanic, Sem.run_bind, program, Sem.run, Result.andThen])
    · exact absurd hr (by simp [runtimePanic, goPanic, Sem.run_bind, program, Sem.run, Result.andThen])
    · exact absurd hr (by simp [runtimePanic, goPanic, Sem.run_bind, program, Sem.run, Result.andThen])
    · exact absurd hr (by simp [stuck, Sem.run])
    · simp only [Sem.run_pure, Result.ok.injEq] at hr
      obtain ⟨rfl, rfl⟩ := hr
      split <;> simp_all [Sem.run_pure]
  | binOp op t x y ty => exact ⟨by simp, _, hE.eval (hE.eval h), fun w v w' hr => run_v hr⟩
  | unOp op t x => exact ⟨by simp, _, hE.eval h, fun w v w' hr => run_v hr⟩
  | convert src d x => exact ⟨by simp, _, hE.eval h, fun w v w' hr => run_v hr⟩
  | makeInterface t x => exact ⟨by simp, _, hE.eval h, fun w v w' hr => run_v hr⟩
  | makeFunc fn first captured =>
    have h1 := hE.evals (hE.evals h)
    rw [toArray_map_toList, toArray_map_toList] at h1
    exact ⟨by simp, _, h1, fun w v w' hr => run_v hr⟩
  | makeMap t r =>
    have h' : opdo e r (fun vr => k (Instr.makeMap t vr)) := h
    exact ⟨by simp, _, hE.evalo h', fun w v w' hr => run_v hr⟩
  | makeSlice t l c => exact ⟨by simp, _, hE.eval (hE.eval h), fun w v w' hr => run_v hr⟩
  | slice t x lo hi mx => exact ⟨by simp, _, hE.evalo (hE.evalo (hE.evalo (hE.eval h))), fun w v w' hr => run_v hr⟩
  | fieldAddr s x f => exact ⟨by simp, _, hE.eval h, fun w v w' hr => run_v hr⟩
  | field s x f => exact ⟨by simp, _, hE.eval h, fun w v w' hr => run_v hr⟩
  | indexAddr t x i => exact ⟨by simp, _, hE.eval (hE.eval h), fun w v w' hr => run_v hr⟩
  | index t x i => exact ⟨by simp, _, hE.eval (hE.eval h), fun w v w' hr => run_v hr⟩
  | lookup t x i ok => exact ⟨by simp, _, hE.eval (hE.eval h), fun w v w' hr => run_v hr⟩
  | mapEntry t m i => exact ⟨by simp, _, hE.eval (hE.eval h), fun w v w' hr => run_v hr⟩
  | range t x => exact ⟨by simp, _, hE.eval h, fun w v w' hr => run_v hr⟩
  | next it s => exact ⟨by simp, _, hE.eval h, fun w v w' hr => run_v hr⟩
  | entry it => exact ⟨by simp, _, hE.eval h, fun w v w' hr => run_v hr⟩
  | typeAssert x t asserted ok => exact ⟨by simp, _, hE.eval h, fun w v w' hr => run_v hr⟩
  | extract t i => exact ⟨by simp, _, hE.eval h, fun w v w' hr => run_v hr⟩
  | call c =>
    obtain ⟨callee, args, argTypes⟩ := c
    cases callee with
    | value f => exact h.elim
    | invoke r name => exact h.elim
    | builtin b =>
      refine ⟨by simp, ?_⟩
      have h0 := hE.evals h
      clear h
      have fin : ∀ (m : Sem Value), (∀ cs : Array Bool, builtin b argTypes type cs (args.map a.eval) = (do pure (Next.value (← m)))) → k m →
          ∃ m, k m ∧ ∀ w v w', m.run P w = .ok v w' → (execOp a.eval (⟨dst, .call ⟨.builtin b, args, argTypes⟩, type, pos, after, guard⟩ : Oper)).run P w = .ok (.value v) w' := by
        intro m hm hkm
        refine ⟨m, hkm, fun w v w' hr => ?_⟩
        simp only [execOp, resolve, invoke, Sem.run_bind, Sem.run_pure, Result.andThen, hm, hr]
      cases b with
      | append => exact fin _ (fun _ => rfl) (toArray_map_toList a.eval args ▸ h0)
      | len => exact fin _ (fun _ => rfl) (toArray_map_toList a.eval args ▸ h0)
      | cap => exact fin _ (fun _ => rfl) (toArray_map_toList a.eval args ▸ h0)
      | copy => exact fin _ (fun _ => rfl) (toArray_map_toList a.eval args ▸ h0)
      | min => exact fin _ (fun _ => rfl) (toArray_map_toList a.eval args ▸ h0)
      | max => exact fin _ (fun _ => rfl) (toArray_map_toList a.eval args ▸ h0)
      | clear => exact fin _ (fun _ => rfl) (toArray_map_toList a.eval args ▸ h0)
      | delete => exact fin _ (fun _ => rfl) (toArray_map_toList a.eval args ▸ h0)
      | unsafeSliceData => exact fin _ (fun _ => rfl) (toArray_map_toList a.eval args ▸ h0)
      | unsafeString => exact fin _ (fun _ => rfl) (toArray_map_toList a.eval args ▸ h0)
      | _ => exact h0.elim
  | _ => exact h.elim

/-- an operation whose value is at hand -/
theorem pureOp_sound {e : Env} {ds : List Nat} {a : Act} (hE : Ext nt e ds a) {o : Oper} {k : Value → Option Kb → Prop} {r : Prop} (h : pureOp e o.op k r) :
    (∃ v kb, (∀ b, kb = some b → v = Kb.val b) ∧ k v kb ∧ (∀ c, o.op ≠ .defer c) ∧ ∀ w, (execOp a.eval o).run P w = .ok (.value v) w) ∨ r := by
  obtain ⟨dst, op, type, pos, after, guard⟩ := o
  cases op with
  | move x => obtain ⟨kb, h1, h2⟩ := hE.evalk h; exact .inl ⟨_, kb, h1, h2, by simp, fun w => by simp [execOp]⟩
  | assign x => obtain ⟨kb, h1, h2⟩ := hE.evalk h; exact .inl ⟨_, kb, h1, h2, by simp, fun w => by simp [execOp]⟩
  | pick c x y =>
    left
    have h' : opdk e c (fun vc kc => match kc with | some (.bl t) => bif t then opdk e x k else opdk e y k | some .sk => False | none => opd e x fun va => opd e y fun vb => Pick vc va vb fun v => k v none) := h
    obtain ⟨kc, h1, h2⟩ := hE.evalk h'
    cases kc with
    | none =>
      obtain ⟨t, ht, h3⟩ := hE.eval (hE.eval h2)
      refine ⟨if t then a.eval x else a.eval y, none, by simp, ?_, by simp, fun w => ?_⟩
      · cases t <;> exact h3
      · simp [execOp, ht, asBool, Sem.run_bind, Sem.run_pure, Result.andThen]
    | some t =>
      have ht := h1 t rfl
      cases t with
      | sk => exact h2.elim
      | bl t =>
      cases t with
      | true =>
        replace ht : a.eval c = .bool true := ht
        obtain ⟨kb, h4, h5⟩ := hE.evalk (x := x) h2
        exact ⟨_, kb, h4, h5, by simp, fun w => by simp [execOp, ht, asBool, Sem.run_bind, Sem.run_pure, Result.andThen]⟩
      | false =>
        replace ht : a.eval c = .bool false := ht
        obtain ⟨kb, h4, h5⟩ := hE.evalk (x := y) h2
        exact ⟨_, kb, h4, h5, by simp, fun w => by simp [execOp, ht, asBool, Sem.run_bind, Sem.run_pure, Result.andThen]⟩
  | _ => exact .inr h

theorem denOp_sound (hent : ∀ g, memN g ent = true → Enters P g) {e : Env} {ds : List Nat} {a : Act} (hE : Ext nt e ds a) {o : Oper} {w : World} {k : Value → Option Kb → World → Prop}
    {next : Act → World → Prop} {Q : Exit → Act → World → Prop} (h : denOp P ent e o.op o.type w k)
    (hk : ∀ v kb w', (∀ b, kb = some b → v = Kb.val b) → k v kb w' → next (a.put o.dst v) w') : o.wpIn (FW ro) n P a w next Q := by
  have hnb : ∀ v : Value, ∀ b, (none : Option Kb) = some b → v = Kb.val b := fun v b hb => by cases hb
  rcases pureOp_sound (P := P) hE h with ⟨v, kb, h1, h2, h3, h4⟩ | h
  · exact wpIn_value h3 (h4 w) (hk _ _ _ h1 h2)
  have viaSem : (semOp e o.op o.type fun m =>
      match cls o.op with
      | 0 => RunA P m fun v => k v none w
      | 1 => RunW P m w fun v => k v none w
      | _ => RunV P m w fun v w' => k v none w') → o.wpIn (FW ro) n P a w next Q := by
    intro h
    obtain ⟨h3, m, hm, hrun⟩ := semOp_sound (P := P) hE h
    split at hm
    · obtain ⟨v, h5, h6⟩ := hm; exact wpIn_value h3 (hrun _ _ _ (h5 w)) (hk _ _ _ (hnb v) h6)
    · obtain ⟨v, h5, h6⟩ := hm; exact wpIn_value h3 (hrun _ _ _ h5) (hk _ _ _ (hnb v) h6)
    · obtain ⟨v, w', h5, h6⟩ := hm; exact wpIn_value h3 (hrun _ _ _ h5) (hk _ _ _ (hnb v) h6)
  obtain ⟨dst, op, type, pos, after, guard⟩ := o
  cases op with
  | store t x y => obtain ⟨w', h1, h2⟩ := hE.eval (hE.eval h); exact wpIn_unit (by simp) (run_u h1) (hk _ _ _ (hnb _) h2)
  | mapUpdate t m i x => obtain ⟨w', h1, h2⟩ := hE.eval (hE.eval (hE.eval h)); exact wpIn_unit (by simp) (run_u h1) (hk _ _ _ (hnb _) h2)
  | insert t m i x => obtain ⟨w', h1, h2⟩ := hE.eval (hE.eval (hE.eval h)); exact wpIn_unit (by simp) (run_u h1) (hk _ _ _ (hnb _) h2)
  | entryStore t m s x => obtain ⟨w', h1, h2⟩ := hE.eval (hE.eval (hE.eval h)); exact wpIn_unit (by simp) (run_u h1) (hk _ _ _ (hnb _) h2)
  | call c =>
    obtain ⟨callee, args, argTypes⟩ := c
    have dyn : ∀ x, (opd e x fun f => opds e args.toList fun vs => CallV P f vs.toArray w fun v w' => k v none w') → callee = .value x → (⟨dst, .call ⟨callee, args, argTypes⟩, type, pos, after, guard⟩ : Oper).wpIn (FW ro) n P a w next Q := by
      intro x hh hc
      subst hc
      have h1 := hE.evals (hE.eval hh)
      rw [toArray_map_toList] at h1
      refine ⟨fun _ _ => trivial, ?_⟩
      rw [Oper.semAt_eq _ _ _ (by simp)]
      rcases h1 with ⟨g, fs, lb, hf, he, hcall⟩ | ⟨l, hf, hy⟩
      · have hr : (execOp a.eval (⟨dst, .call ⟨.value x, args, argTypes⟩, type, pos, after, guard⟩ : Oper)).run P w = .ok (.enter g (fs ++ (args.map a.eval ++ lb))) w := by
          have he := he (fs ++ (args.map a.eval ++ lb)) w
          simp [execOp, resolve, Deferred.ofValue, hf, invoke, Sem.run_bind, Sem.run_pure, Result.andThen, he]
        rw [hr]
        refine ⟨fun h => by simp [FW, Fence.wide] at h, ?_⟩
        refine callsIn_FW (hcall.mono ?_)
        rintro ed w' ⟨v, rfl, hv⟩
        exact hk _ _ _ (hnb _) hv
      · obtain ⟨fn, tmps, assign, body, hr0, hround⟩ := hy (n - 1)
        have hr : (execOp a.eval (⟨dst, .call ⟨.value x, args, argTypes⟩, type, pos, after, guard⟩ : Oper)).run P w = .ok (.round l fn tmps assign body) w := by
          simp [execOp, resolve, Deferred.ofValue, hf, invoke, Sem.run_bind, Sem.run_pure, Result.andThen, hr0]
        rw [hr]
        refine ⟨fun h => by simp [FW, Fence.wide] at h, ?_⟩
        refine (show RoundIn (FW ro) (n - 1) P l fn tmps assign body w _ from hround).mono ?_
        rintro ed w' ⟨v, rfl, hv⟩
        exact hk _ _ _ (hnb _) hv
    cases callee with
    | builtin b => exact viaSem h
    | invoke recv name => exact viaSem h
    | value x =>
      cases x with
      | func g =>
        have h1 := hE.evals (l := args.toList) h
        rw [toArray_map_toList] at h1
        cases hg : memN g ent with
        | true =>
          rw [hg] at h1
          replace h1 : CallF P g (args.map a.eval) w (fun v w' => k v none w') := h1
          refine ⟨fun _ _ => trivial, ?_⟩
          rw [Oper.semAt_eq _ _ _ (by simp)]
          have hr : (execOp a.eval (⟨dst, .call ⟨.value (.func g), args, argTypes⟩, type, pos, after, guard⟩ : Oper)).run P w = .ok (.enter g (args.map a.eval)) w := by
            have he := hent g hg (args.map a.eval) w
            simp [execOp, resolve, Deferred.ofValue, Act.eval, invoke, Sem.run_bind, Sem.run_pure, Result.andThen, he]
          rw [hr]
          refine ⟨fun h => by simp [FW, Fence.wide] at h, ?_⟩
          refine callsIn_FW (h1.mono ?_)
          rintro ed w' ⟨v, rfl, hv⟩
          exact hk _ _ _ (hnb _) hv
        | false =>
          rw [hg] at h1
          obtain ⟨v, w', h2, h3⟩ := h1
          refine wpIn_value (by simp) (v := v) (w' := w') ?_ (hk _ _ _ (hnb _) h3)
          simp [execOp, resolve, Deferred.ofValue, Act.eval, invoke, Sem.run_bind, Sem.run_pure, Result.andThen, h2]
      | tmp t => exact dyn (.tmp t) h rfl
      | const v => exact dyn (.const v) h rfl
      | global g => exact dyn (.global g) h rfl
  | _ => exact viaSem h

/-! ### regions -/


def wpInL (ro : Option Nat) (n : Nat) (P : Program) (all : Array Oper) (Q : Exit → Act → World → Prop) : List Oper → Act → World → Prop
  | [], a, w => Q .normal a w
  | o :: r, a, w => if Region.wanted o (yielded all a.tmps) then o.wpIn (FW ro) n P a w (wpInL ro n P all Q r) Q else wpInL ro n P all Q r (a.put o.dst undef) w

theorem wpOpsIn_of_L {all : Array Oper} {Q : Exit → Act → World → Prop} : ∀ (l : List Oper) (k : Nat), (∀ j, l[j]? = all[k + j]?) → ∀ a w, wpInL ro n P all Q l a w → wpOpsIn (FW ro) n P all Q (List.range' k l.length) a w
  | [], k, _, a, w, h => h
  | o :: r, k, hl, a, w, h => by
    have h0 : all[k]? = some o := by simpa using (hl 0).symm
    have ih := wpOpsIn_of_L (all := all) (Q := Q) r (k + 1) (fun j => by have := hl (j + 1); simpa [Nat.add_assoc, Nat.add_comm 1 j] using this)
    simp only [List.length_cons, List.range'_succ, wpOpsIn, h0]
    simp only [wpInL] at h
    split at h
    · rename_i hw
      rw [if_pos hw]
      exact Oper.wpIn_mono ih h
    · rename_i hw
      rw [if_neg hw]
      exact ⟨fun _ _ => trivial, ih _ _ h⟩

def liftL (nt : Nat) (ds : List Nat) (K : Env → World → Prop) : Exit → Act → World → Prop
  | .normal, a, w => ∃ e, Ext nt e ds a ∧ K e w
  | _, _, _ => False

theorem nthO_eq : ∀ (l : List Oper) (j : Nat), nthO l j = l[j]?
  | [], j => by simp [nthO]
  | o :: l, 0 => by simp [nthO]
  | o :: l, j + 1 => by simp [nthO, nthO_eq l j]

theorem dstAt_eq {all : Array Oper} {j : Nat} {s : Nat} (h : dstAt all.toList j = some s) : (all[j]?).bind (·.dst) = some s := by
  unfold dstAt at h
  rw [nthO_eq] at h
  split at h
  · rename_i o ho
    rw [Array.getElem?_toList] at ho
    rw [ho]; exact h
  · cases h

theorem beqB_iff (a b : Bool) : beqB a b = true ↔ a = b := by cases a <;> cases b <;> decide

/-- the guard's slot is known: what the machine makes of it -/
theorem wanted_of {all : Array Oper} {o : Oper} {j : Nat} {want b : Bool} {s : Nat} {a : Act} (hg : o.guard = some (j, want)) (hs : (all[j]?).bind (·.dst) = some s)
    (hv : a.tmps[s]? = some (.bool b)) : Region.wanted o (yielded all a.tmps) = beqB want b := by
  cases want <;> cases b <;> simp [Region.wanted, hg, yielded, hs, hv, beqB]

theorem wanted_sk {all : Array Oper} {o : Oper} {j : Nat} {want : Bool} {s : Nat} {a : Act} (hg : o.guard = some (j, want)) (hs : (all[j]?).bind (·.dst) = some s)
    (hv : a.tmps[s]? = some undef) : Region.wanted o (yielded all a.tmps) = false := by
  cases want <;> simp [Region.wanted, hg, yielded, hs, hv, undef]

theorem guarded_sound {all : Array Oper} {o : Oper} {e : Env} {ds : List Nat} {a : Act} (hE : Ext nt e ds a) {yes no : Env → Prop} (h : guarded all.toList o.guard e yes no) :
    (Region.wanted o (yielded all a.tmps) = true ∧ ∃ e', Ext nt e' ds a ∧ yes e') ∨ (Region.wanted o (yielded all a.tmps) = false ∧ ∃ e', Ext nt e' ds a ∧ no e') := by
  cases hg : o.guard with
  | none => rw [hg] at h; exact .inl ⟨by simp [Region.wanted, hg], e, hE, h⟩
  | some p =>
    obtain ⟨j, want⟩ := p
    rw [hg] at h
    simp only [guarded] at h
    split at h
    · exact h.elim
    · rename_i s hs
      have hs' := dstAt_eq hs
      split at h
      · exact h.elim
      · rename_i v kb hget
        have h1 := hE.get s _ hget
        split at h
        · rename_i b
          have hv : a.tmps[s]? = some (.bool b) := by rw [h1.2.1]; exact congrArg some (h1.2.2 (.bl b) rfl)
          have hw := wanted_of hg hs' hv
          cases hb : beqB want b with
          | true => rw [hb] at h hw; exact .inl ⟨hw, e, hE, h⟩
          | false => rw [hb] at h hw; exact .inr ⟨hw, e, hE, h⟩
        · have hv : a.tmps[s]? = some undef := by rw [h1.2.1]; exact congrArg some (h1.2.2 .sk rfl)
          exact .inr ⟨wanted_sk hg hs' hv, e, hE, h⟩
        · obtain ⟨t, ht, h2, h3⟩ := h
          have hv : a.tmps[s]? = some (.bool t) := by rw [h1.2.1]; exact congrArg some ht
          have hw := wanted_of hg hs' hv
          have hk := hE.know hget (b := t) ht
          cases t with
          | true =>
            have h4 := h2 rfl
            cases want with
            | true => exact .inl ⟨hw, _, hk, h4⟩
            | false => exact .inr ⟨hw, _, hk, h4⟩
          | false =>
            have h4 := h3 rfl
            cases want with
            | true => exact .inr ⟨hw, _, hk, h4⟩
            | false => exact .inl ⟨hw, _, hk, h4⟩

theorem denL_sound (hent : ∀ g, memN g ent = true → Enters P g) {all : Array Oper} {ds : List Nat} {K : Env → World → Prop} :
    ∀ (l : List Oper) (e : Env) (a : Act) (w : World), Ext nt e ds a → denL P nt ent all.toList l e w K → wpInL ro n P all (liftL nt ds K) l a w
  | [], e, a, w, hE, h => ⟨e, hE, h⟩
  | o :: l, e, a, w, hE, h => by
    simp only [denL] at h
    cases hb : dstOk nt o.dst with
    | false => rw [hb] at h; exact h.elim
    | true =>
      rw [hb] at h
      replace h : guarded all.toList o.guard e (fun e => denOp P ent e o.op o.type w (fun v kb w' => denL P nt ent all.toList l (e.put o.dst v kb) w' K))
        (fun e => denL P nt ent all.toList l (e.put o.dst undef (some .sk)) w K) := h
      rcases guarded_sound hE h with ⟨hw, e', hE', h'⟩ | ⟨hw, e', hE', h'⟩
      · simp only [wpInL]
        rw [if_pos hw]
        exact denOp_sound hent hE' h' fun v kb w' hkb hv => denL_sound hent l _ _ _ (hE'.put hb v kb hkb) hv
      · simp only [wpInL]
        rw [if_neg (by simp [hw])]
        exact denL_sound hent l _ _ _ (hE'.put hb undef (some .sk) (fun _ h => by cases h; rfl)) h'

/-! ### a region that draws its order: the kit's law on what may be taken first (Derived/OrdersHeld), in whatever frame -/
section draws
variable {ops : Array Oper} {Q : Exit → Act → World → Prop} {S : World → Prop} {qs : List Nat}

theorem YieldsIf.wpOpIn {i : Nat} {o : Oper} {v : Value} {a : Act} (hi : ops[i]? = some o) (hnd : ∀ c, o.op ≠ .defer c) (hy : YieldsIf P ops S o v a)
    {K : Act → World → Prop} {w : World} (hS : S w) (h : K (a.put o.dst v) w) : wpOpIn (FW ro) n P ops Q i K a w := by
  unfold Go.wpOpIn
  simp only [hi]
  rcases hy with ⟨hw, hv⟩ | ⟨hw, rfl⟩
  · simp only [hw, if_true]; exact wpIn_value hnd (hv w hS) h
  · simp only [hw, Bool.false_eq_true, if_false]; exact ⟨fun _ _ => trivial, h⟩

theorem wpOpIn_putIf {j : Nat} {oi oj : Oper} {v : Value} (hj : ops[j]? = some oj) (hap : oi.apart ops oj = true)
    (hsi : ∀ cs b, oi.op ≠ .select cs b) (hsj : ∀ cs b, oj.op ≠ .select cs b) (hdj : ∀ c, oj.op ≠ .defer c)
    (hQ : ∀ c a w, ¬ Q (.panic c) a w) {K : Act → World → Prop} {a : Act} {w : World}
    (hy : YieldsIf P ops S oi v a) (h : wpOpIn (FW ro) n P ops Q j K (a.put oi.dst v) w) :
    wpOpIn (FW ro) n P ops Q j (fun a' w' => YieldsIf P ops S oi v a' ∧ K (a'.put oi.dst v) w') a w := by
  obtain ⟨h1, h2, h3⟩ := Oper.apart_spec hap
  have keep : ∀ (a : Act), YieldsIf P ops S oi v a → ∀ u, YieldsIf P ops S oi v (a.put oj.dst u) := fun a hy u =>
    hy.of_same (execOp_put oi hsi a oj.dst u h3) (wanted_put oi a oj.dst u h3)
  unfold Go.wpOpIn at *
  simp only [hj] at *
  rw [wanted_put oj a oi.dst v h1] at h
  split
  · rename_i hw
    simp only [hw, if_true] at h
    unfold Oper.wpIn at *
    refine ⟨fun _ _ => trivial, ?_⟩
    replace h := h.2
    rw [Oper.semAt_eq _ _ _ hdj] at h ⊢
    rw [execOp_put oj hsj a oi.dst v h1] at h
    generalize (execOp a.eval oj).run P w = r at *
    cases r with
    | ok n w' =>
      cases n <;> simp only [Oper.uponIn] at h ⊢
      case value u => exact ⟨keep a hy u, by rw [← Act.put_comm a v u h2]; exact h⟩
      case skip => exact ⟨keep a hy _, by rw [← Act.put_comm a v undef h2]; exact h⟩
      case defer d =>
        refine ⟨(keep _ (hy.of_same (a' := { a with defers := d :: a.defers }) rfl rfl)) _, ?_⟩
        rw [← Act.put_comm _ v undef h2, ← Act.put_defers]
        exact h
      case enter f args =>
        refine ⟨h.1, h.2.mono fun e w'' he => ?_⟩
        cases e with
        | returned u => exact ⟨keep a hy u, by rw [← Act.put_comm a v u h2]; exact he⟩
        | panicked c => exact absurd he (hQ _ _ _)
        | outgrown => exact he
      case row row args => exact ⟨h.1, h.2.mono fun u w'' he => ⟨keep a hy u, by rw [← Act.put_comm a v u h2]; exact he⟩⟩
      case round l f tmps assign body =>
        refine ⟨h.1, h.2.mono fun e w'' he => ?_⟩
        cases e with
        | returned u => exact ⟨keep a hy u, by rw [← Act.put_comm a v u h2]; exact he⟩
        | panicked c => exact absurd he (hQ _ _ _)
        | outgrown => exact he
    | halt x w' =>
      cases x <;> simp only [Oper.uponIn] at h ⊢
      case panic u => exact absurd h (hQ _ _ _)
  · rename_i hw
    simp only [hw] at h
    exact ⟨fun _ _ => trivial, keep a hy _, by rw [← Act.put_comm a v undef h2]; exact h.2⟩

theorem anyN_iff {p : Nat → Bool} : ∀ {l : List Nat}, anyN p l = true ↔ ∃ x ∈ l, p x = true
  | [] => by simp [anyN]
  | a :: l => by
    simp only [anyN]
    cases h : p a
    · simp [h, anyN_iff (p := p) (l := l)]
    · simp [h]
theorem allN_iff {p : Nat → Bool} : ∀ {l : List Nat}, allN p l = true ↔ ∀ x ∈ l, p x = true
  | [] => by simp [allN]
  | a :: l => by
    simp only [allN]
    cases h : p a
    · simp [h]
    · simp [h, allN_iff (p := p) (l := l)]

/-- what has come has come behind what it waits for -/
def closedL (ops : Array Oper) (listed : Array Bool) : Prop := ∀ d od, ops[d]? = some od → listed.getD d false = true → ∀ e ∈ od.after, Region.binds .any e = true → listed.getD e.on false = true

theorem getD_set_mono {listed : Array Bool} {i j : Nat} (h : listed.getD j false = true) : (listed.setIfInBounds i true).getD j false = true := by
  rw [Array.getD_eq_getD_getElem?] at h ⊢
  rw [Array.getElem?_setIfInBounds]
  split
  · rename_i e; subst e
    split
    · rfl
    · rename_i hs; rw [Array.getElem?_eq_none (by omega)] at h; exact h
  · exact h
theorem getD_set_other {listed : Array Bool} {i j : Nat} (hne : i ≠ j) : (listed.setIfInBounds i true).getD j false = listed.getD j false := by
  rw [Array.getD_eq_getD_getElem?, Array.getElem?_setIfInBounds, if_neg hne, ← Array.getD_eq_getD_getElem?]

theorem closedL.set {listed : Array Bool} {j : Nat} (h : closedL ops listed) (hj : j ∈ Region.ready .any ops listed) : closedL ops (listed.setIfInBounds j true) := by
  intro d od ho hd e he hb
  by_cases hdj : j = d
  · subst hdj
    obtain ⟨_, o, ho2, hall⟩ := mem_ready.1 hj
    rw [ho] at ho2; cases ho2
    exact getD_set_mono (hall e he hb)
  · rw [getD_set_other hdj] at hd
    exact getD_set_mono (h d od ho hd e he hb)

theorem closedL.waitsN {listed : Array Bool} (h : closedL ops listed) {d i : Nat} (hd : listed.getD d false = true) (hw : waitsN ops d i = true) : listed.getD i false = true := by
  unfold Go.Ez.waitsN at hw
  split at hw
  · cases hw
  · rename_i o ho
    rw [nthO_eq, Array.getElem?_toList] at ho
    obtain ⟨e, he, hb⟩ := Array.any_eq_true'.1 hw
    simp only [Bool.and_eq_true] at hb
    have := h d o ho hd e he hb.1
    rwa [Nat.eq_of_beq_eq_true hb.2] at this
theorem closedL.waitsT {listed : Array Bool} (h : closedL ops listed) : ∀ (f : Nat) {d i : Nat}, listed.getD d false = true → waitsT ops qs f d i = true → listed.getD i false = true
  | 0, _, _, hd, hw => h.waitsN hd hw
  | f + 1, d, i, hd, hw => by
    simp only [Go.Ez.waitsT, Bool.or_eq_true] at hw
    rcases hw with hw | hw
    · exact h.waitsN hd hw
    · obtain ⟨m, _, hm⟩ := anyN_iff.1 hw
      simp only [Bool.and_eq_true] at hm
      exact closedL.waitsT h f (h.waitsN hd hm.1) hm.2

theorem doneB_spec {listed : Array Bool} (h : closedL ops listed) (hd : doneB ops qs listed = true) {i : Nat} (hi : i ∈ qs) (hn : needAt ops i = true) : listed.getD i false = true := by
  have := allN_iff.1 hd i hi
  rw [hn] at this
  simp only [Bool.not_true, Bool.false_or] at this
  obtain ⟨d, _, h1⟩ := anyN_iff.1 this
  simp only [Bool.and_eq_true] at h1
  exact h.waitsT 4 h1.2.1 h1.2.2.2
theorem doneB_mono {listed : Array Bool} {i : Nat} (hd : doneB ops qs listed = true) : doneB ops qs (listed.setIfInBounds i true) = true := by
  refine allN_iff.2 fun k hk => ?_
  have h0 := allN_iff.1 hd k hk
  simp only [Bool.or_eq_true] at h0 ⊢
  refine h0.imp id fun h0 => ?_
  obtain ⟨d, hd1, h1⟩ := anyN_iff.1 h0
  simp only [Bool.and_eq_true] at h1
  exact anyN_iff.2 ⟨d, hd1, by simp only [Bool.and_eq_true]; exact ⟨h1.1, getD_set_mono h1.2.1, h1.2.2⟩⟩
theorem doneB_set {listed : Array Bool} {i : Nat} (hi : i ∈ qs) (hd : doneB ops qs (listed.setIfInBounds i true) = true) : doneB ops qs listed = true := by
  refine allN_iff.2 fun k hk => ?_
  have h0 := allN_iff.1 hd k hk
  simp only [Bool.or_eq_true] at h0 ⊢
  refine h0.imp id fun h0 => ?_
  obtain ⟨d, hd1, h1⟩ := anyN_iff.1 h0
  simp only [Bool.and_eq_true] at h1
  have hne : i ≠ d := fun e => by
    subst e
    have := (memN_iff i qs).2 hi
    rw [this] at h1
    exact absurd h1.2.2.1 (by simp)
  have hl : listed.getD d false = true := by rw [← getD_set_other hne]; exact h1.2.1
  exact anyN_iff.2 ⟨d, hd1, by simp only [Bool.and_eq_true]; exact ⟨h1.1, hl, h1.2.2⟩⟩

def heldT (ops : Array Oper) (qs : List Nat) (S : World → Prop) (listed : Array Bool) (w : World) : Prop := doneB ops qs listed = false → S w
theorem heldT_of_hld {listed : Array Bool} {w : World} {p : Prop} (h : hld ops qs S listed w p) : heldT ops qs S listed w ∧ p := by
  unfold hld at h
  unfold heldT
  cases hd : doneB ops qs listed with
  | true => rw [hd] at h; exact ⟨(fun hf => by cases hf), h⟩
  | false => rw [hd] at h; exact ⟨fun _ => h.1, h.2⟩

def wpAnyHI (ro : Option Nat) (n : Nat) (P : Program) (ops : Array Oper) (Q : Exit → Act → World → Prop) (qs : List Nat) (S : World → Prop) : Nat → Array Bool → Act → World → Prop
  | 0, listed, a, w => Region.ready .any ops listed = [] ∧ Q .normal a w
  | fuel + 1, listed, a, w =>
    (Region.ready .any ops listed = [] → Q .normal a w) ∧
    ∀ i ∈ Region.ready .any ops listed, wpOpIn (FW ro) n P ops Q i (fun a' w' => heldT ops qs S (listed.setIfInBounds i true) w' ∧ wpAnyHI ro n P ops Q qs S fuel (listed.setIfInBounds i true) a' w') a w

theorem wpAnyIn_of_held : ∀ (fuel : Nat) (listed : Array Bool) (a : Act) (w : World), wpAnyHI ro n P ops Q qs S fuel listed a w → wpAnyIn (FW ro) n P .any ops Q fuel listed a w
  | 0, _, _, _, h => h
  | fuel + 1, _, _, _, h => ⟨h.1, fun i hi => wpOpIn_mono (fun a' w' h' => wpAnyIn_of_held fuel _ a' w' h'.2) (h.2 i hi)⟩

theorem wpAnyHI_first {Sy : World → Prop} {i : Nat} {oi : Oper} {v : Value} (hi : ops[i]? = some oi) (hiq : i ∈ qs) (hSy : (∀ w, Sy w) ∨ (needAt ops i = true ∧ ∀ w, S w → Sy w)) (hsel : ∀ (j : Nat) (o : Oper) cs b, ops[j]? = some o → o.op ≠ .select cs b)
    (hdef : ∀ (j : Nat) (o : Oper) c, ops[j]? = some o → o.op ≠ .defer c) (hQ : ∀ c a w, ¬ Q (.panic c) a w) :
    ∀ (fuel : Nat) (listed : Array Bool) (a : Act) (w : World), closedL ops listed →
      (∀ j oj, ops[j]? = some oj → j ≠ i → listed.getD j true = false → (∀ e ∈ oj.after, Region.binds .any e = true → e.on ≠ i) → oi.apart ops oj = true) →
      i ∈ Region.ready .any ops listed → YieldsIf P ops Sy oi v a → heldT ops qs S listed w →
      wpAnyHI ro n P ops Q qs S fuel (listed.setIfInBounds i true) (a.put oi.dst v) w → wpAnyHI ro n P ops Q qs S (fuel + 1) listed a w := by
  have sure : ∀ (listed : Array Bool) (w : World), closedL ops listed → i ∈ Region.ready .any ops listed → heldT ops qs S listed w → Sy w := by
    intro listed w hc hr hT
    rcases hSy with hSy | ⟨hneed, hSy⟩
    · exact hSy w
    refine hSy w (hT ?_)
    cases hd : doneB ops qs listed with
    | false => rfl
    | true =>
      have h1 := doneB_spec hc hd hiq hneed
      have h0 := (mem_ready.1 hr).1
      rw [Array.getD_eq_getD_getElem?] at h0 h1
      cases hx : listed[i]? with
      | none => rw [hx] at h1; cases h1
      | some b => rw [hx] at h0 h1; simp only [Option.getD_some] at h0 h1; rw [h0] at h1; cases h1
  have heldI : ∀ {listed : Array Bool} {w : World}, heldT ops qs S listed w → heldT ops qs S (listed.setIfInBounds i true) w := by
    intro listed w hT hd
    refine hT ?_
    cases hx : doneB ops qs listed with
    | false => rfl
    | true => rw [doneB_mono hx] at hd; cases hd
  intro fuel
  induction fuel with
  | zero =>
    intro listed a w hcl _ hr hy hT H
    have hS := sure _ _ hcl hr hT
    refine ⟨fun h => (by rw [h] at hr; cases hr), fun j hj => ?_⟩
    by_cases hji : j = i
    · subst hji; exact YieldsIf.wpOpIn hi (fun c => hdef j oi c hi) hy hS ⟨heldI hT, H⟩
    · have := ready_mono hj hji
      rw [H.1] at this
      cases this
  | succ fuel ih =>
    intro listed a w hcl hfree hr hy hT H
    have hS := sure _ _ hcl hr hT
    refine ⟨fun h => (by rw [h] at hr; cases hr), fun j hj => ?_⟩
    by_cases hji : j = i
    · subst hji; exact YieldsIf.wpOpIn hi (fun c => hdef j oi c hi) hy hS ⟨heldI hT, H⟩
    · have h1 := H.2 j (ready_mono hj hji)
      obtain ⟨hjun, oj, hoj, hall⟩ := mem_ready.1 hj
      have hnot : ∀ e ∈ oj.after, Region.binds .any e = true → e.on ≠ i := fun e he hb heq => by
        have h1 := hall e he hb
        have h0 := (mem_ready.1 hr).1
        rw [heq] at h1
        rcases Nat.lt_or_ge i listed.size with h' | h'
        · simp [h'] at h0 h1; rw [h0] at h1; cases h1
        · simp [Array.getElem?_eq_none h'] at h1
      have h2 := wpOpIn_putIf hoj (hfree j oj hoj hji hjun hnot) (fun cs b => hsel i oi cs b hi) (fun cs b => hsel j oj cs b hoj) (fun c => hdef j oj c hoj) hQ hy h1
      have hfree' : ∀ k ok, ops[k]? = some ok → k ≠ i → (listed.setIfInBounds j true).getD k true = false →
          (∀ e ∈ ok.after, Region.binds .any e = true → e.on ≠ i) → oi.apart ops ok = true := fun k ok hk hki hun hno => by
        refine hfree k ok hk hki ?_ hno
        by_cases hjk : j = k
        · subst hjk; exact hjun
        · rw [getD_set_ne true hjk] at hun; exact hun
      have heldJ : ∀ {w' : World}, heldT ops qs S ((listed.setIfInBounds i true).setIfInBounds j true) w' → heldT ops qs S (listed.setIfInBounds j true) w' := by
        intro w' hT' hd
        refine hT' ?_
        rw [Array.setIfInBounds_comm _ _ (Ne.symm hji)]
        cases hx : doneB ops qs ((listed.setIfInBounds j true).setIfInBounds i true) with
        | false => rfl
        | true => rw [doneB_set hiq hx] at hd; cases hd
      refine wpOpIn_mono (fun a' w' h3 => ⟨heldJ h3.2.1, ih (listed.setIfInBounds j true) a' w' (hcl.set hj) hfree' (ready_mono hr (Ne.symm hji)) h3.1 (heldJ h3.2.1) ?_⟩) h2
      rw [Array.setIfInBounds_comm _ _ hji]
      exact h3.2.2

theorem noDefer_spec (h : Region.noDefer ops = true) (j : Nat) (o : Oper) (c : Call) (ho : ops[j]? = some o) : o.op ≠ .defer c := by
  intro heq
  have := Array.all_eq_true_iff_forall_mem.1 h o (Array.mem_of_getElem? ho)
  simp [heq] at this

theorem eqNs_iff : ∀ {l m : List Nat}, eqNs l m = true → l = m
  | [], [], _ => rfl
  | a :: l, b :: m, h => by
    simp only [eqNs, Bool.and_eq_true] at h
    rw [Nat.eq_of_beq_eq_true h.1, eqNs_iff h.2]
  | [], _ :: _, h => by simp [eqNs] at h
  | _ :: _, [], h => by simp [eqNs] at h

theorem subNs_iff : ∀ {l m : List Nat}, subNs l m = true → ∀ x ∈ l, x ∈ m
  | [], _, _, x, hx => by simp at hx
  | a :: l, m, h, x, hx => by
    simp only [subNs, Bool.and_eq_true] at h
    simp only [List.mem_cons] at hx
    rcases hx with rfl | hx
    · exact (memN_iff _ _).1 h.1
    · exact subNs_iff h.2 x hx

theorem known_sound {o : Oper} {e : Env} {ds : List Nat} {a : Act} (hE : Ext nt e ds a) {yes no : Prop} (h : known ops.toList o.guard e yes no) :
    (Region.wanted o (yielded ops a.tmps) = true ∧ yes) ∨ (Region.wanted o (yielded ops a.tmps) = false ∧ no) := by
  cases hg : o.guard with
  | none => rw [hg] at h; exact .inl ⟨by simp [Region.wanted, hg], h⟩
  | some p =>
    obtain ⟨j, want⟩ := p
    rw [hg] at h
    simp only [known] at h
    split at h
    · exact h.elim
    · rename_i s hs
      have hs' := dstAt_eq hs
      split at h
      · exact h.elim
      · rename_i v kb hget
        have h1 := hE.get s _ hget
        split at h
        · rename_i b
          have hv : a.tmps[s]? = some (.bool b) := by rw [h1.2.1]; exact congrArg some (h1.2.2 (.bl b) rfl)
          have hw := wanted_of hg hs' hv
          cases hb : beqB want b with
          | true => rw [hb] at h hw; exact .inl ⟨hw, h⟩
          | false => rw [hb] at h hw; exact .inr ⟨hw, h⟩
        · have hv : a.tmps[s]? = some undef := by rw [h1.2.1]; exact congrArg some (h1.2.2 .sk rfl)
          exact .inr ⟨wanted_sk hg hs' hv, h⟩
        · exact h.elim

theorem pureOp_need {op : Op} {e : Env} {k : Value → Option Kb → Prop} {r : Prop} (hn : needS op = false) (hc : cls op ≠ 0) (h : pureOp e op k r) : pureOp e op k False := by
  unfold needS at hn
  split at hn
  · exact h
  · exact h
  · exact h
  · simp only [Bool.not_eq_false'] at hn
    exact absurd (Nat.eq_of_beq_eq_true hn) hc

theorem denQ_sound {e : Env} {ds : List Nat} {a : Act} (hE : Ext nt e ds a) {o : Oper} {k : Value → Option Kb → Prop} (h : denQ P e S o.op o.type k) :
    ∃ v kb, (∀ b, kb = some b → v = Kb.val b) ∧ k v kb ∧ ∀ w, (needS o.op = true → S w) → (execOp a.eval o).run P w = .ok (.value v) w := by
  by_cases hz : needS o.op = false ∧ cls o.op ≠ 0
  · unfold denQ at h
    rcases pureOp_sound (P := P) hE (pureOp_need hz.1 hz.2 h) with ⟨v, kb, h1, h2, h3, h4⟩ | h
    · exact ⟨v, kb, h1, h2, fun w _ => h4 w⟩
    · exact h.elim
  · rcases pureOp_sound (P := P) hE h with ⟨v, kb, h1, h2, h3, h4⟩ | h
    · exact ⟨v, kb, h1, h2, fun w _ => h4 w⟩
    · obtain ⟨_, m, hm, hrun⟩ := semOp_sound (P := P) hE h
      split at hm
      · obtain ⟨v, h5, h6⟩ := hm; exact ⟨v, none, by simp, h6, fun w _ => hrun _ _ _ (h5 w)⟩
      · rename_i hc
        obtain ⟨v, h5, h6⟩ := hm
        refine ⟨v, none, by simp, h6, fun w hw => hrun _ _ _ (h5 w (hw ?_))⟩
        cases hn : needS o.op with
        | true => rfl
        | false => exact absurd ⟨hn, fun h0 => hc h0⟩ hz

/-- how many have not come yet -/
def left (ops : Array Oper) (listed : Array Bool) : Nat := ((List.range ops.size).filter fun i => !listed.getD i true).length

theorem left_set {listed : Array Bool} {i : Nat} (hi : i ∈ Region.ready .any ops listed) : left ops (listed.setIfInBounds i true) < left ops listed := by
  obtain ⟨h0, o, ho, _⟩ := mem_ready.1 hi
  have hlt : i < ops.size := (Array.getElem?_eq_some_iff.1 ho).1
  unfold left
  have hsub : ∀ (l : List Nat), (l.filter fun k => !(listed.setIfInBounds i true).getD k true).length + (if i ∈ l then 1 else 0) ≤ (l.filter fun k => !listed.getD k true).length := by
    intro l
    induction l with
    | nil => simp
    | cons k l ih =>
      by_cases hk : k = i
      · subst hk
        have hk1 : (listed.setIfInBounds k true).getD k true = true := by
          rw [Array.getD_eq_getD_getElem?, Array.getElem?_setIfInBounds, if_pos rfl]
          by_cases hs : k < listed.size
          · rw [if_pos hs]; rfl
          · rw [if_neg hs]; rfl
        have e1 : ((k :: l).filter fun j => !(listed.setIfInBounds k true).getD j true) = l.filter fun j => !(listed.setIfInBounds k true).getD j true := List.filter_cons_of_neg (by rw [hk1]; simp)
        have e2 : ((k :: l).filter fun j => !listed.getD j true) = k :: l.filter fun j => !listed.getD j true := List.filter_cons_of_pos (by rw [h0]; simp)
        rw [e1, e2, if_pos (by simp), List.length_cons]
        have : (if k ∈ l then 1 else 0) ≥ 0 := Nat.zero_le _
        omega
      · have hk2 : (listed.setIfInBounds i true).getD k true = listed.getD k true := getD_set_ne true (Ne.symm hk)
        have hm : (i ∈ k :: l) ↔ i ∈ l := by simp [Ne.symm hk]
        simp only [List.filter_cons, hk2, hm]
        split <;> (try simp only [List.length_cons]) <;> omega
  have := hsub (List.range ops.size)
  rw [if_pos (List.mem_range.2 hlt)] at this
  omega

theorem wpAnyHI_mono {S S' : World → Prop} (h : ∀ w, S' w → S w) : ∀ (fuel : Nat) (listed : Array Bool) (a : Act) (w : World), wpAnyHI ro n P ops Q qs S' fuel listed a w → wpAnyHI ro n P ops Q qs S fuel listed a w
  | 0, _, _, _, H => H
  | fuel + 1, _, _, _, H => ⟨H.1, fun i hi => wpOpIn_mono (fun a' w' h' => ⟨fun hd => h _ (h'.1 hd), wpAnyHI_mono h fuel _ a' w' h'.2⟩) (H.2 i hi)⟩

theorem denV_sound (hent : ∀ g, memN g ent = true → Enters P g) (hsel : Region.noSelect ops = true) (hdef : Region.noDefer ops = true) {ds : List Nat} {K : Env → World → Prop} :
    ∀ (vs : VS) (S : World → Prop) (acc : List Nat) (listed : Array Bool) (e : Env) (a : Act) (w : World) (fuel : Nat), left ops listed ≤ fuel → closedL ops listed → Ext nt e ds a → heldT ops qs S listed w → denV P nt ent ops qs S vs acc listed e w K →
      (acc = [] → wpAnyHI ro n P ops (liftL nt ds K) qs S fuel listed a w) ∧
      (acc ≠ [] → ∀ i ∈ Region.ready .any ops listed, i ∉ acc → ∃ f, fuel = f + 1 ∧ wpOpIn (FW ro) n P ops (liftL nt ds K) i (fun a' w' => heldT ops qs S (listed.setIfInBounds i true) w' ∧ wpAnyHI ro n P ops (liftL nt ds K) qs S f (listed.setIfInBounds i true) a' w') a w) := by
  have hQ : ∀ c a w, ¬ (liftL nt ds K) (.panic c) a w := fun _ _ _ h => h
  have fuelPos : ∀ {listed : Array Bool} {i : Nat} {fuel : Nat}, i ∈ Region.ready .any ops listed → left ops listed ≤ fuel → ∃ f, fuel = f + 1 ∧ left ops (listed.setIfInBounds i true) ≤ f := by
    intro listed i fuel hi hf
    have := left_set hi
    exact ⟨fuel - 1, by omega, by omega⟩
  intro vs
  induction vs with
  | q i r ih =>
    intro S acc listed e a w fuel hf hcl hE hS h
    simp only [denV, told_eq, Array.toArray_toList] at h
    split at h
    · exact h.elim
    · rename_i o ho
      rw [nthO_eq, Array.getElem?_toList] at ho
      cases hb : (dstOk nt o.dst && (memN i qs && (Region.free .any ops listed i && (Region.ready .any ops listed).contains i))) with
      | false => rw [hb] at h; exact h.elim
      | true =>
        rw [hb] at h
        simp only [Bool.and_eq_true] at hb
        obtain ⟨hd, hiq, hfree, hr⟩ := hb
        rw [memN_iff] at hiq
        have hSy : (∀ w, (fun w => needS o.op = true → S w) w) ∨ (needAt ops i = true ∧ ∀ w, S w → (fun w => needS o.op = true → S w) w) := by
          cases hn : needS o.op with
          | false => exact .inl fun w h => by cases h
          | true => exact .inr ⟨by unfold needAt; rw [nthO_eq, Array.getElem?_toList, ho]; exact hn, fun w hw _ => hw⟩
        have hSi : ∀ {w : World}, heldT ops qs S listed w → heldT ops qs S (listed.setIfInBounds i true) w := fun hT hx => hT (by
          cases hy : doneB ops qs listed with
          | false => rfl
          | true => rw [doneB_mono hy] at hx; cases hx)
        have hr' : i ∈ Region.ready .any ops listed := by simpa using hr
        obtain ⟨f, rfl, hf'⟩ := fuelPos hr' hf
        have main : wpAnyHI ro n P ops (liftL nt ds K) qs S (f + 1) listed a w := by
          rcases known_sound hE h with ⟨hw, h'⟩ | ⟨hw, h'⟩
          · obtain ⟨v, kb, h1, h2, h3⟩ := denQ_sound hE h'
            exact wpAnyHI_first (Sy := fun w => needS o.op = true → S w) ho hiq hSy (Region.noSelect_spec hsel) (noDefer_spec hdef) hQ f listed a w hcl (Region.free_spec ho hfree) hr' (.inl ⟨hw, h3⟩) hS
              ((ih _ [] _ _ _ w f hf' (hcl.set hr') (hE.put hd v kb h1) (hSi hS) h2).1 rfl)
          · exact wpAnyHI_first (Sy := fun w => needS o.op = true → S w) ho hiq hSy (Region.noSelect_spec hsel) (noDefer_spec hdef) hQ f listed a w hcl (Region.free_spec ho hfree) hr' (.inr ⟨hw, rfl⟩) hS
              ((ih _ [] _ _ _ w f hf' (hcl.set hr') (hE.put hd undef (some .sk) (fun _ h => by cases h; rfl)) (hSi hS) h').1 rfl)
        exact ⟨fun _ => main, fun _ j hj _ => ⟨f, rfl, main.2 j hj⟩⟩
  | sp i t f iht ihf =>
    intro S acc listed e a w fuel hfu hcl hE hS h
    simp only [denV, told_eq, Array.toArray_toList] at h
    split at h
    · exact h.elim
    · rename_i o ho
      unfold splitG at h
      split at h
      · exact h.elim
      · split at h
        · exact h.elim
        · rename_i s hs
          split at h
          · exact h.elim
          · rename_i v kb hget
            obtain ⟨b, hb, h1, h2⟩ := h
            have hk := hE.know hget (b := b) hb
            cases b with
            | true => exact iht _ acc listed _ a w fuel hfu hcl hk hS (h1 rfl)
            | false => exact ihf _ acc listed _ a w fuel hfu hcl hk hS (h2 rfl)
  | one i r ih =>
    intro S acc listed e a w fuel hf hcl hE hS h
    simp only [denV, told_eq, Array.toArray_toList] at h
    split at h
    · exact h.elim
    · rename_i o ho
      rw [nthO_eq, Array.getElem?_toList] at ho
      cases hb : (dstOk nt o.dst && eqNs (Region.ready .any ops listed) [i]) with
      | false => rw [hb] at h; exact h.elim
      | true =>
        rw [hb] at h
        simp only [Bool.and_eq_true] at hb
        have hre := eqNs_iff hb.2
        have hr' : i ∈ Region.ready .any ops listed := by rw [hre]; simp
        obtain ⟨f, rfl, hf'⟩ := fuelPos hr' hf
        have main : wpAnyHI ro n P ops (liftL nt ds K) qs S (f + 1) listed a w := by
          refine ⟨fun h0 => by rw [h0] at hr'; simp at hr', fun j hj => ?_⟩
          rw [hre] at hj
          simp only [List.mem_singleton] at hj
          subst hj
          unfold Go.wpOpIn
          simp only [ho]
          rcases known_sound hE h with ⟨hw, h'⟩ | ⟨hw, h'⟩
          · rw [if_pos hw]
            exact denOp_sound hent hE h' fun v kb w' hkb hv => ⟨(heldT_of_hld hv).1, (ih _ [] _ _ _ w' f hf' (hcl.set hr') (hE.put hb.1 v kb hkb) (heldT_of_hld hv).1 (heldT_of_hld hv).2).1 rfl⟩
          · exact h'.elim
        exact ⟨fun _ => main, fun _ j hj _ => ⟨f, rfl, main.2 j hj⟩⟩
  | alt i r o' ih ih' =>
    intro S acc listed e a w fuel hf hcl hE hS h
    simp only [denV, told_eq, Array.toArray_toList] at h
    split at h
    · exact h.elim
    · rename_i o ho
      rw [nthO_eq, Array.getElem?_toList] at ho
      cases hb : (dstOk nt o.dst && (Region.ready .any ops listed).contains i) with
      | false => rw [hb] at h; exact h.elim
      | true =>
        rw [hb] at h
        obtain ⟨h1, h2⟩ := h
        simp only [Bool.and_eq_true] at hb
        have hr' : i ∈ Region.ready .any ops listed := by simpa using hb.2
        obtain ⟨f, rfl, hf'⟩ := fuelPos hr' hf
        have hi : wpOpIn (FW ro) n P ops (liftL nt ds K) i (fun a' w' => heldT ops qs S (listed.setIfInBounds i true) w' ∧ wpAnyHI ro n P ops (liftL nt ds K) qs S f (listed.setIfInBounds i true) a' w') a w := by
          unfold Go.wpOpIn
          simp only [ho]
          rcases known_sound hE h1 with ⟨hw, h'⟩ | ⟨hw, h'⟩
          · rw [if_pos hw]
            exact denOp_sound hent hE h' fun v kb w' hkb hv => ⟨(heldT_of_hld hv).1, (ih _ [] _ _ _ w' f hf' (hcl.set hr') (hE.put hb.1 v kb hkb) (heldT_of_hld hv).1 (heldT_of_hld hv).2).1 rfl⟩
          · exact h'.elim
        have rest := (ih' _ (i :: acc) listed e a w (f + 1) hf hcl hE hS h2).2 (by simp)
        have all : ∀ j ∈ Region.ready .any ops listed, j ∉ acc → wpOpIn (FW ro) n P ops (liftL nt ds K) j (fun a' w' => heldT ops qs S (listed.setIfInBounds j true) w' ∧ wpAnyHI ro n P ops (liftL nt ds K) qs S f (listed.setIfInBounds j true) a' w') a w := by
          intro j hj hja
          by_cases hji : j = i
          · subst hji; exact hi
          · obtain ⟨f', hf2, h3⟩ := rest j hj (by simp [hji, hja])
            obtain rfl : f = f' := by omega
            exact h3
        refine ⟨fun hacc => ⟨fun h0 => by rw [h0] at hr'; simp at hr', fun j hj => all j hj (by rw [hacc]; simp)⟩, fun _ j hj hja => ⟨f, rfl, all j hj hja⟩⟩
  | re r ih =>
    intro S acc listed e a w fuel hf hcl hE hS h
    simp only [denV, told_eq, Array.toArray_toList] at h
    obtain ⟨S', h1, h2, h3⟩ := h
    have hm := ih S' acc listed e a w fuel hf hcl hE (fun _ => h1) h3
    refine ⟨fun hacc => wpAnyHI_mono h2 _ _ _ _ (hm.1 hacc), fun hacc i hi hni => ?_⟩
    obtain ⟨f, hf', h4⟩ := hm.2 hacc i hi hni
    exact ⟨f, hf', wpOpIn_mono (fun a' w' h5 => ⟨fun hd => h2 _ (h5.1 hd), wpAnyHI_mono h2 _ _ _ _ h5.2⟩) h4⟩
  | fin =>
    intro S acc listed e a w fuel hf hcl hE hS h
    simp only [denV, told_eq, Array.toArray_toList] at h
    cases acc with
    | nil =>
      refine ⟨fun _ => ?_, fun hne => absurd rfl hne⟩
      simp only at h
      cases hb : eqNs (Region.ready .any ops listed) [] with
      | false => rw [hb] at h; exact h.elim
      | true =>
        rw [hb] at h
        have hre := eqNs_iff hb
        cases fuel with
        | zero => exact ⟨hre, e, hE, h⟩
        | succ f => exact ⟨fun _ => ⟨e, hE, h⟩, fun j hj => by rw [hre] at hj; simp at hj⟩
    | cons x xs =>
      refine ⟨fun hacc => by simp at hacc, fun _ i hi hni => ?_⟩
      simp only at h
      cases hb : subNs (Region.ready .any ops listed) (x :: xs) with
      | false => rw [hb] at h; exact h.elim
      | true => exact absurd (subNs_iff hb i hi) hni
end draws

/-! ### the least of the numbers that meet p -/
theorem exists_least {p : Nat → Prop} (h : ∃ d, p d) : ∃ d, p d ∧ ∀ d', p d' → d ≤ d' := by
  obtain ⟨d, hd⟩ := h
  induction d using Nat.strongRecOn with
  | _ d ih =>
    by_cases h : ∃ d', d' < d ∧ p d'
    · obtain ⟨d', h1, h2⟩ := h
      exact ih d' h1 h2
    · exact ⟨d, hd, fun d' h2 => Nat.le_of_not_lt fun h1 => h ⟨d', h1, h2⟩⟩
noncomputable def leastD (p : Nat → Prop) : Nat := open Classical in if h : ∃ d, p d then (exists_least h).choose else 0
theorem leastD_spec {p : Nat → Prop} (h : ∃ d, p d) : p (leastD p) := by
  unfold leastD
  rw [dif_pos h]
  exact (exists_least h).choose_spec.1
theorem leastD_le {p : Nat → Prop} {d : Nat} (h : p d) : leastD p ≤ d := by
  unfold leastD
  rw [dif_pos ⟨d, h⟩]
  exact (exists_least ⟨d, h⟩).choose_spec.2 d h

/-! ### code -/
def lift (nt : Nat) (mk : Bool) (Kn : Kont) (Kx : Nat → Kont) (Kr : Kont) : Exit → Act → World → Prop
  | .normal, a, w => ∃ e ds, Ext nt e ds a ∧ (mk = false → ds = []) ∧ Kn e ds w
  | .exit id, a, w => ∃ e ds, Ext nt e ds a ∧ (mk = false → ds = []) ∧ Kx id e ds w
  | .ret, a, w => ∃ e ds, Ext nt e ds a ∧ (mk = false → ds = []) ∧ Kr e ds w
  | _, _, _ => False

theorem chk_iff {mk : Bool} {ds' ds : List Nat} {p : Prop} (h : chk mk ds' ds p) (h' : mk = false → ds' = []) (h0 : mk = false → ds = []) : ds' = ds ∧ p := by
  cases mk with
  | true => exact h
  | false => exact ⟨(h' rfl).trans (h0 rfl).symm, h⟩

theorem map_of_zip {nt : Nat} {e : Env} {ds : List Nat} {a : Act} (hE : Ext nt e ds a) : ∀ (l : List Nat) (vs : List Value), vs.length = l.length → (∀ t v, (t, v) ∈ l.zip vs → ∃ kb, e.get t = some (v, kb)) →
    (l.map fun t => a.tmps.getD t undef) = vs
  | [], [], _, _ => rfl
  | [], _ :: _, h, _ => by simp at h
  | _ :: _, [], h, _ => by simp at h
  | t :: r, u :: us, hl, hz => by
    obtain ⟨kb, h1⟩ := hz t u (by simp)
    have h2 := (hE.get t _ h1).2.1
    simp only [List.map_cons, List.cons.injEq]
    exact ⟨by simp [Array.getD_eq_getD_getElem?, h2], map_of_zip hE r us (by simpa using hl) (fun t' v' hm => hz t' v' (by simp [hm]))⟩

theorem zips_zip {l : List Nat} {vs : List Value} {e0 : Env} {nt : Nat} {ds : List Nat} {a : Act} (hl : vs.length = l.length) (h : (l.map fun t => a.tmps.getD t undef) = vs) : True := trivial

section

theorem Ext.puts {nt : Nat} : ∀ {l : List Nat} {vs : List Value} {e : Env} {ds : List Nat} {a : Act}, Ext nt e ds a → allLt nt l = true → vs.length = l.length →
    Ext nt (Env.puts l vs e) ds { tmps := (l.zip vs).foldl (fun t (p, v) => t.setIfInBounds p v) a.tmps, defers := a.defers }
  | [], [], e, ds, a, h, _, _ => h
  | [], _ :: _, _, _, _, _, _, hl => by simp at hl
  | _ :: _, [], _, _, _, _, _, hl => by simp at hl
  | t :: l, v :: vs, e, ds, a, h, hlt, hl => by
    simp only [allLt, Bool.and_eq_true] at hlt
    exact (h.put (d := some t) hlt.1 v none (fun b hb => by cases hb)).puts hlt.2 (by simpa using hl)

theorem den_sound (hent : ∀ g, memN g ent = true → Enters P g) : ∀ (an : Ann) (mk : Bool) (ro : Option Nat) (n : Nat) (c : Code) (e : Env) (ds : List Nat) (a : Act) (w : World) (Kn : Kont) (Kx : Nat → Kont) (Kr : Kont),
    Ext nt e ds a → (mk = false → ds = []) → den P nt ent mk ro an c e ds w Kn Kx Kr → c.wpIn (FW ro) n P (lift nt mk Kn Kx Kr) a w := by
  intro an
  induction an with
  | leaf =>
    intro mk ro n c e ds a w Kn Kx Kr hE hm h
    cases c with
    | skip => exact wpIn_skip ⟨e, ds, hE, hm, h⟩
    | exit id => exact wpIn_exit ⟨e, ds, hE, hm, h⟩
    | ret => exact wpIn_ret ⟨e, ds, hE, hm, h⟩
    | _ => exact h.elim
  | ops keep =>
    intro mk ro n c e ds a w Kn Kx Kr hE hm h
    cases c with
    | region id ops draw =>
      cases draw with
      | true => exact h.elim
      | false =>
        have h1 := denL_sound (ro := ro) (n := n) hent (all := ops) ops.toList e a w hE h
        refine wpIn_mono (wpIn_region (Q := liftL nt ds fun e' w' => Kn (e'.keep keep) ds w') ?_) ?_
        · rw [List.range_eq_range', ← Array.length_toList]
          exact wpOpsIn_of_L _ 0 (by simp) a w h1
        · intro ex a' w' hx
          cases ex with
          | normal => obtain ⟨e', hE', hK⟩ := hx; exact ⟨_, ds, hE'.sub (get_keep e' keep), hm, hK⟩
          | _ => exact hx.elim
    | _ => exact h.elim
  | draw vs keep =>
    intro mk ro n c e ds a w Kn Kx Kr hE hm h
    cases c with
    | region id ops draw =>
      cases draw with
      | false => exact h.elim
      | true =>
        simp only [den] at h
        cases hb : (P.follows .mixedOrders && (Region.noSelect ops && Region.noDefer ops)) with
        | false => rw [hb] at h; exact h.elim
        | true =>
          rw [hb] at h
          simp only [Bool.and_eq_true] at hb
          obtain ⟨S, hS, h1⟩ := h
          have h2 := (denV_sound (ro := ro) (n := n) hent hb.2.1 hb.2.2 vs _ [] _ e a w.drew ops.size ?_ ?_ hE (fun _ => hS) h1).1 rfl
          · refine wpIn_mono (wpIn_region_any hb.1 (wpAnyIn_of_held _ _ _ _ h2)) ?_
            intro ex a' w' hx
            cases ex with
            | normal => obtain ⟨e', hE', hK⟩ := hx; exact ⟨_, ds, hE'.sub (get_keep e' keep), hm, hK⟩
            | _ => exact hx.elim
          · unfold left
            exact Nat.le_trans (List.length_filter_le _ _) (by simp)
          · intro d od ho hd
            have hlt := (Array.getElem?_eq_some_iff.1 ho).1
            simp [Array.getD_eq_getD_getElem?, Array.getElem?_replicate, hlt] at hd
    | _ => exact h.elim
  | seq x y ihx ihy =>
    intro mk ro n c e ds a w Kn Kx Kr hE hm h
    cases c with
    | seq c d =>
      refine wpIn_seq (wpIn_mono (ihx mk ro n c e ds a w _ Kx Kr hE hm h) ?_)
      intro ex a' w' hx
      cases ex with
      | normal => obtain ⟨e', ds', hE', hm', hK⟩ := hx; exact ihy mk ro n d e' ds' a' w' Kn Kx Kr hE' hm' hK
      | exit id => exact hx
      | ret => exact hx
      | _ => exact hx.elim
    | _ => exact h.elim
  | cond x y ihx ihy =>
    intro mk ro n c e ds a w Kn Kx Kr hE hm h
    cases c with
    | cond c d f =>
      have h' : opdk e c (fun v kb => match kb with | some .sk => False | some (.bl t) => bif t then den P nt ent mk ro x d e ds w Kn Kx Kr else den P nt ent mk ro y f e ds w Kn Kx Kr | none => IfB v (den P nt ent mk ro x d e ds w Kn Kx Kr) (den P nt ent mk ro y f e ds w Kn Kx Kr)) := h
      obtain ⟨kb, hkb, h1⟩ := hE.evalk h'
      cases kb with
      | none =>
        obtain ⟨t, ht, h2, h3⟩ := h1
        exact wpIn_cond_split ht (fun hh => ihx mk ro n d e ds a w Kn Kx Kr hE hm (h2 hh)) (fun hh => ihy mk ro n f e ds a w Kn Kx Kr hE hm (h3 hh))
      | some t =>
        cases t with
        | sk => exact h1.elim
        | bl t =>
        cases t with
        | true => exact wpIn_cond_true (hkb (.bl true) rfl) (ihx mk ro n d e ds a w Kn Kx Kr hE hm h1)
        | false => exact wpIn_cond_false (hkb (.bl false) rfl) (ihy mk ro n f e ds a w Kn Kx Kr hE hm h1)
    | _ => exact h.elim
  | blk x ih =>
    intro mk ro n c e ds a w Kn Kx Kr hE hm h
    cases c with
    | block id c =>
      refine wpIn_block (wpIn_mono (ih mk ro n c e ds a w _ _ Kr hE hm h) ?_)
      intro ex a' w' hx
      cases ex with
      | normal => exact hx
      | exit i =>
        obtain ⟨e', ds', hE', hm', hK⟩ := hx
        simp only [Exit.inBlock]
        by_cases hi : i = id
        · subst hi
          simp only [Nat.beq_refl, cond_true] at hK
          rw [if_pos rfl]
          exact ⟨e', ds', hE', hm', hK⟩
        · have hb : Nat.beq i id = false := by
            cases hb : Nat.beq i id with
            | false => rfl
            | true => exact absurd (Nat.eq_of_beq_eq_true hb) hi
          rw [hb] at hK
          rw [if_neg hi]
          exact ⟨e', ds', hE', hm', hK⟩
      | ret => exact hx
      | _ => exact hx.elim
    | _ => exact h.elim
  | loop cst chg x ih =>
    intro mk ro n c e ds a w Kn Kx Kr hE hm h
    cases c with
    | loop c =>
      obtain ⟨cv, hcl, hcz, h1⟩ := gets_iff e cst _ h
      obtain ⟨hv, hvl, hvz, h2⟩ := gets_iff e chg _ h1
      obtain ⟨I, ⟨d0, hI⟩, hstep⟩ := h2
      have head : ∀ {e : Env} {a : Act} {vs : List Value}, Ext nt e ds a → vs.length = chg.length → (∀ t v, (t, v) ∈ chg.zip vs → ∃ kb, e.get t = some (v, kb)) → (∀ t v, (t, v) ∈ cst.zip cv → ∃ kb, e.get t = some (v, kb)) →
          Ext nt (Env.zips chg vs (Env.zips cst cv [])) ds a := fun hE _ hz hcz => hE.zips hz (hE.zips hcz hE.nil)
      let St : Nat → Act → World → Prop := fun d a' w' => ∃ vs, vs.length = chg.length ∧ Ext nt (Env.zips chg vs (Env.zips cst cv [])) ds a' ∧ I d vs w'
      refine wpIn_loop (fun a' w' => ∃ d, St d a' w') (fun a' w' => leastD (fun d => St d a' w')) ?_ ?_
      · exact ⟨d0, hv, hvl, head hE hvl hvz hcz, hI⟩
      · intro a' w' hSt
        obtain ⟨vs, hvs, hE', hI'⟩ := leastD_spec hSt
        have h3 := hstep _ vs w' hvs hI'
        rw [appN_lamN _ _ _ hvs] at h3
        refine wpIn_mono (ih mk ro n c _ ds a' w' _ Kx Kr hE' hm h3) ?_
        intro ex a'' w'' hx
        cases ex with
        | normal =>
          obtain ⟨e', ds', hE'', hm', hK⟩ := hx
          obtain ⟨cv', hcl', hcz', h4⟩ := gets_iff _ _ _ hK
          obtain ⟨vs', hvl', hvz', h5⟩ := gets_iff _ _ _ h4
          obtain ⟨hcv, h6⟩ := eqs_iff _ _ _ h5
          obtain ⟨hds, h7⟩ := chk_iff h6 hm' hm
          subst hcv; subst hds
          rw [appN_lamN _ _ _ hvl'] at h7
          obtain ⟨d', hd, hI''⟩ := h7
          have hSt' : St d' a'' w'' := ⟨vs', hvl', head hE'' hvl' hvz' hcz', hI''⟩
          exact ⟨⟨d', hSt'⟩, Nat.lt_of_le_of_lt (leastD_le hSt') hd⟩
        | exit id => exact hx
        | ret => exact hx
        | _ => exact hx.elim
    | _ => exact h.elim
  | join live x ih =>
    intro mk ro n c e ds a w Kn Kx Kr hE hm h
    obtain ⟨M, hM, h1⟩ := h
    refine wpIn_mono (ih mk ro n c e ds a w _ Kx Kr hE hm h1) ?_
    intro ex a' w' hx
    cases ex with
    | normal =>
      obtain ⟨e', ds', hE', hm', hK⟩ := hx
      obtain ⟨vs, hl, hz, h2⟩ := gets_iff _ _ _ hK
      obtain ⟨hds, h3⟩ := chk_iff h2 hm' hm
      subst hds
      rw [appN_lamN _ _ _ hl] at h3
      have h4 := hM vs w' hl h3
      rw [appN_lamN _ _ _ hl] at h4
      exact ⟨_, ds', hE'.zips hz hE'.nil, hm', h4⟩
    | exit id => exact hx
    | ret => exact hx
    | _ => exact hx.elim
  | rng la x y ihx ihy =>
    intro mk ro n c e ds a w Kn Kx Kr hE hm h
    cases c with
    | rangeFunc g ps assign body =>
      simp only [den] at h
      cases hb : ((mk || ro.isSome) && allLt nt ps.toList) with
      | false => rw [hb] at h; exact h.elim
      | true =>
        rw [hb] at h
        simp only [Bool.and_eq_true, Bool.or_eq_true] at hb
        obtain ⟨hmk, hlt⟩ := hb
        have h' := hE.eval (x := g) h
        obtain ⟨hrec, gf, lb, hvg, hent', hall⟩ := h'
        -- one round, whatever the activation's function is
        have round : ∀ (fn : FuncId) (l D : Nat) (rec : LoopState → Option Code → Loop), (rec = fun st pe => { state := st, pending := pe, fn, tmps := a.tmps, params := ps, assign, body, defers := D }) →
            ∀ (args : List Value) (W : World) (R : Value → World → Prop), args.length = ps.toList.length → W.heap[l]? = some (.loop (rec .ready none)) →
            appN ps.toList.length (lamN ps.toList.length fun args W => den P nt ent false (some l) x assign (Env.puts ps.toList args e) [] W (fun e1 _ W1 => gets e1 la fun vs => appN la.length (lamN la.length fun vs W2 => W2.heap[l]? = some (.loop (rec .ready none)) ∧
              appN la.length (lamN la.length fun vs W => den P nt ent false (some l) y body (Env.zips la vs []) [] W (fun _ _ W4 => W4.heap[l]? = some (.loop (rec .busy none)) ∧ R (.bool true) (W4.putObj l (.loop (rec .ready none))))
                (fun i _ _ W4 => W4.heap[l]? = some (.loop (rec .busy none)) ∧ R (.bool false) (W4.putObj l (.loop (rec .done (some (.exit i))))))
                (fun _ _ W4 => W4.heap[l]? = some (.loop (rec .busy none)) ∧ R (.bool false) (W4.putObj l (.loop (rec .done (some .ret)))))) vs (W2.putObj l (.loop (rec .busy none)))) vs W1) (fun _ _ _ _ => False) (fun _ _ _ => False)) args W →
            CallV P (.func (.yield l) #[] #[]) args.toArray W R := by
          intro fn l D rec hrc args W R hlen hl h1
          rw [appN_lamN _ _ _ hlen] at h1
          refine Or.inr ⟨l, rfl, fun m => ?_⟩
          have hy := run_yield (P := P) (args := args.toArray) hl (by rw [hrc]; simpa using hlen)
          rw [hrc] at hy
          refine ⟨fn, _, assign, body, hy, ?_⟩
          refine roundIn_of_wpIn (F := Fence.wide) trivial ?_
          have hE0 : Ext nt e [] { a with defers := [] } := ⟨hE.size, hE.get, rfl⟩
          have hE1 := hE0.puts hlt hlen
          have hfold : ((ps.zip args.toArray).foldl (fun t (p, v) => t.setIfInBounds p v) a.tmps) = ((ps.toList.zip args).foldl (fun t (p, v) => t.setIfInBounds p v) a.tmps) := by
            rw [← Array.foldl_toList, Array.toList_zip]
          rw [hfold]
          show assign.wpIn (FW (some l)) m P _ _ W
          refine wpIn_mono (ihx false (some l) m assign _ [] _ W _ _ _ hE1 (fun _ => rfl) h1) ?_
          intro ex a' W' hx
          cases ex with
          | normal =>
            obtain ⟨e1, ds1, hE2, hds, hk⟩ := hx
            obtain ⟨vs, hvl, hvz, hk2⟩ := gets_iff _ _ _ hk
            rw [appN_lamN _ _ _ hvl] at hk2
            obtain ⟨hl2, hk3⟩ := hk2
            rw [appN_lamN _ _ _ hvl] at hk3
            rw [hds rfl] at hE2
            refine ⟨_, run_beginRound hl2 (by rw [hrc]), ?_⟩
            have hb : (W'.putObj l (.loop { rec .ready none with state := .busy })) = W'.putObj l (.loop (rec .busy none)) := by rw [hrc]
            rw [hb]
            show body.wpIn (FW (some l)) m P _ _ _
            refine wpIn_mono (ihy false (some l) m body _ [] _ _ _ _ _ (hE2.zips hvz hE2.nil) (fun _ => rfl) hk3) ?_
            intro ex a'' W4 hx
            have fin : ∀ (jump : Option Code), W4.heap[l]? = some (.loop (rec .busy none)) → (Instr.endRound l jump).run P W4 = .ok (.bool jump.isNone) (W4.putObj l (.loop (rec (if jump.isNone then .ready else .done) jump))) := by
              intro jump h4
              have := run_endRound (P := P) jump h4
              rw [this, hrc]
            cases ex with
            | normal => obtain ⟨_, _, _, _, h4, h5⟩ := hx; exact ⟨_, _, fin none h4, _, rfl, h5⟩
            | exit id => obtain ⟨_, _, _, _, h4, h5⟩ := hx; exact ⟨_, _, fin _ h4, _, rfl, h5⟩
            | ret => obtain ⟨_, _, _, _, h4, h5⟩ := hx; exact ⟨_, _, fin _ h4, _, rfl, h5⟩
            | _ => exact hx.elim
          | exit id => obtain ⟨_, _, _, _, hf⟩ := hx; exact hf.elim
          | ret => obtain ⟨_, _, _, _, hf⟩ := hx; exact hf.elim
          | _ => exact hx.elim
        cases ro with
        | none =>
          have hmk' : mk = true := by simpa using hmk
          have afterE : ∀ D, Ext nt e (D :: ds) { a with defers := { target := .collected D, args := #[] } :: a.defers } := fun D => ⟨hE.size, hE.get, by simp [hE.defers, mkD]⟩
          refine wpIn_rangeFunc ?_
          intro fn hfn
          show ∃ l mark w₁ d w₁' f args w₂, (Instr.enterLoop fn a.tmps ps assign body none).run P w = .ok (l, mark) w₁ ∧ _
          obtain ⟨rec, hrc⟩ : ∃ rec : LoopState → Option Code → Loop, rec = fun st pe => { state := st, pending := pe, fn, tmps := a.tmps, params := ps, assign, body, defers := w.heap.size } := ⟨_, rfl⟩
          obtain ⟨W1, hW1⟩ : ∃ W1, (w.alloc (.deferred (some []))).alloc (.loop (rec .ready none)) = W1 := ⟨_, rfl⟩
          have hL1 : W1.heap[w.heap.size + 1]? = some (.loop (rec .ready none)) := by
            rw [← hW1]; have := World.alloc_heap_new (w.alloc (.deferred (some []))) (.loop (rec .ready none)); rwa [World.size_alloc] at this
          have hK1 : W1.heap[w.heap.size]? = some (.deferred (some [])) := by
            rw [← hW1]; exact (RowKit.Below.heap_alloc _ _ _ (by simp)).trans (World.alloc_heap_new w _)
          have hb1 : RowKit.Below w.heap.size w W1 := by
            rw [← hW1]; exact ((RowKit.Below.refl _ w).alloc (Nat.le_refl _) _).alloc (by simp) _
          have hz1 : w.heap.size + 1 < W1.heap.size := (Array.getElem?_eq_some_iff.1 hL1).1
          refine ⟨w.heap.size + 1, [{ target := .collected w.heap.size, args := #[] }], W1, { target := .fn (.func gf) lb, args := #[.func (.yield (w.heap.size + 1)) #[] #[]] }, W1, gf,
            #[.func (.yield (w.heap.size + 1)) #[] #[]] ++ lb, W1, ?_, ?_, ?_, ?_, ?_, ?_⟩
          · rw [← hW1, hrc]; exact run_enterLoop_outer _ _ _ _ _
          · simp only [resolve, hvg]
            simp [go_sem]
          · intro f' hf'; exact trivial
          · simp [invoke, go_sem, hent' _ _]
          · intro hd; simp [FW, Fence.wide] at hd
          · refine callsIn_FW ?_
            have hc := hall (w.heap.size + 1) w.heap.size rec W1 (by omega) hz1 (fun _ => ⟨Nat.le_refl _, by omega⟩) hb1 hL1 (fun _ => hK1) (round fn _ _ rec hrc)
            refine Calls.mono hc ?_
            rintro ex W2 ⟨v, rfl, (⟨hl, hk⟩ | ⟨c, hl, hk⟩)⟩
            · refine ⟨none, _, by have := run_endLoop (P := P) hl (by rw [hrc]; simp); rw [this, hrc], ?_⟩
              rw [hrc] at hk
              exact ⟨e, _, afterE _, (fun hf => by rw [hmk'] at hf; cases hf), hk⟩
            · refine ⟨some c, _, by have := run_endLoop (P := P) hl (by rw [hrc]; simp); rw [this, hrc], ?_⟩
              rw [hrc] at hk
              cases c with
              | ret => exact wpIn_ret ⟨e, _, afterE _, (fun hf => by rw [hmk'] at hf; cases hf), hk⟩
              | exit i => exact wpIn_exit ⟨e, _, afterE _, (fun hf => by rw [hmk'] at hf; cases hf), hk⟩
              | _ => exact hk.elim
        | some l0 =>
          obtain ⟨r0, hr0⟩ := hrec l0 rfl
          refine wpIn_rangeFunc ?_
          intro fn hfn
          show ∃ l mark w₁ d w₁' f args w₂, (Instr.enterLoop fn a.tmps ps assign body (some l0)).run P w = .ok (l, mark) w₁ ∧ _
          obtain ⟨rec, hrc⟩ : ∃ rec : LoopState → Option Code → Loop, rec = fun st pe => { state := st, pending := pe, fn, tmps := a.tmps, params := ps, assign, body, defers := r0.defers } := ⟨_, rfl⟩
          obtain ⟨W1, hW1⟩ : ∃ W1, w.alloc (.loop (rec .ready none)) = W1 := ⟨_, rfl⟩
          have hL1 : W1.heap[w.heap.size]? = some (.loop (rec .ready none)) := by rw [← hW1]; exact World.alloc_heap_new w _
          have hb1 : RowKit.Below w.heap.size w W1 := by rw [← hW1]; exact (RowKit.Below.refl _ w).alloc (Nat.le_refl _) _
          have hz1 : w.heap.size < W1.heap.size := (Array.getElem?_eq_some_iff.1 hL1).1
          refine ⟨w.heap.size, [], W1, { target := .fn (.func gf) lb, args := #[.func (.yield w.heap.size) #[] #[]] }, W1, gf,
            #[.func (.yield w.heap.size) #[] #[]] ++ lb, W1, ?_, ?_, ?_, ?_, ?_, ?_⟩
          · rw [← hW1, hrc]; exact run_enterLoop_inner hr0 _ _ _ _ _
          · simp only [resolve, hvg]
            simp [go_sem]
          · intro f' hf'; exact trivial
          · simp [invoke, go_sem, hent' _ _]
          · intro hd; simp [FW, Fence.wide] at hd
          · refine callsIn_FW ?_
            have hc := hall w.heap.size w.heap.size rec W1 (Nat.le_refl _) hz1 (fun hf => by cases hf) hb1 hL1 (fun hf => by cases hf) (round fn _ _ rec hrc)
            refine Calls.mono hc ?_
            rintro ex W2 ⟨v, rfl, (⟨hl, hk⟩ | ⟨c, hl, hk⟩)⟩
            · refine ⟨none, _, by have := run_endLoop (P := P) hl (by rw [hrc]; simp); rw [this, hrc], ?_⟩
              rw [hrc] at hk
              exact ⟨e, ds, hE, hm, hk⟩
            · refine ⟨some c, _, by have := run_endLoop (P := P) hl (by rw [hrc]; simp); rw [this, hrc], ?_⟩
              rw [hrc] at hk
              cases c with
              | ret => exact wpIn_ret ⟨e, ds, hE, hm, hk⟩
              | exit i => exact wpIn_exit ⟨e, ds, hE, hm, hk⟩
              | _ => exact hk.elim
    | _ => exact h.elim

theorem get_params : ∀ (vs : List Value) (i t : Nat) (v : Value × Option Kb), Env.get (params i vs) t = some v → i ≤ t ∧ vs[t - i]? = some v.1 ∧ v.2 = none
  | [], i, t, v, h => by simp [params, Env.get] at h
  | u :: us, i, t, v, h => by
    simp only [params] at h
    rw [get_cons] at h
    split at h
    · rename_i hit; subst hit; cases h; simp
    · obtain ⟨h1, h2⟩ := get_params us (i + 1) t v h
      refine ⟨by omega, ?_⟩
      have : t - i = (t - (i + 1)) + 1 := by omega
      rw [this]; simpa using h2

theorem run_mapM_cons {α β : Type} {f : α → Sem β} {x : α} {r : List α} {v : β} {vs : List β} {w : World} (h1 : (f x).run P w = .ok v w) (h2 : (r.mapM f).run P w = .ok vs w) :
    ((x :: r).mapM f).run P w = .ok (v :: vs) w := by
  simp only [List.mapM_cons, Sem.run_bind, h1, h2, Result.andThen, Sem.run_pure]

/-- the results, as the machine reads them -/
theorem retV_sound {e : Env} {ds : List Nat} {a : Act} (hE : Ext nt e ds a) {w : World} : ∀ (rs : List ResultVar) {k : List Value → Prop}, retV P e w rs k →
    ∃ vs, k vs ∧ (rs.mapM (m := Sem) fun | .tmp t => pure (a.tmps.getD t undef) | .cell b t => do loadVar t (← asAddr (a.tmps.getD b undef))).run P w = .ok vs w
  | [], k, h => ⟨[], h, by simp [Sem.run_pure]⟩
  | .tmp t :: r, k, h => by
    have h1 := hE.eval (x := .tmp t) h
    obtain ⟨vs, h2, h3⟩ := retV_sound hE r h1
    exact ⟨_, h2, run_mapM_cons rfl h3⟩
  | .cell b t :: r, k, h => by
    obtain ⟨v, hr, h1⟩ := hE.eval (x := .tmp b) h
    obtain ⟨vs, h2, h3⟩ := retV_sound hE r h1
    refine ⟨_, h2, ?_⟩
    have hv : ∃ ad, a.eval (.tmp b) = .pointer (some ad) ∧ (loadVar t ad).run P w = .ok v w := by
      cases hx : a.eval (.tmp b) with
      | pointer p =>
        cases p with
        | none => rw [hx] at hr; simp [Instr.loadAt, Instr.sureAddr, Sem.run_bind, stuck, Sem.run, Result.andThen] at hr
        | some ad => refine ⟨ad, rfl, ?_⟩; rw [hx] at hr; simpa [Instr.loadAt, Instr.sureAddr, Sem.run_bind, Sem.run_pure, Result.andThen] using hr
      | _ => rw [hx] at hr; simp [Instr.loadAt, Instr.sureAddr, Sem.run_bind, stuck, Sem.run, Result.andThen] at hr
    obtain ⟨ad, hx, hl⟩ := hv
    have hx' : a.tmps.getD b undef = .pointer (some ad) := hx
    refine run_mapM_cons ?_ h3
    simp only [Sem.run_bind, Sem.run_pure, Result.andThen, hx', asAddr, hl]

theorem results_of_list {fn : Func} {tmps : Array Value} {vs : List Value} {w : World}
    (h0 : (fn.results.toList.mapM (m := Sem) fun | .tmp t => pure (tmps.getD t undef) | .cell b t => do loadVar t (← asAddr (tmps.getD b undef))).run P w = .ok vs w) :
    (results fn tmps).run P w = .ok (pack vs) w := by
  unfold results
  rw [Array.mapM_eq_mapM_toList]
  have mapL : ∀ (m : Sem (List Value)), m.run P w = .ok vs w → (List.toArray <$> m : Sem (Array Value)).run P w = .ok vs.toArray w := by
    intro m hm
    show (m >>= fun x => pure (List.toArray x) : Sem (Array Value)).run P w = _
    simp only [Sem.run_bind, hm, Result.andThen, Sem.run_pure]
  have h1 := mapL _ h0
  simp only [Sem.run_bind]
  refine Eq.trans (congrArg (fun r => Result.andThen r _) h1) ?_
  simp only [Result.andThen, Sem.run_pure, List.size_toArray]
  cases vs with
  | nil => rfl
  | cons v vs => cases vs with
    | nil => rfl
    | cons u us => rfl

theorem retK_sound {fn : Func} {R : Value → World → Prop} {a : Act} {e : Env} : ∀ (ds : List Nat) (w : World), Ext nt e [] { a with defers := [] } → retK P fn.results.toList R e ds w →
    LeavesInM (FW none) n P fn a.tmps (fun e w' => ∃ v, e = .returned v ∧ R v w') (ds.map mkD) .returning w
  | [], w, hE, h => by
    obtain ⟨vs, h1, h2⟩ := retV_sound hE _ h
    exact ⟨pack vs, results_of_list h2, _, rfl, h1⟩
  | D :: ds, w, hE, h => by
    refine ⟨by simp, .inl ⟨D, _, rfl, run_takeDeferred h.1, retK_sound ds _ hE h.2⟩⟩

def enterOk (P : Program) : List Nat → Bool
  | [] => true
  | g :: r => (match P.funcs[g]? with | some fn => fn.body.isSome && !(fn.name == "runtime.NumGoroutine") | none => false) && enterOk P r

theorem enters_all {l : List Nat} (h : enterOk P l = true) : ∀ g, memN g l = true → Enters P g := by
  induction l with
  | nil => intro g hg; simp [memN] at hg
  | cons x r ih =>
    intro g hg
    simp only [enterOk, Bool.and_eq_true] at h
    rw [memN_iff] at hg
    simp only [List.mem_cons] at hg
    rcases hg with rfl | hg
    · have h1 := h.1
      split at h1
      · rename_i fn hfn
        simp only [Bool.and_eq_true, Bool.not_eq_true'] at h1
        obtain ⟨c, hc⟩ := Option.isSome_iff_exists.1 h1.1
        exact enters_of hfn h1.2 hc
      · cases h1
    · exact ih h.2 g ((memN_iff _ _).2 hg)

theorem calls_of_denF {mk : Bool} (hent : ∀ g, memN g ent = true → Enters P g) {f : FuncId} {fn : Func} {c : Code} {an : Ann} {args : List Value} {w : World} {R : Value → World → Prop}
    (hf : P.funcs[f]? = some fn) (hb : fn.body = some c) (hlen : args.length ≤ fn.ntmps) (h : denF P ent mk fn an c args w R) : CallF P f args.toArray w R := by
  refine callsIn_wide.1 (callsIn_of_wp_marks (F := FW none) (n := 1) hf hb trivial (wpIn_mono (den_sound hent an mk none 1 c _ [] _ w _ _ _ ⟨?_, ?_, rfl⟩ (fun _ => rfl) h) ?_))
  · simp; omega
  · intro t v ht
    obtain ⟨_, h2, h3⟩ := get_params args 0 t v ht
    simp only [Nat.sub_zero] at h2
    obtain ⟨hlt, h4⟩ := List.getElem?_eq_some_iff.1 h2
    refine ⟨by omega, ?_, fun b hb => by rw [h3] at hb; cases hb⟩
    rw [Array.getElem?_append_left (by simpa using hlt)]
    simpa using h2
  · intro ex a' w' hx
    have fin : (∃ e ds, Ext fn.ntmps e ds a' ∧ (mk = false → ds = []) ∧ retK P fn.results.toList R e ds w') → LeavesInM (FW none) 1 P fn a'.tmps (fun e w' => ∃ v, e = .returned v ∧ R v w') a'.defers .returning w' := by
      rintro ⟨e, ds, hE, _, hk⟩
      rw [hE.defers]
      exact retK_sound ds w' ⟨hE.size, hE.get, rfl⟩ hk
    cases ex with
    | normal => exact fin hx
    | ret => exact fin hx
    | exit id => obtain ⟨_, _, _, _, h⟩ := hx; exact h.elim
    | _ => exact hx.elim
end
end

end Go.Ez
