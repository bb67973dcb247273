/-
  Parts of the proofs of FeedOnce, FeedKinds, FeedMore.
-/
import Derived.RangeFuncNested
import Derived.RangeFuncBound
import Derived.RangeFuncCalls
import Derived.RangeFuncLeaves
import Derived.OrdersHeld
import Derived.OrdersIn
import Derived.Shelf.Abstract
import Derived.WalkKit
import Derived.KernelRfl
import Derived.Laws.OwnMore
import Derived.Laws.BytesArg
import Derived.Laws.Bits
import Derived.WalkLawsBesides
import Derived.WalkSpells
import Derived.ProofKit
import Derived.ChangeStays
import Derived.ChangeBook
import Derived.Deep.Slices
import Derived.Lib.Builder
import Derived.Lib.UnsafeStr
import Derived.Laws.Externs
import Derived.Lib.AppendStr
import Derived.Laws.IdiomCopy
import Derived.Laws.Strings2
import Derived.Lib.AppendZerosOnto
import Derived.Lib.Overlaps
import Derived.Test.YtlflpbflpcmckaaGreatDoorProg
namespace Go.Ez
open Go Go.Proofs
set_option linter.unusedSimpArgs false
set_option linter.unusedVariables false
inductive Kb where
  | bl (b : Bool)
  | sk
def Kb.val : Kb → Value
  | .bl b => .bool b
  | .sk => undef
abbrev Env := List (Nat × Value × Option Kb)
def memN (k : Nat) : List Nat → Bool
  | [] => false
  | t :: r => bif Nat.beq k t then true else memN k r
def Env.get : Env → Nat → Option (Value × Option Kb)
  | [], _ => none
  | (k, v) :: r, t => bif Nat.beq k t then some v else Env.get r t
def Env.keep (e : Env) : List Nat → Env
  | [] => []
  | t :: r => match e.get t with
    | some v => (t, v) :: Env.keep e r
    | none => Env.keep e r
def Env.put (e : Env) (d : Option Nat) (v : Value) (kb : Option Kb) : Env :=
  match d with
  | some d => (d, v, kb) :: e
  | none => e
def Env.zips : List Nat → List Value → Env → Env
  | t :: ts, v :: vs, e => (t, v, none) :: Env.zips ts vs e
  | _, _, e => e
def gets (e : Env) : List Nat → (List Value → Prop) → Prop
  | [], k => k []
  | t :: r, k => match e.get t with
    | some v => gets e r (fun vs => k (v.1 :: vs))
    | none => False
def eqs : List Value → List Value → Prop → Prop
  | v :: vs, u :: us, p => v = u ∧ eqs vs us p
  | [], [], p => p
  | _, _, _ => False
def kbOf : Value → Option Kb
  | .bool b => some (.bl b)
  | _ => none
def opdk (e : Env) (x : Operand) (k : Value → Option Kb → Prop) : Prop :=
  match x with
  | .tmp t => match e.get t with
    | some v => k v.1 v.2
    | none => False
  | .const v => k v (kbOf v)
  | .global g => k (.pointer (some ⟨g, 0, none⟩)) none
  | .func f => k (.func (.func f) #[] #[]) none
def opd (e : Env) (x : Operand) (k : Value → Prop) : Prop := opdk e x fun v _ => k v
def opds (e : Env) : List Operand → (List Value → Prop) → Prop
  | [], k => k []
  | x :: r, k => opd e x fun v => opds e r fun vs => k (v :: vs)
def opdps (e : Env) : List (Nat × Operand) → (List (Nat × Value) → Prop) → Prop
  | [], k => k []
  | (i, x) :: r, k => opd e x fun v => opdps e r fun vs => k ((i, v) :: vs)
def opdo (e : Env) (x : Option Operand) (k : Option Value → Prop) : Prop :=
  match x with
  | some x => opd e x fun v => k (some v)
  | none => k none
section
variable (P : Program)
def RunV (m : Sem Value) (w : World) (k : Value → World → Prop) : Prop := ∃ v w', m.run P w = .ok v w' ∧ k v w'
/-- the world is left as it is -/
def RunW (m : Sem Value) (w : World) (k : Value → Prop) : Prop := ∃ v, m.run P w = .ok v w ∧ k v
/-- the same in whatever world -/
def RunA (m : Sem Value) (k : Value → Prop) : Prop := ∃ v, (∀ w, m.run P w = .ok v w) ∧ k v
/-- the same in whatever world that meets S -/
def RunS (S : World → Prop) (m : Sem Value) (k : Value → Prop) : Prop := ∃ v, (∀ w, S w → m.run P w = .ok v w) ∧ k v
def RunU (m : Sem Unit) (w : World) (k : World → Prop) : Prop := ∃ w', m.run P w = .ok () w' ∧ k w'
def RunO (m : Sem Next) (w : World) (k : Value → World → Prop) : Prop := ∃ v w', m.run P w = .ok (.value v) w' ∧ k v w'
def Pick (c a b : Value) (k : Value → Prop) : Prop := ∃ t, c = .bool t ∧ k (bif t then a else b)
def IfB (c : Value) (p q : Prop) : Prop := ∃ t, c = .bool t ∧ (t = true → p) ∧ (t = false → q)
def bin (op : BinOp) (t : TypeId) (X Y : Operand) (x y : Value) : Sem Value := do eqGuard op t X Y x y; binOp op t x y
def nilV (v : Value) : Sem Value :=
  match v with
  | .pointer none | .nilIface | .nilFunc => runtimePanic .nilDeref
  | .func (.method _) _ _ => stuck "a method value"
  | x => pure x
/-- a call of function g -/
def CallF (g : FuncId) (args : Array Value) (w : World) (k : Value → World → Prop) : Prop :=
  Calls P g args w fun e w' => ∃ v, e = .returned v ∧ k v w'
/-- a call of a function value -/
def CallV (f : Value) (args : Array Value) (w : World) (k : Value → World → Prop) : Prop :=
  (∃ g fs lb, f = .func (.func g) fs lb ∧ Enters P g ∧ CallF P g (fs ++ (args ++ lb)) w k) ∨
  (∃ l, f = .func (.yield l) #[] #[] ∧ ∀ n, YieldAt Fence.wide n P l args w fun e w' => ∃ v, e = .returned v ∧ k v w')
/-- a region that draws its order: S is kept from its begin to its end -/
def drw (body : (World → Prop) → World → Prop) (w : World) : Prop := ∃ S : World → Prop, S w.drew ∧ body S w.drew
end
def FnN : Nat → Type
  | 0 => World → Prop
  | n + 1 => Value → FnN n
def lamN : (n : Nat) → (List Value → World → Prop) → FnN n
  | 0, f => f []
  | n + 1, f => fun v => lamN n (fun vs => f (v :: vs))
def appN : (n : Nat) → FnN n → List Value → World → Prop
  | 0, f, _ => f
  | n + 1, f, v :: vs => appN n (f v) vs
  | _ + 1, _, [] => fun _ => False
theorem appN_lamN : ∀ (n : Nat) (f : List Value → World → Prop) (vs : List Value), vs.length = n → appN n (lamN n f) vs = f vs
  | 0, f, [], _ => rfl
  | n + 1, f, v :: vs, h => by simp only [lamN, appN]; exact appN_lamN n _ vs (by simpa using h)
/-- a place where ways meet: what follows is k -/
def jn (n : Nat) (k : FnN n) (body : FnN n → Prop) : Prop :=
  ∃ M : List Value → World → Prop, (∀ vs w, vs.length = n → M vs w → appN n k vs w) ∧ body (lamN n M)
/-- a loop over n values and the world: d goes down at every round -/
def lp (n : Nat) (body : FnN n → FnN n) (vs : List Value) (w : World) : Prop :=
  ∃ I : Nat → List Value → World → Prop, (∃ d, I d vs w) ∧ ∀ d vs' w', vs'.length = n → I d vs' w' →
    appN n (body (lamN n fun vs'' w'' => ∃ d', d' < d ∧ I d' vs'' w'')) vs' w'
/-- a range over a function: asg: the assignment to the loop's left sides · bdy: a round (kn: it goes on · ks: it leaves by a jump) · kdone: the function has come back · kstop: it has come back behind a round that left. l is the loop's record, D the block for deferred calls; a call of the loop's yield is a round. -/
def rngP (P : Program) (ro : Option Nat) (np nl : Nat) (asg : Nat → FnN nl → FnN np) (bdy : Nat → (World → Prop) → (Code → World → Prop) → FnN nl) (vg : Value) (w : World)
    (kdone : Nat → World → Prop) (kstop : Nat → Code → World → Prop) : Prop :=
  (∀ l0, ro = some l0 → ∃ r, w.heap[l0]? = some (.loop r)) ∧
  ∃ (gf : Nat) (lb : Array Value), vg = .func (.func gf) #[] lb ∧ Enters P gf ∧
    ∀ (l D : Nat) (rec : LoopState → Option Code → Loop) (W1 : World),
      w.heap.size ≤ l → l < W1.heap.size → (ro = none → w.heap.size ≤ D ∧ D < l) → RowKit.Below w.heap.size w W1 →
      W1.heap[l]? = some (.loop (rec .ready none)) → (ro = none → W1.heap[D]? = some (.deferred (some []))) →
      (∀ (args : List Value) (W : World) (R : Value → World → Prop), args.length = np → W.heap[l]? = some (.loop (rec .ready none)) →
        appN np (asg l (lamN nl fun vs W2 => W2.heap[l]? = some (.loop (rec .ready none)) ∧
          appN nl (bdy l (fun W4 => W4.heap[l]? = some (.loop (rec .busy none)) ∧ R (.bool true) (W4.putObj l (.loop (rec .ready none))))
            (fun c W4 => W4.heap[l]? = some (.loop (rec .busy none)) ∧ R (.bool false) (W4.putObj l (.loop (rec .done (some c)))))) vs (W2.putObj l (.loop (rec .busy none))))) args W →
        CallV P (.func (.yield l) #[] #[]) args.toArray W R) →
      CallF P gf (#[.func (.yield l) #[] #[]] ++ lb) W1 fun _ W' =>
        (W'.heap[l]? = some (.loop (rec .ready none)) ∧ kdone D (W'.putObj l (.loop (rec .exhausted none)))) ∨
        (∃ c, W'.heap[l]? = some (.loop (rec .done (some c))) ∧ kstop D c (W'.putObj l (.loop (rec .exhausted (some c)))))
section
variable (P : Program) (ent : List Nat) (e : Env)
/-- the classes: 0: the same in whatever world · 1: the world is left as it is · 2: all others -/
def cls : Op → Nat
  | .binOp .eql _ _ _ _ | .binOp .neq _ _ _ _ => 1
  | .binOp .. | .unOp .. | .fieldAddr .. | .field .. | .indexAddr .. | .index .. | .slice .. | .extract .. | .nilCheck .. => 0
  | .load .. => 1
  | .call ⟨.builtin .len, _, _⟩ | .call ⟨.builtin .cap, _, _⟩ | .call ⟨.builtin .min, _, _⟩ | .call ⟨.builtin .max, _, _⟩ => 1
  | _ => 2
/-- an operation that hands back a value: what is run -/
def semOp (op : Op) (type : TypeId) (k : Sem Value → Prop) : Prop :=
  match op with
  | .alloc elem => k (Instr.alloc elem true (.tuple #[]))
  | .box elem x => opd e x fun v => k (Instr.box elem v)
  | .build t parts => opdps e parts.toList fun l => k (Instr.build t l.toArray)
  | .buildSlice t len parts => opdps e parts.toList fun l => k (Instr.buildSlice t len l.toArray)
  | .load t a => opd e a fun v => k (Instr.loadAt t v)
  | .nilCheck x => opd e x fun v => k (nilV v)
  | .binOp op t x y _ => opd e x fun vx => opd e y fun vy => k (bin op t x y vx vy)
  | .unOp op _ x => opd e x fun v => k (Op.unary op v)
  | .convert src dst x => opd e x fun v => k (convert src dst v)
  | .makeInterface t x => opd e x fun v => k (Instr.makeInterface t v)
  | .makeFunc fn first captured => opds e first.toList fun fs => opds e captured.toList fun cs => k (Instr.makeFunc fn fs.toArray cs.toArray)
  | .makeMap t r => opdo e r fun vr => k (Instr.makeMap t vr)
  | .makeSlice t l c => opd e l fun vl => opd e c fun vc => k (Instr.makeSlice t vl vc)
  | .slice t x lo hi mx => opd e x fun v => opdo e lo fun vlo => opdo e hi fun vhi => opdo e mx fun vmx => k (Instr.sliceAt t v vlo vhi vmx)
  | .fieldAddr s x f => opd e x fun v => k (Instr.fieldAt s v f)
  | .field t x f => opd e x fun v => k (Instr.field t v f)
  | .indexAddr t x i => opd e x fun v => opd e i fun vi => k (Instr.indexAt t v vi)
  | .index t x i => opd e x fun v => opd e i fun vi => k (Instr.index t v vi)
  | .lookup t x i ok => opd e x fun v => opd e i fun vi => k (Instr.lookup t v vi ok)
  | .mapEntry t m i => opd e m fun vm => opd e i fun vi => k (Instr.mapEntry t vm vi)
  | .range t x => opd e x fun v => k (Instr.range t v)
  | .next it isString => opd e it fun v => k (Instr.next v isString type)
  | .entry it => opd e it fun v => k (Instr.entry v)
  | .typeAssert x t asserted ok => opd e x fun v => k (Instr.typeAssert v t asserted ok)
  | .extract t i => opd e t fun v => k (Instr.extract v i)
  | .call ⟨.builtin b, args, argTypes⟩ => opds e args.toList fun vs =>
    match b with
    | .append => k (Builtin.append_ argTypes type vs.toArray)
    | .len => k (Builtin.len_ argTypes type vs.toArray)
    | .cap => k (Builtin.cap_ argTypes type vs.toArray)
    | .copy => k (Builtin.copy_ argTypes type vs.toArray)
    | .min => k (Builtin.min_ argTypes type vs.toArray)
    | .max => k (Builtin.max_ argTypes type vs.toArray)
    | .clear => k (Builtin.clear_ argTypes type vs.toArray)
    | .delete => k (Builtin.delete_ argTypes type vs.toArray)
    | .unsafeSliceData => k (Builtin.unsafeSliceData_ argTypes type vs.toArray)
    | .unsafeString => k (Builtin.unsafeString_ argTypes type vs.toArray)
    | _ => False
  | _ => False
/-- an operation whose value is at hand without a run; the others go to r -/
def pureOp (op : Op) (k : Value → Option Kb → Prop) (r : Prop) : Prop :=
  match op with
  | .move x | .assign x => opdk e x k
  | .pick c a b => opdk e c fun vc kc =>
    match kc with
    | some (.bl t) => bif t then opdk e a k else opdk e b k
    | some .sk => False
    | none => opd e a fun va => opd e b fun vb => Pick vc va vb fun v => k v none
  | _ => r
/-- an operation that hands back no value -/
def unitOp (op : Op) (k : Sem Unit → Prop) (r : Prop) : Prop :=
  match op with
  | .store t a x => opd e a fun va => opd e x fun vx => k (Instr.storeAt t va vx)
  | .mapUpdate t m i x | .insert t m i x => opd e m fun vm => opd e i fun vi => opd e x fun vx => k (Instr.mapUpdate t vm vi vx)
  | .entryStore t m s x => opd e m fun vm => opd e s fun vs => opd e x fun vx => k (Instr.entryStore t vm vs vx)
  | _ => r
def callOp (op : Op) (w : World) (k : Value → World → Prop) (r : Prop) : Prop :=
  match op with
  | .call ⟨.value (.func g), args, _⟩ => opds e args.toList fun vs => bif memN g ent then CallF P g vs.toArray w k else RunO P (callFunc g vs.toArray) w k
  | .call ⟨.value x, args, _⟩ => opd e x fun f => opds e args.toList fun vs => CallV P f vs.toArray w k
  | _ => r
def denOp (op : Op) (type : TypeId) (w : World) (k : Value → Option Kb → World → Prop) : Prop :=
  pureOp e op (fun v kb => k v kb w) <| unitOp e op (fun m => RunU P m w fun w' => k undef none w') <| callOp P ent e op w (fun v w' => k v none w') <|
    semOp e op type fun m =>
      match cls op with
      | 0 => RunA P m fun v => k v none w
      | 1 => RunW P m w fun v => k v none w
      | _ => RunV P m w fun v w' => k v none w'
/-- an operation that is taken first in a region that draws its order -/
def denQ (S : World → Prop) (op : Op) (type : TypeId) (k : Value → Option Kb → Prop) : Prop :=
  pureOp e op k <| semOp e op type fun m =>
    match cls op with
    | 0 => RunA P m fun v => k v none
    | _ => RunS P S m fun v => k v none
end
def beqB : Bool → Bool → Bool
  | true, b => b
  | false, b => !b
def dstOk (nt : Nat) (d : Option Nat) : Bool :=
  match d with
  | none => true
  | some d => Nat.blt d nt
def nthO : List Oper → Nat → Option Oper
  | [], _ => none
  | o :: _, 0 => some o
  | _ :: r, n + 1 => nthO r n
def dstAt (all : List Oper) (j : Nat) : Option Nat :=
  match nthO all j with
  | some o => o.dst
  | none => none
/-- what an operation's guard says: run it (yes), pass over it (no) -/
def guarded (all : List Oper) (g : Option (Nat × Bool)) (e : Env) (yes no : Env → Prop) : Prop :=
  match g with
  | none => yes e
  | some (j, want) =>
    match dstAt all j with
    | none => False
    | some s =>
      match e.get s with
      | none => False
      | some (v, kb) =>
        match kb with
        | some (.bl b) => bif beqB want b then yes e else no e
        | some .sk => no e
        | none => IfB v (bif want then yes ((s, .bool true, some (.bl true)) :: e) else no ((s, .bool true, some (.bl true)) :: e))
            (bif want then no ((s, .bool false, some (.bl false)) :: e) else yes ((s, .bool false, some (.bl false)) :: e))
/-- operations in the text's order -/
def denL (P : Program) (nt : Nat) (ent : List Nat) (all : List Oper) : List Oper → Env → World → (Env → World → Prop) → Prop
  | [], e, w, K => K e w
  | o :: r, e, w, K => bif dstOk nt o.dst then
      guarded all o.guard e (fun e => denOp P ent e o.op o.type w (fun v kb w' => denL P nt ent all r (e.put o.dst v kb) w' K))
        (fun e => denL P nt ent all r (e.put o.dst undef (some .sk)) w K)
    else False
/-- the orders of a region: q: number i is taken first · one: number i alone can come · alt: number i, or what stands behind · re: what is kept is chosen anew, and tells more · fin: all have come, or no other can -/
inductive VS where
  | q (i : Nat) (r : VS)
  | sp (i : Nat) (t f : VS)
  | one (i : Nat) (r : VS)
  | alt (i : Nat) (r o : VS)
  | re (r : VS)
  | fin
def eqNs : List Nat → List Nat → Bool
  | [], [] => true
  | a :: l, b :: m => Nat.beq a b && eqNs l m
  | _, _ => false
def subNs : List Nat → List Nat → Bool
  | [], _ => true
  | a :: l, m => memN a m && subNs l m
/-- the guard of an operation, known by sight -/
def known (all : List Oper) (g : Option (Nat × Bool)) (e : Env) (yes no : Prop) : Prop :=
  match g with
  | none => yes
  | some (j, want) =>
    match dstAt all j with
    | none => False
    | some s =>
      match e.get s with
      | none => False
      | some (_, kb) =>
        match kb with
        | some (.bl b) => bif beqB want b then yes else no
        | some .sk => no
        | none => False
def splitG (all : List Oper) (g : Option (Nat × Bool)) (e : Env) (t f : Env → Prop) : Prop :=
  match g with
  | none => False
  | some (j, _) =>
    match dstAt all j with
    | none => False
    | some s =>
      match e.get s with
      | none => False
      | some (v, _) => IfB v (t ((s, .bool true, some (.bl true)) :: e)) (f ((s, .bool false, some (.bl false)) :: e))
/-- the numbers that are taken first -/
def qsOf : VS → List Nat
  | .q i r => i :: qsOf r
  | .sp _ t f => qsOf t ++ qsOf f
  | .one _ r => qsOf r
  | .alt _ r o => qsOf r ++ qsOf o
  | .re r => qsOf r
  | .fin => []
def anyN (p : Nat → Bool) : List Nat → Bool
  | [] => false
  | a :: l => bif p a then true else anyN p l
def allN (p : Nat → Bool) : List Nat → Bool
  | [] => true
  | a :: l => bif p a then allN p l else false
/-- number d waits for number i -/
def waitsN (ops : Array Oper) (d i : Nat) : Bool :=
  match nthO ops.toList d with
  | none => false
  | some o => o.after.any fun e => Region.binds .any e && Nat.beq e.on i
/-- likewise, through others -/
def waitsT (ops : Array Oper) (qs : List Nat) : Nat → Nat → Nat → Bool
  | 0, d, i => waitsN ops d i
  | f + 1, d, i => waitsN ops d i || anyN (fun m => waitsN ops d m && waitsT ops qs f m i) qs
/-- does an operation look at the world? -/
def needS (op : Op) : Bool :=
  match op with
  | .move _ | .assign _ | .pick .. => false
  | op => !(Nat.beq (cls op) 0)
def needAt (ops : Array Oper) (i : Nat) : Bool :=
  match nthO ops.toList i with
  | none => false
  | some o => needS o.op
/-- have all that may be taken first, and look at the world, surely come? -/
def doneB (ops : Array Oper) (qs : List Nat) (listed : Array Bool) : Bool :=
  allN (fun i => !(needAt ops i) || anyN (fun d => Nat.blt d ops.size && (listed.getD d false && (!(memN d qs) && waitsT ops qs 4 d i))) (List.range ops.size)) qs
def hld (ops : Array Oper) (qs : List Nat) (S : World → Prop) (listed : Array Bool) (w : World) (p : Prop) : Prop :=
  bif doneB ops qs listed then p else S w ∧ p
/-- a list of truths, told out -/
def told : List Bool → (List Bool → Prop) → Prop
  | [], k => k []
  | true :: l, k => told l fun m => k (true :: m)
  | false :: l, k => told l fun m => k (false :: m)
theorem told_eq : ∀ (l : List Bool) (k : List Bool → Prop), told l k = k l
  | [], _ => rfl
  | true :: l, k => told_eq l _
  | false :: l, k => told_eq l _
def denV (P : Program) (nt : Nat) (ent : List Nat) (ops : Array Oper) (qs : List Nat) : (World → Prop) → VS → List Nat → Array Bool → Env → World → (Env → World → Prop) → Prop
  | S, .q i r, _, listed, e, w, K =>
    match nthO ops.toList i with
    | none => False
    | some o => bif dstOk nt o.dst && (memN i qs && (Region.free .any ops listed i && (Region.ready .any ops listed).contains i)) then
        told (listed.setIfInBounds i true).toList fun m => known ops.toList o.guard e (denQ P e S o.op o.type fun v kb => denV P nt ent ops qs S r [] m.toArray (e.put o.dst v kb) w K)
          (denV P nt ent ops qs S r [] m.toArray (e.put o.dst undef (some .sk)) w K)
      else False
  | S, .sp i t f, acc, listed, e, w, K =>
    match nthO ops.toList i with
    | none => False
    | some o => splitG ops.toList o.guard e (fun e' => denV P nt ent ops qs S t acc listed e' w K) (fun e' => denV P nt ent ops qs S f acc listed e' w K)
  | S, .one i r, _, listed, e, w, K =>
    match nthO ops.toList i with
    | none => False
    | some o => bif dstOk nt o.dst && eqNs (Region.ready .any ops listed) [i] then
        told (listed.setIfInBounds i true).toList fun m => known ops.toList o.guard e (denOp P ent e o.op o.type w fun v kb w' => hld ops qs S m.toArray w' (denV P nt ent ops qs S r [] m.toArray (e.put o.dst v kb) w' K)) False
      else False
  | S, .alt i r o', acc, listed, e, w, K =>
    match nthO ops.toList i with
    | none => False
    | some o => bif dstOk nt o.dst && (Region.ready .any ops listed).contains i then
        told (listed.setIfInBounds i true).toList fun m => known ops.toList o.guard e (denOp P ent e o.op o.type w fun v kb w' => hld ops qs S m.toArray w' (denV P nt ent ops qs S r [] m.toArray (e.put o.dst v kb) w' K)) False ∧
        denV P nt ent ops qs S o' (i :: acc) listed e w K
      else False
  | S, .re r, acc, listed, e, w, K => ∃ S' : World → Prop, S' w ∧ (∀ w, S' w → S w) ∧ denV P nt ent ops qs S' r acc listed e w K
  | S, .fin, acc, listed, e, w, K =>
    match acc with
    | [] => bif eqNs (Region.ready .any ops listed) [] then K e w else False
    | acc => bif subNs (Region.ready .any ops listed) acc then True else False
def Region.noDefer (ops : Array Oper) : Bool := ops.all fun o => match o.op with | .defer _ => false | _ => true
inductive Ann where
  | leaf
  | ops (keep : List Nat)
  | draw (vs : VS) (keep : List Nat)
  | seq (a b : Ann)
  | cond (a b : Ann)
  | blk (a : Ann)
  | loop (cst chg : List Nat) (a : Ann)
  | join (live : List Nat) (a : Ann)
  | rng (la : List Nat) (a b : Ann)
def Env.puts : List Nat → List Value → Env → Env
  | t :: ts, v :: vs, e => Env.puts ts vs ((t, v, none) :: e)
  | _, _, e => e
def allLt (nt : Nat) : List Nat → Bool
  | [] => true
  | t :: r => Nat.blt t nt && allLt nt r
def dsOf (ro : Option Nat) (D : Nat) (ds : List Nat) : List Nat :=
  match ro with
  | none => D :: ds
  | some _ => ds
def jumpK (Kx : Nat → World → Prop) (Kr : World → Prop) (c : Code) (w : World) : Prop :=
  match c with
  | .ret => Kr w
  | .exit i => Kx i w
  | _ => False
abbrev Kont := Env → List Nat → World → Prop
def chk (mk : Bool) (ds' ds : List Nat) (p : Prop) : Prop := bif mk then ds' = ds ∧ p else p
def den (P : Program) (nt : Nat) (ent : List Nat) : Bool → Option Nat → Ann → Code → Env → List Nat → World → (Kn : Kont) → (Kx : Nat → Kont) → (Kr : Kont) → Prop
  | mk, ro, .leaf, .skip, e, ds, w, Kn, _, _ => Kn e ds w
  | mk, ro, .leaf, .exit id, e, ds, w, _, Kx, _ => Kx id e ds w
  | mk, ro, .leaf, .ret, e, ds, w, _, _, Kr => Kr e ds w
  | mk, ro, .ops keep, .region _ ops false, e, ds, w, Kn, _, _ => denL P nt ent ops.toList ops.toList e w fun e' w' => Kn (e'.keep keep) ds w'
  | mk, ro, .draw vs keep, .region _ ops true, e, ds, w, Kn, _, _ =>
    bif P.follows .mixedOrders && (Region.noSelect ops && Region.noDefer ops) then
      drw (fun S w' => denV P nt ent ops (qsOf vs) S vs [] (Array.replicate ops.size false) e w' fun e' w'' => Kn (e'.keep keep) ds w'') w
    else False
  | mk, ro, .seq a b, .seq x y, e, ds, w, Kn, Kx, Kr => den P nt ent mk ro a x e ds w (fun e' ds' w' => den P nt ent mk ro b y e' ds' w' Kn Kx Kr) Kx Kr
  | mk, ro, .cond a b, .cond c x y, e, ds, w, Kn, Kx, Kr => opdk e c fun v kb =>
    match kb with
    | some .sk => False
    | some (.bl t) => bif t then den P nt ent mk ro a x e ds w Kn Kx Kr else den P nt ent mk ro b y e ds w Kn Kx Kr
    | none => IfB v (den P nt ent mk ro a x e ds w Kn Kx Kr) (den P nt ent mk ro b y e ds w Kn Kx Kr)
  | mk, ro, .blk a, .block id x, e, ds, w, Kn, Kx, Kr => den P nt ent mk ro a x e ds w Kn (fun i e' ds' w' => bif Nat.beq i id then Kn e' ds' w' else Kx i e' ds' w') Kr
  | mk, ro, .loop cst chg a, .loop x, e, ds, w, _, Kx, Kr =>
    gets e cst fun cv => gets e chg fun hv =>
      lp chg.length (fun next => lamN chg.length fun vs w' => den P nt ent mk ro a x (Env.zips chg vs (Env.zips cst cv [])) ds w'
        (fun e' ds' w'' => gets e' cst fun cv' => gets e' chg fun vs' => eqs cv' cv (chk mk ds' ds (appN chg.length next vs' w''))) Kx Kr) hv w
  | mk, ro, .join live a, x, e, ds, w, Kn, Kx, Kr =>
    jn live.length (lamN live.length fun vs w' => Kn (Env.zips live vs []) ds w') fun J =>
      den P nt ent mk ro a x e ds w (fun e' ds' w' => gets e' live fun vs => chk mk ds' ds (appN live.length J vs w')) Kx Kr
  | mk, ro, .rng la a b, .rangeFunc g ps assign body, e, ds, w, Kn, Kx, Kr =>
    bif (mk || ro.isSome) && allLt nt ps.toList then
      opd e g fun vg => rngP P ro ps.toList.length la.length
        (fun l K => lamN ps.toList.length fun args W => den P nt ent false (some l) a assign (Env.puts ps.toList args e) [] W (fun e1 _ W1 => gets e1 la fun vs => appN la.length K vs W1) (fun _ _ _ _ => False) (fun _ _ _ => False))
        (fun l kn ks => lamN la.length fun vs W => den P nt ent false (some l) b body (Env.zips la vs []) [] W (fun _ _ W' => kn W') (fun i _ _ W' => ks (.exit i) W') (fun _ _ W' => ks .ret W'))
        vg w (fun D W => Kn e (dsOf ro D ds) W) (fun D c W => jumpK (fun i W' => Kx i e (dsOf ro D ds) W') (fun W' => Kr e (dsOf ro D ds) W') c W)
    else False
  | _, _, _, _, _, _, _, _, _, _ => False
def pack : List Value → Value
  | [v] => v
  | vs => .tuple vs.toArray
/-- the results, one by one -/
def retV (P : Program) (e : Env) (w : World) : List ResultVar → (List Value → Prop) → Prop
  | [], k => k []
  | .tmp t :: r, k => opd e (.tmp t) fun v => retV P e w r fun vs => k (v :: vs)
  | .cell a t :: r, k => opd e (.tmp a) fun va => RunW P (Instr.loadAt t va) w fun v => retV P e w r fun vs => k (v :: vs)
def retK (P : Program) (rs : List ResultVar) (R : Value → World → Prop) (e : Env) : List Nat → World → Prop
  | [], w => retV P e w rs fun vs => R (pack vs) w
  | D :: ds, w => w.heap[D]? = some (.deferred (some [])) ∧ retK P rs R e ds (w.putObj D (.deferred none))
def params : Nat → List Value → Env
  | i, v :: vs => (i, v, none) :: params (i + 1) vs
  | _, [] => []
/-- a function's contract out of the calculus -/
def denF (P : Program) (ent : List Nat) (mk : Bool) (fn : Func) (an : Ann) (c : Code) (args : List Value) (w : World) (R : Value → World → Prop) : Prop :=
  den P fn.ntmps ent mk none an c (params 0 args) [] w (retK P fn.results.toList R) (fun _ _ _ _ => False) (retK P fn.results.toList R)
end Go.Ez
namespace Go.Ez
set_option linter.unusedSimpArgs false
set_option linter.unusedVariables false
open Go Go.Proofs
def FW (ro : Option Nat) : Fence := { Fence.wide with round := ro }
theorem callsIn_FW {ro : Option Nat} {n : Nat} {P : Program} {f : FuncId} {args : Array Value} {w : World} {R : Ending → World → Prop} (h : Calls P f args w R) : CallsIn (FW ro) n P f args w R :=
  show CallsIn Fence.wide n P f args w R from callsIn_wide.2 h
def mkD (D : Nat) : Deferred := { target := .collected D, args := #[] }
structure Ext (nt : Nat) (e : Env) (ds : List Nat) (a : Act) : Prop where
  size : a.tmps.size = nt
  get : ∀ t v, e.get t = some v → t < nt ∧ a.tmps[t]? = some v.1 ∧ ∀ b, v.2 = some b → v.1 = Kb.val b
  defers : a.defers = ds.map mkD
theorem memN_iff (k : Nat) : ∀ l, memN k l = true ↔ k ∈ l
  | [] => by simp [memN]
  | t :: r => by
    simp only [memN, List.mem_cons]
    cases h : Nat.beq k t
    · have : k ≠ t := fun e => by subst e; simp at h
      simp [memN_iff k r, this]
    · have : k = t := Nat.eq_of_beq_eq_true h
      simp [this]
theorem get_cons (k : Nat) (v : Value × Option Kb) (r : Env) (t : Nat) : Env.get ((k, v) :: r) t = if k = t then some v else Env.get r t := by
  simp only [Env.get]
  cases h : Nat.beq k t
  · have : k ≠ t := fun e => by subst e; simp at h
    simp [this]
  · have : k = t := Nat.eq_of_beq_eq_true h
    simp [this]
theorem get_keep (e : Env) : ∀ (l : List Nat) t v, (e.keep l).get t = some v → e.get t = some v
  | [], t, v, h => by simp [Env.keep, Env.get] at h
  | s :: r, t, v, h => by
    simp only [Env.keep] at h
    split at h
    · rename_i u hu
      rw [get_cons] at h
      split at h
      · rename_i hst; subst hst; cases h; exact hu
      · exact get_keep e r t v h
    · exact get_keep e r t v h
theorem get_zips : ∀ (l : List Nat) (vs : List Value) (e : Env) t v, (Env.zips l vs e).get t = some v → ((t, v.1) ∈ l.zip vs ∧ v.2 = none) ∨ e.get t = some v
  | [], vs, e, t, v, h => .inr (by simpa [Env.zips] using h)
  | _ :: _, [], e, t, v, h => .inr (by simpa [Env.zips] using h)
  | s :: l, u :: vs, e, t, v, h => by
    simp only [Env.zips] at h
    rw [get_cons] at h
    split at h
    · rename_i hst; subst hst; cases h; exact .inl (by simp)
    · rcases get_zips l vs e t v h with h | h
      · exact .inl (by simp [h.1, h.2])
      · exact .inr h
theorem gets_iff (e : Env) : ∀ (l : List Nat) (k : List Value → Prop), gets e l k → ∃ vs : List Value, vs.length = l.length ∧ (∀ t v, (t, v) ∈ l.zip vs → ∃ kb, e.get t = some (v, kb)) ∧ k vs
  | [], k, h => ⟨[], rfl, by simp, h⟩
  | t :: r, k, h => by
    simp only [gets] at h
    split at h
    · rename_i v hv
      obtain ⟨vs, hl, hz, hk⟩ := gets_iff e r _ h
      refine ⟨v.1 :: vs, by simp [hl], ?_, hk⟩
      intro t' v' hm
      simp only [List.zip_cons_cons, List.mem_cons, Prod.mk.injEq] at hm
      rcases hm with ⟨rfl, rfl⟩ | hm
      · exact ⟨v.2, hv⟩
      · exact hz _ _ hm
    · exact h.elim
theorem eqs_iff : ∀ (vs us : List Value) (p : Prop), eqs vs us p → vs = us ∧ p
  | [], [], p, h => ⟨rfl, h⟩
  | v :: vs, u :: us, p, h => by
    obtain ⟨h1, h2⟩ := h
    obtain ⟨h3, h4⟩ := eqs_iff vs us p h2
    exact ⟨by rw [h1, h3], h4⟩
  | [], _ :: _, p, h => h.elim
  | _ :: _, [], p, h => h.elim
theorem Ext.sub {nt : Nat} {e e' : Env} {ds : List Nat} {a : Act} (h : Ext nt e ds a) (hs : ∀ t v, e'.get t = some v → e.get t = some v) : Ext nt e' ds a :=
  ⟨h.size, fun t v ht => h.get t v (hs t v ht), h.defers⟩
theorem Ext.zips {nt : Nat} {e : Env} {ds : List Nat} {a : Act} {l : List Nat} {vs : List Value} {e0 : Env} (h : Ext nt e ds a) (hz : ∀ t v, (t, v) ∈ l.zip vs → ∃ kb, e.get t = some (v, kb))
    (h0 : Ext nt e0 ds a) : Ext nt (Env.zips l vs e0) ds a :=
  ⟨h.size, fun t v ht => by
    rcases get_zips l vs e0 t v ht with ⟨h1, h2⟩ | h1
    · obtain ⟨kb, h3⟩ := hz t v.1 h1
      have h4 := h.get t _ h3
      exact ⟨h4.1, h4.2.1, fun b hb => by rw [h2] at hb; cases hb⟩
    · exact h0.get t v h1, h.defers⟩
theorem Ext.nil {nt : Nat} {e : Env} {ds : List Nat} {a : Act} (h : Ext nt e ds a) : Ext nt [] ds a := h.sub fun t v ht => by simp [Env.get] at ht
theorem Ext.put {nt : Nat} {e : Env} {ds : List Nat} {a : Act} (h : Ext nt e ds a) {d : Option Nat} (hd : dstOk nt d = true) (v : Value) (kb : Option Kb) (hkb : ∀ b, kb = some b → v = Kb.val b) : Ext nt (e.put d v kb) ds (a.put d v) := by
  cases d with
  | none => exact h
  | some d =>
    refine ⟨by simp [Act.put, h.size], ?_, by simp [Act.put, h.defers]⟩
    intro t u ht
    simp only [Env.put] at ht
    rw [get_cons] at ht
    have hdn : d < nt := Nat.blt_eq.mp hd
    simp only [Act.put, Array.getElem?_setIfInBounds]
    split at ht
    · rename_i hdt; subst hdt; cases ht
      exact ⟨hdn, by simp [h.size, hdn], hkb⟩
    · rename_i hdt
      have h1 := h.get t u ht
      simp only [hdt, if_false]
      exact h1
/-- a slot whose bool has come to be known -/
theorem Ext.know {nt : Nat} {e : Env} {ds : List Nat} {a : Act} (h : Ext nt e ds a) {s : Nat} {v : Value} {kb : Option Kb} (hs : e.get s = some (v, kb)) {b : Bool} (hv : v = .bool b) : Ext nt ((s, .bool b, some (.bl b)) :: e) ds a := by
  refine ⟨h.size, ?_, h.defers⟩
  intro t u ht
  rw [get_cons] at ht
  split at ht
  · rename_i hst; subst hst; cases ht
    have := h.get s _ hs
    exact ⟨this.1, by rw [this.2.1, hv], fun b' hb' => by cases hb'; rfl⟩
  · exact h.get t u ht
theorem Ext.evalk {nt : Nat} {e : Env} {ds : List Nat} {a : Act} (h : Ext nt e ds a) {x : Operand} {k : Value → Option Kb → Prop} (hx : opdk e x k) : ∃ kb, (∀ b, kb = some b → a.eval x = Kb.val b) ∧ k (a.eval x) kb := by
  cases x with
  | tmp t =>
    simp only [opdk] at hx
    split at hx
    · rename_i v hv
      have h1 := h.get t v hv
      have he : a.eval (.tmp t) = v.1 := by simp [Act.eval, Array.getD_eq_getD_getElem?, h1.2.1]
      exact ⟨v.2, fun b hb => by rw [he]; exact h1.2.2 b hb, by rw [he]; exact hx⟩
    · exact hx.elim
  | const v => exact ⟨kbOf v, fun b hb => by cases v <;> simp only [kbOf, reduceCtorEq, Option.some.injEq] at hb; subst hb; rfl, hx⟩
  | global g => exact ⟨none, by simp, hx⟩
  | func f => exact ⟨none, by simp, hx⟩
theorem Ext.eval {nt : Nat} {e : Env} {ds : List Nat} {a : Act} (h : Ext nt e ds a) {x : Operand} {k : Value → Prop} (hx : opd e x k) : k (a.eval x) := by
  obtain ⟨_, _, h1⟩ := h.evalk hx
  exact h1
theorem Ext.evals {nt : Nat} {e : Env} {ds : List Nat} {a : Act} (h : Ext nt e ds a) : ∀ {l : List Operand} {k : List Value → Prop}, opds e l k → k (l.map a.eval)
  | [], k, hx => hx
  | x :: r, k, hx => by
    simp only [opds] at hx
    have h1 := h.eval hx
    exact h.evals (l := r) h1
theorem Ext.evalps {nt : Nat} {e : Env} {ds : List Nat} {a : Act} (h : Ext nt e ds a) : ∀ {l : List (Nat × Operand)} {k : List (Nat × Value) → Prop}, opdps e l k → k (l.map fun p => (p.1, a.eval p.2))
  | [], k, hx => hx
  | (i, x) :: r, k, hx => by
    simp only [opdps] at hx
    have h1 := h.eval hx
    exact h.evalps (l := r) h1
theorem Ext.evalo {nt : Nat} {e : Env} {ds : List Nat} {a : Act} (h : Ext nt e ds a) {x : Option Operand} {k : Option Value → Prop} (hx : opdo e x k) : k (x.map a.eval) := by
  cases x with
  | none => exact hx
  | some x => exact h.eval (by simpa [opdo] using hx)
section
variable {P : Program} {ent : List Nat} {nt : Nat} {ro : Option Nat} {n : Nat}
theorem wpIn_value {o : Oper} {a : Act} {w w' : World} {next : Act → World → Prop} {Q : Exit → Act → World → Prop} {v : Value} (hd : ∀ c, o.op ≠ .defer c)
    (h : (execOp a.eval o).run P w = .ok (.value v) w') (hn : next (a.put o.dst v) w') : o.wpIn (FW ro) n P a w next Q := by
  refine ⟨fun _ _ => trivial, ?_⟩
  rw [Oper.semAt_eq _ _ _ hd, h]
  exact hn
theorem wpIn_unit {o : Oper} {a : Act} {w w' : World} {next : Act → World → Prop} {Q : Exit → Act → World → Prop} (hd : ∀ c, o.op ≠ .defer c)
    (h : (execOp a.eval o).run P w = .ok .skip w') (hn : next (a.put o.dst undef) w') : o.wpIn (FW ro) n P a w next Q := by
  refine ⟨fun _ _ => trivial, ?_⟩
  rw [Oper.semAt_eq _ _ _ hd, h]
  exact hn
theorem run_v {m : Sem Value} {w w' : World} {v : Value} (h : m.run P w = .ok v w') : (do pure (Next.value (← m)) : Sem Next).run P w = .ok (.value v) w' := by
  simp only [Sem.run_bind, h, Result.andThen, Sem.run_pure]
theorem run_u {m : Sem Unit} {w w' : World} (h : m.run P w = .ok () w') : (do m; pure Next.skip : Sem Next).run P w = .ok .skip w' := by
  simp only [Sem.run_bind, h, Result.andThen, Sem.run_pure]
theorem toArray_map_toList {α β : Type} (f : α → β) (l : Array α) : (l.toList.map f).toArray = l.map f := by
  rw [← Array.toList_map]
/-- what a value's operation runs -/
theorem semOp_sound {e : Env} {ds : List Nat} {a : Act} (hE : Ext nt e ds a) {o : Oper} {k : Sem Value → Prop} (h : semOp e o.op o.type k) :
    (∀ c, o.op ≠ .defer c) ∧ ∃ m, k m ∧ ∀ w v w', m.run P w = .ok v w' → (execOp a.eval o).run P w = .ok (.value v) w' := by
  obtain ⟨dst, op, type, pos, after, guard⟩ := o
  cases op with
  | alloc elem => exact ⟨by simp, _, h, fun w v w' hr => run_v hr⟩
  | box elem x => exact ⟨by simp, _, hE.eval h, fun w v w' hr => run_v hr⟩
  | build t parts =>
    have h1 := hE.evalps h
    rw [toArray_map_toList] at h1
    exact ⟨by simp, _, h1, fun w v w' hr => run_v hr⟩
  | buildSlice t len parts =>
    have h1 := hE.evalps h
    rw [toArray_map_toList] at h1
    exact ⟨by simp, _, h1, fun w v w' hr => run_v hr⟩
  | load t x => exact ⟨by simp, _, hE.eval h, fun w v w' hr => run_v hr⟩
  | nilCheck x =>
    refine ⟨by simp, _, hE.eval h, fun w v w' hr => ?_⟩
    simp only [execOp]
    revert hr
    generalize a.eval x = u
    intro hr
    unfold nilV at hr
    split at hr
    · simp only [runtimePanic, Sem.run_bind] at hr
      exact absurd hr (by simp [runtimePanic, goPanic, Sem.run_bind, program, Sem.run, Result.andThen])
    · exact absurd hr (by simp [runtimePanic, goPanic, Sem.run_bind, program, Sem.run, Result.andThen])
    · exact absurd hr (by simp [runtimePanic, goPanic, Sem.run_bind, program, Sem.run, Result.andThen])
    · exact absurd hr (by simp [stuck, Sem.run])
    · simp only [Sem.run_pure, Result.ok.injEq] at hr
      obtain ⟨rfl, rfl⟩ := hr
      split <;> simp_all [Sem.run_pure]
  | binOp op t x y ty => exact ⟨by simp, _, hE.eval (hE.eval h), fun w v w' hr => run_v hr⟩
  | unOp op t x => exact ⟨by simp, _, hE.eval h, fun w v w' hr => run_v hr⟩
  | convert src d x => exact ⟨by simp, _, hE.eval h, fun w v w' hr => run_v hr⟩
  | makeInterface t x => exact ⟨by simp, _, hE.eval h, fun w v w' hr => run_v hr⟩
  | makeFunc fn first captured =>
    have h1 := hE.evals (hE.evals h)
    rw [toArray_map_toList, toArray_map_toList] at h1
    exact ⟨by simp, _, h1, fun w v w' hr => run_v hr⟩
  | makeMap t r =>
    have h' : opdo e r (fun vr => k (Instr.makeMap t vr)) := h
    exact ⟨by simp, _, hE.evalo h', fun w v w' hr => run_v hr⟩
  | makeSlice t l c => exact ⟨by simp, _, hE.eval (hE.eval h), fun w v w' hr => run_v hr⟩
  | slice t x lo hi mx => exact ⟨by simp, _, hE.evalo (hE.evalo (hE.evalo (hE.eval h))), fun w v w' hr => run_v hr⟩
  | fieldAddr s x f => exact ⟨by simp, _, hE.eval h, fun w v w' hr => run_v hr⟩
  | field s x f => exact ⟨by simp, _, hE.eval h, fun w v w' hr => run_v hr⟩
  | indexAddr t x i => exact ⟨by simp, _, hE.eval (hE.eval h), fun w v w' hr => run_v hr⟩
  | index t x i => exact ⟨by simp, _, hE.eval (hE.eval h), fun w v w' hr => run_v hr⟩
  | lookup t x i ok => exact ⟨by simp, _, hE.eval (hE.eval h), fun w v w' hr => run_v hr⟩
  | mapEntry t m i => exact ⟨by simp, _, hE.eval (hE.eval h), fun w v w' hr => run_v hr⟩
  | range t x => exact ⟨by simp, _, hE.eval h, fun w v w' hr => run_v hr⟩
  | next it s => exact ⟨by simp, _, hE.eval h, fun w v w' hr => run_v hr⟩
  | entry it => exact ⟨by simp, _, hE.eval h, fun w v w' hr => run_v hr⟩
  | typeAssert x t asserted ok => exact ⟨by simp, _, hE.eval h, fun w v w' hr => run_v hr⟩
  | extract t i => exact ⟨by simp, _, hE.eval h, fun w v w' hr => run_v hr⟩
  | call c =>
    obtain ⟨callee, args, argTypes⟩ := c
    cases callee with
    | value f => exact h.elim
    | invoke r name => exact h.elim
    | builtin b =>
      refine ⟨by simp, ?_⟩
      have h0 := hE.evals h
      clear h
      have fin : ∀ (m : Sem Value), (∀ cs : Array Bool, builtin b argTypes type cs (args.map a.eval) = (do pure (Next.value (← m)))) → k m →
          ∃ m, k m ∧ ∀ w v w', m.run P w = .ok v w' → (execOp a.eval (⟨dst, .call ⟨.builtin b, args, argTypes⟩, type, pos, after, guard⟩ : Oper)).run P w = .ok (.value v) w' := by
        intro m hm hkm
        refine ⟨m, hkm, fun w v w' hr => ?_⟩
        simp only [execOp, resolve, invoke, Sem.run_bind, Sem.run_pure, Result.andThen, hm, hr]
      cases b with
      | append => exact fin _ (fun _ => rfl) (toArray_map_toList a.eval args ▸ h0)
      | len => exact fin _ (fun _ => rfl) (toArray_map_toList a.eval args ▸ h0)
      | cap => exact fin _ (fun _ => rfl) (toArray_map_toList a.eval args ▸ h0)
      | copy => exact fin _ (fun _ => rfl) (toArray_map_toList a.eval args ▸ h0)
      | min => exact fin _ (fun _ => rfl) (toArray_map_toList a.eval args ▸ h0)
      | max => exact fin _ (fun _ => rfl) (toArray_map_toList a.eval args ▸ h0)
      | clear => exact fin _ (fun _ => rfl) (toArray_map_toList a.eval args ▸ h0)
      | delete => exact fin _ (fun _ => rfl) (toArray_map_toList a.eval args ▸ h0)
      | unsafeSliceData => exact fin _ (fun _ => rfl) (toArray_map_toList a.eval args ▸ h0)
      | unsafeString => exact fin _ (fun _ => rfl) (toArray_map_toList a.eval args ▸ h0)
      | _ => exact h0.elim
  | _ => exact h.elim
/-- an operation whose value is at hand -/
theorem pureOp_sound {e : Env} {ds : List Nat} {a : Act} (hE : Ext nt e ds a) {o : Oper} {k : Value → Option Kb → Prop} {r : Prop} (h : pureOp e o.op k r) :
    (∃ v kb, (∀ b, kb = some b → v = Kb.val b) ∧ k v kb ∧ (∀ c, o.op ≠ .defer c) ∧ ∀ w, (execOp a.eval o).run P w = .ok (.value v) w) ∨ r := by
  obtain ⟨dst, op, type, pos, after, guard⟩ := o
  cases op with
  | move x => obtain ⟨kb, h1, h2⟩ := hE.evalk h; exact .inl ⟨_, kb, h1, h2, by simp, fun w => by simp [execOp]⟩
  | assign x => obtain ⟨kb, h1, h2⟩ := hE.evalk h; exact .inl ⟨_, kb, h1, h2, by simp, fun w => by simp [execOp]⟩
  | pick c x y =>
    left
    have h' : opdk e c (fun vc kc => match kc with | some (.bl t) => bif t then opdk e x k else opdk e y k | some .sk => False | none => opd e x fun va => opd e y fun vb => Pick vc va vb fun v => k v none) := h
    obtain ⟨kc, h1, h2⟩ := hE.evalk h'
    cases kc with
    | none =>
      obtain ⟨t, ht, h3⟩ := hE.eval (hE.eval h2)
      refine ⟨if t then a.eval x else a.eval y, none, by simp, ?_, by simp, fun w => ?_⟩
      · cases t <;> exact h3
      · simp [execOp, ht, asBool, Sem.run_bind, Sem.run_pure, Result.andThen]
    | some t =>
      have ht := h1 t rfl
      cases t with
      | sk => exact h2.elim
      | bl t =>
      cases t with
      | true =>
        replace ht : a.eval c = .bool true := ht
        obtain ⟨kb, h4, h5⟩ := hE.evalk (x := x) h2
        exact ⟨_, kb, h4, h5, by simp, fun w => by simp [execOp, ht, asBool, Sem.run_bind, Sem.run_pure, Result.andThen]⟩
      | false =>
        replace ht : a.eval c = .bool false := ht
        obtain ⟨kb, h4, h5⟩ := hE.evalk (x := y) h2
        exact ⟨_, kb, h4, h5, by simp, fun w => by simp [execOp, ht, asBool, Sem.run_bind, Sem.run_pure, Result.andThen]⟩
  | _ => exact .inr h
theorem denOp_sound (hent : ∀ g, memN g ent = true → Enters P g) {e : Env} {ds : List Nat} {a : Act} (hE : Ext nt e ds a) {o : Oper} {w : World} {k : Value → Option Kb → World → Prop}
    {next : Act → World → Prop} {Q : Exit → Act → World → Prop} (h : denOp P ent e o.op o.type w k)
    (hk : ∀ v kb w', (∀ b, kb = some b → v = Kb.val b) → k v kb w' → next (a.put o.dst v) w') : o.wpIn (FW ro) n P a w next Q := by
  have hnb : ∀ v : Value, ∀ b, (none : Option Kb) = some b → v = Kb.val b := fun v b hb => by cases hb
  rcases pureOp_sound (P := P) hE h with ⟨v, kb, h1, h2, h3, h4⟩ | h
  · exact wpIn_value h3 (h4 w) (hk _ _ _ h1 h2)
  have viaSem : (semOp e o.op o.type fun m =>
      match cls o.op with
      | 0 => RunA P m fun v => k v none w
      | 1 => RunW P m w fun v => k v none w
      | _ => RunV P m w fun v w' => k v none w') → o.wpIn (FW ro) n P a w next Q := by
    intro h
    obtain ⟨h3, m, hm, hrun⟩ := semOp_sound (P := P) hE h
    split at hm
    · obtain ⟨v, h5, h6⟩ := hm; exact wpIn_value h3 (hrun _ _ _ (h5 w)) (hk _ _ _ (hnb v) h6)
    · obtain ⟨v, h5, h6⟩ := hm; exact wpIn_value h3 (hrun _ _ _ h5) (hk _ _ _ (hnb v) h6)
    · obtain ⟨v, w', h5, h6⟩ := hm; exact wpIn_value h3 (hrun _ _ _ h5) (hk _ _ _ (hnb v) h6)
  obtain ⟨dst, op, type, pos, after, guard⟩ := o
  cases op with
  | store t x y => obtain ⟨w', h1, h2⟩ := hE.eval (hE.eval h); exact wpIn_unit (by simp) (run_u h1) (hk _ _ _ (hnb _) h2)
  | mapUpdate t m i x => obtain ⟨w', h1, h2⟩ := hE.eval (hE.eval (hE.eval h)); exact wpIn_unit (by simp) (run_u h1) (hk _ _ _ (hnb _) h2)
  | insert t m i x => obtain ⟨w', h1, h2⟩ := hE.eval (hE.eval (hE.eval h)); exact wpIn_unit (by simp) (run_u h1) (hk _ _ _ (hnb _) h2)
  | entryStore t m s x => obtain ⟨w', h1, h2⟩ := hE.eval (hE.eval (hE.eval h)); exact wpIn_unit (by simp) (run_u h1) (hk _ _ _ (hnb _) h2)
  | call c =>
    obtain ⟨callee, args, argTypes⟩ := c
    have dyn : ∀ x, (opd e x fun f => opds e args.toList fun vs => CallV P f vs.toArray w fun v w' => k v none w') → callee = .value x → (⟨dst, .call ⟨callee, args, argTypes⟩, type, pos, after, guard⟩ : Oper).wpIn (FW ro) n P a w next Q := by
      intro x hh hc
      subst hc
      have h1 := hE.evals (hE.eval hh)
      rw [toArray_map_toList] at h1
      refine ⟨fun _ _ => trivial, ?_⟩
      rw [Oper.semAt_eq _ _ _ (by simp)]
      rcases h1 with ⟨g, fs, lb, hf, he, hcall⟩ | ⟨l, hf, hy⟩
      · have hr : (execOp a.eval (⟨dst, .call ⟨.value x, args, argTypes⟩, type, pos, after, guard⟩ : Oper)).run P w = .ok (.enter g (fs ++ (args.map a.eval ++ lb))) w := by
          have he := he (fs ++ (args.map a.eval ++ lb)) w
          simp [execOp, resolve, Deferred.ofValue, hf, invoke, Sem.run_bind, Sem.run_pure, Result.andThen, he]
        rw [hr]
        refine ⟨fun h => by simp [FW, Fence.wide] at h, ?_⟩
        refine callsIn_FW (hcall.mono ?_)
        rintro ed w' ⟨v, rfl, hv⟩
        exact hk _ _ _ (hnb _) hv
      · obtain ⟨fn, tmps, assign, body, hr0, hround⟩ := hy (n - 1)
        have hr : (execOp a.eval (⟨dst, .call ⟨.value x, args, argTypes⟩, type, pos, after, guard⟩ : Oper)).run P w = .ok (.round l fn tmps assign body) w := by
          simp [execOp, resolve, Deferred.ofValue, hf, invoke, Sem.run_bind, Sem.run_pure, Result.andThen, hr0]
        rw [hr]
        refine ⟨fun h => by simp [FW, Fence.wide] at h, ?_⟩
        refine (show RoundIn (FW ro) (n - 1) P l fn tmps assign body w _ from hround).mono ?_
        rintro ed w' ⟨v, rfl, hv⟩
        exact hk _ _ _ (hnb _) hv
    cases callee with
    | builtin b => exact viaSem h
    | invoke recv name => exact viaSem h
    | value x =>
      cases x with
      | func g =>
        have h1 := hE.evals (l := args.toList) h
        rw [toArray_map_toList] at h1
        cases hg : memN g ent with
        | true =>
          rw [hg] at h1
          replace h1 : CallF P g (args.map a.eval) w (fun v w' => k v none w') := h1
          refine ⟨fun _ _ => trivial, ?_⟩
          rw [Oper.semAt_eq _ _ _ (by simp)]
          have hr : (execOp a.eval (⟨dst, .call ⟨.value (.func g), args, argTypes⟩, type, pos, after, guard⟩ : Oper)).run P w = .ok (.enter g (args.map a.eval)) w := by
            have he := hent g hg (args.map a.eval) w
            simp [execOp, resolve, Deferred.ofValue, Act.eval, invoke, Sem.run_bind, Sem.run_pure, Result.andThen, he]
          rw [hr]
          refine ⟨fun h => by simp [FW, Fence.wide] at h, ?_⟩
          refine callsIn_FW (h1.mono ?_)
          rintro ed w' ⟨v, rfl, hv⟩
          exact hk _ _ _ (hnb _) hv
        | false =>
          rw [hg] at h1
          obtain ⟨v, w', h2, h3⟩ := h1
          refine wpIn_value (by simp) (v := v) (w' := w') ?_ (hk _ _ _ (hnb _) h3)
          simp [execOp, resolve, Deferred.ofValue, Act.eval, invoke, Sem.run_bind, Sem.run_pure, Result.andThen, h2]
      | tmp t => exact dyn (.tmp t) h rfl
      | const v => exact dyn (.const v) h rfl
      | global g => exact dyn (.global g) h rfl
  | _ => exact viaSem h
def wpInL (ro : Option Nat) (n : Nat) (P : Program) (all : Array Oper) (Q : Exit → Act → World → Prop) : List Oper → Act → World → Prop
  | [], a, w => Q .normal a w
  | o :: r, a, w => if Region.wanted o (yielded all a.tmps) then o.wpIn (FW ro) n P a w (wpInL ro n P all Q r) Q else wpInL ro n P all Q r (a.put o.dst undef) w
theorem wpOpsIn_of_L {all : Array Oper} {Q : Exit → Act → World → Prop} : ∀ (l : List Oper) (k : Nat), (∀ j, l[j]? = all[k + j]?) → ∀ a w, wpInL ro n P all Q l a w → wpOpsIn (FW ro) n P all Q (List.range' k l.length) a w
  | [], k, _, a, w, h => h
  | o :: r, k, hl, a, w, h => by
    have h0 : all[k]? = some o := by simpa using (hl 0).symm
    have ih := wpOpsIn_of_L (all := all) (Q := Q) r (k + 1) (fun j => by have := hl (j + 1); simpa [Nat.add_assoc, Nat.add_comm 1 j] using this)
    simp only [List.length_cons, List.range'_succ, wpOpsIn, h0]
    simp only [wpInL] at h
    split at h
    · rename_i hw
      rw [if_pos hw]
      exact Oper.wpIn_mono ih h
    · rename_i hw
      rw [if_neg hw]
      exact ⟨fun _ _ => trivial, ih _ _ h⟩
def liftL (nt : Nat) (ds : List Nat) (K : Env → World → Prop) : Exit → Act → World → Prop
  | .normal, a, w => ∃ e, Ext nt e ds a ∧ K e w
  | _, _, _ => False
theorem nthO_eq : ∀ (l : List Oper) (j : Nat), nthO l j = l[j]?
  | [], j => by simp [nthO]
  | o :: l, 0 => by simp [nthO]
  | o :: l, j + 1 => by simp [nthO, nthO_eq l j]
theorem dstAt_eq {all : Array Oper} {j : Nat} {s : Nat} (h : dstAt all.toList j = some s) : (all[j]?).bind (·.dst) = some s := by
  unfold dstAt at h
  rw [nthO_eq] at h
  split at h
  · rename_i o ho
    rw [Array.getElem?_toList] at ho
    rw [ho]; exact h
  · cases h
/-- the guard's slot is known: what the machine makes of it -/
theorem wanted_of {all : Array Oper} {o : Oper} {j : Nat} {want b : Bool} {s : Nat} {a : Act} (hg : o.guard = some (j, want)) (hs : (all[j]?).bind (·.dst) = some s)
    (hv : a.tmps[s]? = some (.bool b)) : Region.wanted o (yielded all a.tmps) = beqB want b := by
  cases want <;> cases b <;> simp [Region.wanted, hg, yielded, hs, hv, beqB]
theorem wanted_sk {all : Array Oper} {o : Oper} {j : Nat} {want : Bool} {s : Nat} {a : Act} (hg : o.guard = some (j, want)) (hs : (all[j]?).bind (·.dst) = some s)
    (hv : a.tmps[s]? = some undef) : Region.wanted o (yielded all a.tmps) = false := by
  cases want <;> simp [Region.wanted, hg, yielded, hs, hv, undef]
theorem guarded_sound {all : Array Oper} {o : Oper} {e : Env} {ds : List Nat} {a : Act} (hE : Ext nt e ds a) {yes no : Env → Prop} (h : guarded all.toList o.guard e yes no) :
    (Region.wanted o (yielded all a.tmps) = true ∧ ∃ e', Ext nt e' ds a ∧ yes e') ∨ (Region.wanted o (yielded all a.tmps) = false ∧ ∃ e', Ext nt e' ds a ∧ no e') := by
  cases hg : o.guard with
  | none => rw [hg] at h; exact .inl ⟨by simp [Region.wanted, hg], e, hE, h⟩
  | some p =>
    obtain ⟨j, want⟩ := p
    rw [hg] at h
    simp only [guarded] at h
    split at h
    · exact h.elim
    · rename_i s hs
      have hs' := dstAt_eq hs
      split at h
      · exact h.elim
      · rename_i v kb hget
        have h1 := hE.get s _ hget
        split at h
        · rename_i b
          have hv : a.tmps[s]? = some (.bool b) := by rw [h1.2.1]; exact congrArg some (h1.2.2 (.bl b) rfl)
          have hw := wanted_of hg hs' hv
          cases hb : beqB want b with
          | true => rw [hb] at h hw; exact .inl ⟨hw, e, hE, h⟩
          | false => rw [hb] at h hw; exact .inr ⟨hw, e, hE, h⟩
        · have hv : a.tmps[s]? = some undef := by rw [h1.2.1]; exact congrArg some (h1.2.2 .sk rfl)
          exact .inr ⟨wanted_sk hg hs' hv, e, hE, h⟩
        · obtain ⟨t, ht, h2, h3⟩ := h
          have hv : a.tmps[s]? = some (.bool t) := by rw [h1.2.1]; exact congrArg some ht
          have hw := wanted_of hg hs' hv
          have hk := hE.know hget (b := t) ht
          cases t with
          | true =>
            have h4 := h2 rfl
            cases want with
            | true => exact .inl ⟨hw, _, hk, h4⟩
            | false => exact .inr ⟨hw, _, hk, h4⟩
          | false =>
            have h4 := h3 rfl
            cases want with
            | true => exact .inr ⟨hw, _, hk, h4⟩
            | false => exact .inl ⟨hw, _, hk, h4⟩
theorem denL_sound (hent : ∀ g, memN g ent = true → Enters P g) {all : Array Oper} {ds : List Nat} {K : Env → World → Prop} :
    ∀ (l : List Oper) (e : Env) (a : Act) (w : World), Ext nt e ds a → denL P nt ent all.toList l e w K → wpInL ro n P all (liftL nt ds K) l a w
  | [], e, a, w, hE, h => ⟨e, hE, h⟩
  | o :: l, e, a, w, hE, h => by
    simp only [denL] at h
    cases hb : dstOk nt o.dst with
    | false => rw [hb] at h; exact h.elim
    | true =>
      rw [hb] at h
      replace h : guarded all.toList o.guard e (fun e => denOp P ent e o.op o.type w (fun v kb w' => denL P nt ent all.toList l (e.put o.dst v kb) w' K))
        (fun e => denL P nt ent all.toList l (e.put o.dst undef (some .sk)) w K) := h
      rcases guarded_sound hE h with ⟨hw, e', hE', h'⟩ | ⟨hw, e', hE', h'⟩
      · simp only [wpInL]
        rw [if_pos hw]
        exact denOp_sound hent hE' h' fun v kb w' hkb hv => denL_sound hent l _ _ _ (hE'.put hb v kb hkb) hv
      · simp only [wpInL]
        rw [if_neg (by simp [hw])]
        exact denL_sound hent l _ _ _ (hE'.put hb undef (some .sk) (fun _ h => by cases h; rfl)) h'
section draws
variable {ops : Array Oper} {Q : Exit → Act → World → Prop} {S : World → Prop} {qs : List Nat}
theorem YieldsIf.wpOpIn {i : Nat} {o : Oper} {v : Value} {a : Act} (hi : ops[i]? = some o) (hnd : ∀ c, o.op ≠ .defer c) (hy : YieldsIf P ops S o v a)
    {K : Act → World → Prop} {w : World} (hS : S w) (h : K (a.put o.dst v) w) : wpOpIn (FW ro) n P ops Q i K a w := by
  unfold Go.wpOpIn
  simp only [hi]
  rcases hy with ⟨hw, hv⟩ | ⟨hw, rfl⟩
  · simp only [hw, if_true]; exact wpIn_value hnd (hv w hS) h
  · simp only [hw, Bool.false_eq_true, if_false]; exact ⟨fun _ _ => trivial, h⟩
theorem wpOpIn_putIf {j : Nat} {oi oj : Oper} {v : Value} (hj : ops[j]? = some oj) (hap : oi.apart ops oj = true)
    (hsi : ∀ cs b, oi.op ≠ .select cs b) (hsj : ∀ cs b, oj.op ≠ .select cs b) (hdj : ∀ c, oj.op ≠ .defer c)
    (hQ : ∀ c a w, ¬ Q (.panic c) a w) {K : Act → World → Prop} {a : Act} {w : World}
    (hy : YieldsIf P ops S oi v a) (h : wpOpIn (FW ro) n P ops Q j K (a.put oi.dst v) w) :
    wpOpIn (FW ro) n P ops Q j (fun a' w' => YieldsIf P ops S oi v a' ∧ K (a'.put oi.dst v) w') a w := by
  obtain ⟨h1, h2, h3⟩ := Oper.apart_spec hap
  have keep : ∀ (a : Act), YieldsIf P ops S oi v a → ∀ u, YieldsIf P ops S oi v (a.put oj.dst u) := fun a hy u =>
    hy.of_same (execOp_put oi hsi a oj.dst u h3) (wanted_put oi a oj.dst u h3)
  unfold Go.wpOpIn at *
  simp only [hj] at *
  rw [wanted_put oj a oi.dst v h1] at h
  split
  · rename_i hw
    simp only [hw, if_true] at h
    unfold Oper.wpIn at *
    refine ⟨fun _ _ => trivial, ?_⟩
    replace h := h.2
    rw [Oper.semAt_eq _ _ _ hdj] at h ⊢
    rw [execOp_put oj hsj a oi.dst v h1] at h
    generalize (execOp a.eval oj).run P w = r at *
    cases r with
    | ok n w' =>
      cases n <;> simp only [Oper.uponIn] at h ⊢
      case value u => exact ⟨keep a hy u, by rw [← Act.put_comm a v u h2]; exact h⟩
      case skip => exact ⟨keep a hy _, by rw [← Act.put_comm a v undef h2]; exact h⟩
      case defer d =>
        refine ⟨(keep _ (hy.of_same (a' := { a with defers := d :: a.defers }) rfl rfl)) _, ?_⟩
        rw [← Act.put_comm _ v undef h2, ← Act.put_defers]
        exact h
      case enter f args =>
        refine ⟨h.1, h.2.mono fun e w'' he => ?_⟩
        cases e with
        | returned u => exact ⟨keep a hy u, by rw [← Act.put_comm a v u h2]; exact he⟩
        | panicked c => exact absurd he (hQ _ _ _)
        | outgrown => exact he
      case row row args => exact ⟨h.1, h.2.mono fun u w'' he => ⟨keep a hy u, by rw [← Act.put_comm a v u h2]; exact he⟩⟩
      case round l f tmps assign body =>
        refine ⟨h.1, h.2.mono fun e w'' he => ?_⟩
        cases e with
        | returned u => exact ⟨keep a hy u, by rw [← Act.put_comm a v u h2]; exact he⟩
        | panicked c => exact absurd he (hQ _ _ _)
        | outgrown => exact he
    | halt x w' =>
      cases x <;> simp only [Oper.uponIn] at h ⊢
      case panic u => exact absurd h (hQ _ _ _)
  · rename_i hw
    simp only [hw] at h
    exact ⟨fun _ _ => trivial, keep a hy _, by rw [← Act.put_comm a v undef h2]; exact h.2⟩
theorem anyN_iff {p : Nat → Bool} : ∀ {l : List Nat}, anyN p l = true ↔ ∃ x ∈ l, p x = true
  | [] => by simp [anyN]
  | a :: l => by
    simp only [anyN]
    cases h : p a
    · simp [h, anyN_iff (p := p) (l := l)]
    · simp [h]
theorem allN_iff {p : Nat → Bool} : ∀ {l : List Nat}, allN p l = true ↔ ∀ x ∈ l, p x = true
  | [] => by simp [allN]
  | a :: l => by
    simp only [allN]
    cases h : p a
    · simp [h]
    · simp [h, allN_iff (p := p) (l := l)]
/-- what has come has come behind what it waits for -/
def closedL (ops : Array Oper) (listed : Array Bool) : Prop := ∀ d od, ops[d]? = some od → listed.getD d false = true → ∀ e ∈ od.after, Region.binds .any e = true → listed.getD e.on false = true
theorem getD_set_mono {listed : Array Bool} {i j : Nat} (h : listed.getD j false = true) : (listed.setIfInBounds i true).getD j false = true := by
  rw [Array.getD_eq_getD_getElem?] at h ⊢
  rw [Array.getElem?_setIfInBounds]
  split
  · rename_i e; subst e
    split
    · rfl
    · rename_i hs; rw [Array.getElem?_eq_none (by omega)] at h; exact h
  · exact h
theorem getD_set_other {listed : Array Bool} {i j : Nat} (hne : i ≠ j) : (listed.setIfInBounds i true).getD j false = listed.getD j false := by
  rw [Array.getD_eq_getD_getElem?, Array.getElem?_setIfInBounds, if_neg hne, ← Array.getD_eq_getD_getElem?]
theorem closedL.set {listed : Array Bool} {j : Nat} (h : closedL ops listed) (hj : j ∈ Region.ready .any ops listed) : closedL ops (listed.setIfInBounds j true) := by
  intro d od ho hd e he hb
  by_cases hdj : j = d
  · subst hdj
    obtain ⟨_, o, ho2, hall⟩ := mem_ready.1 hj
    rw [ho] at ho2; cases ho2
    exact getD_set_mono (hall e he hb)
  · rw [getD_set_other hdj] at hd
    exact getD_set_mono (h d od ho hd e he hb)
theorem closedL.waitsN {listed : Array Bool} (h : closedL ops listed) {d i : Nat} (hd : listed.getD d false = true) (hw : waitsN ops d i = true) : listed.getD i false = true := by
  unfold Go.Ez.waitsN at hw
  split at hw
  · cases hw
  · rename_i o ho
    rw [nthO_eq, Array.getElem?_toList] at ho
    obtain ⟨e, he, hb⟩ := Array.any_eq_true'.1 hw
    simp only [Bool.and_eq_true] at hb
    have := h d o ho hd e he hb.1
    rwa [Nat.eq_of_beq_eq_true hb.2] at this
theorem closedL.waitsT {listed : Array Bool} (h : closedL ops listed) : ∀ (f : Nat) {d i : Nat}, listed.getD d false = true → waitsT ops qs f d i = true → listed.getD i false = true
  | 0, _, _, hd, hw => h.waitsN hd hw
  | f + 1, d, i, hd, hw => by
    simp only [Go.Ez.waitsT, Bool.or_eq_true] at hw
    rcases hw with hw | hw
    · exact h.waitsN hd hw
    · obtain ⟨m, _, hm⟩ := anyN_iff.1 hw
      simp only [Bool.and_eq_true] at hm
      exact closedL.waitsT h f (h.waitsN hd hm.1) hm.2
theorem doneB_spec {listed : Array Bool} (h : closedL ops listed) (hd : doneB ops qs listed = true) {i : Nat} (hi : i ∈ qs) (hn : needAt ops i = true) : listed.getD i false = true := by
  have := allN_iff.1 hd i hi
  rw [hn] at this
  simp only [Bool.not_true, Bool.false_or] at this
  obtain ⟨d, _, h1⟩ := anyN_iff.1 this
  simp only [Bool.and_eq_true] at h1
  exact h.waitsT 4 h1.2.1 h1.2.2.2
theorem doneB_mono {listed : Array Bool} {i : Nat} (hd : doneB ops qs listed = true) : doneB ops qs (listed.setIfInBounds i true) = true := by
  refine allN_iff.2 fun k hk => ?_
  have h0 := allN_iff.1 hd k hk
  simp only [Bool.or_eq_true] at h0 ⊢
  refine h0.imp id fun h0 => ?_
  obtain ⟨d, hd1, h1⟩ := anyN_iff.1 h0
  simp only [Bool.and_eq_true] at h1
  exact anyN_iff.2 ⟨d, hd1, by simp only [Bool.and_eq_true]; exact ⟨h1.1, getD_set_mono h1.2.1, h1.2.2⟩⟩
theorem doneB_set {listed : Array Bool} {i : Nat} (hi : i ∈ qs) (hd : doneB ops qs (listed.setIfInBounds i true) = true) : doneB ops qs listed = true := by
  refine allN_iff.2 fun k hk => ?_
  have h0 := allN_iff.1 hd k hk
  simp only [Bool.or_eq_true] at h0 ⊢
  refine h0.imp id fun h0 => ?_
  obtain ⟨d, hd1, h1⟩ := anyN_iff.1 h0
  simp only [Bool.and_eq_true] at h1
  have hne : i ≠ d := fun e => by
    subst e
    have := (memN_iff i qs).2 hi
    rw [this] at h1
    exact absurd h1.2.2.1 (by simp)
  have hl : listed.getD d false = true := by rw [← getD_set_other hne]; exact h1.2.1
  exact anyN_iff.2 ⟨d, hd1, by simp only [Bool.and_eq_true]; exact ⟨h1.1, hl, h1.2.2⟩⟩
def heldT (ops : Array Oper) (qs : List Nat) (S : World → Prop) (listed : Array Bool) (w : World) : Prop := doneB ops qs listed = false → S w
theorem heldT_of_hld {listed : Array Bool} {w : World} {p : Prop} (h : hld ops qs S listed w p) : heldT ops qs S listed w ∧ p := by
  unfold hld at h
  unfold heldT
  cases hd : doneB ops qs listed with
  | true => rw [hd] at h; exact ⟨(fun hf => by cases hf), h⟩
  | false => rw [hd] at h; exact ⟨fun _ => h.1, h.2⟩
def wpAnyHI (ro : Option Nat) (n : Nat) (P : Program) (ops : Array Oper) (Q : Exit → Act → World → Prop) (qs : List Nat) (S : World → Prop) : Nat → Array Bool → Act → World → Prop
  | 0, listed, a, w => Region.ready .any ops listed = [] ∧ Q .normal a w
  | fuel + 1, listed, a, w =>
    (Region.ready .any ops listed = [] → Q .normal a w) ∧
    ∀ i ∈ Region.ready .any ops listed, wpOpIn (FW ro) n P ops Q i (fun a' w' => heldT ops qs S (listed.setIfInBounds i true) w' ∧ wpAnyHI ro n P ops Q qs S fuel (listed.setIfInBounds i true) a' w') a w
theorem wpAnyIn_of_held : ∀ (fuel : Nat) (listed : Array Bool) (a : Act) (w : World), wpAnyHI ro n P ops Q qs S fuel listed a w → wpAnyIn (FW ro) n P .any ops Q fuel listed a w
  | 0, _, _, _, h => h
  | fuel + 1, _, _, _, h => ⟨h.1, fun i hi => wpOpIn_mono (fun a' w' h' => wpAnyIn_of_held fuel _ a' w' h'.2) (h.2 i hi)⟩
theorem wpAnyHI_first {Sy : World → Prop} {i : Nat} {oi : Oper} {v : Value} (hi : ops[i]? = some oi) (hiq : i ∈ qs) (hSy : (∀ w, Sy w) ∨ (needAt ops i = true ∧ ∀ w, S w → Sy w)) (hsel : ∀ (j : Nat) (o : Oper) cs b, ops[j]? = some o → o.op ≠ .select cs b)
    (hdef : ∀ (j : Nat) (o : Oper) c, ops[j]? = some o → o.op ≠ .defer c) (hQ : ∀ c a w, ¬ Q (.panic c) a w) :
    ∀ (fuel : Nat) (listed : Array Bool) (a : Act) (w : World), closedL ops listed →
      (∀ j oj, ops[j]? = some oj → j ≠ i → listed.getD j true = false → (∀ e ∈ oj.after, Region.binds .any e = true → e.on ≠ i) → oi.apart ops oj = true) →
      i ∈ Region.ready .any ops listed → YieldsIf P ops Sy oi v a → heldT ops qs S listed w →
      wpAnyHI ro n P ops Q qs S fuel (listed.setIfInBounds i true) (a.put oi.dst v) w → wpAnyHI ro n P ops Q qs S (fuel + 1) listed a w := by
  have sure : ∀ (listed : Array Bool) (w : World), closedL ops listed → i ∈ Region.ready .any ops listed → heldT ops qs S listed w → Sy w := by
    intro listed w hc hr hT
    rcases hSy with hSy | ⟨hneed, hSy⟩
    · exact hSy w
    refine hSy w (hT ?_)
    cases hd : doneB ops qs listed with
    | false => rfl
    | true =>
      have h1 := doneB_spec hc hd hiq hneed
      have h0 := (mem_ready.1 hr).1
      rw [Array.getD_eq_getD_getElem?] at h0 h1
      cases hx : listed[i]? with
      | none => rw [hx] at h1; cases h1
      | some b => rw [hx] at h0 h1; simp only [Option.getD_some] at h0 h1; rw [h0] at h1; cases h1
  have heldI : ∀ {listed : Array Bool} {w : World}, heldT ops qs S listed w → heldT ops qs S (listed.setIfInBounds i true) w := by
    intro listed w hT hd
    refine hT ?_
    cases hx : doneB ops qs listed with
    | false => rfl
    | true => rw [doneB_mono hx] at hd; cases hd
  intro fuel
  induction fuel with
  | zero =>
    intro listed a w hcl _ hr hy hT H
    have hS := sure _ _ hcl hr hT
    refine ⟨fun h => (by rw [h] at hr; cases hr), fun j hj => ?_⟩
    by_cases hji : j = i
    · subst hji; exact YieldsIf.wpOpIn hi (fun c => hdef j oi c hi) hy hS ⟨heldI hT, H⟩
    · have := ready_mono hj hji
      rw [H.1] at this
      cases this
  | succ fuel ih =>
    intro listed a w hcl hfree hr hy hT H
    have hS := sure _ _ hcl hr hT
    refine ⟨fun h => (by rw [h] at hr; cases hr), fun j hj => ?_⟩
    by_cases hji : j = i
    · subst hji; exact YieldsIf.wpOpIn hi (fun c => hdef j oi c hi) hy hS ⟨heldI hT, H⟩
    · have h1 := H.2 j (ready_mono hj hji)
      obtain ⟨hjun, oj, hoj, hall⟩ := mem_ready.1 hj
      have hnot : ∀ e ∈ oj.after, Region.binds .any e = true → e.on ≠ i := fun e he hb heq => by
        have h1 := hall e he hb
        have h0 := (mem_ready.1 hr).1
        rw [heq] at h1
        rcases Nat.lt_or_ge i listed.size with h' | h'
        · simp [h'] at h0 h1; rw [h0] at h1; cases h1
        · simp [Array.getElem?_eq_none h'] at h1
      have h2 := wpOpIn_putIf hoj (hfree j oj hoj hji hjun hnot) (fun cs b => hsel i oi cs b hi) (fun cs b => hsel j oj cs b hoj) (fun c => hdef j oj c hoj) hQ hy h1
      have hfree' : ∀ k ok, ops[k]? = some ok → k ≠ i → (listed.setIfInBounds j true).getD k true = false →
          (∀ e ∈ ok.after, Region.binds .any e = true → e.on ≠ i) → oi.apart ops ok = true := fun k ok hk hki hun hno => by
        refine hfree k ok hk hki ?_ hno
        by_cases hjk : j = k
        · subst hjk; exact hjun
        · rw [getD_set_ne true hjk] at hun; exact hun
      have heldJ : ∀ {w' : World}, heldT ops qs S ((listed.setIfInBounds i true).setIfInBounds j true) w' → heldT ops qs S (listed.setIfInBounds j true) w' := by
        intro w' hT' hd
        refine hT' ?_
        rw [Array.setIfInBounds_comm _ _ (Ne.symm hji)]
        cases hx : doneB ops qs ((listed.setIfInBounds j true).setIfInBounds i true) with
        | false => rfl
        | true => rw [doneB_set hiq hx] at hd; cases hd
      refine wpOpIn_mono (fun a' w' h3 => ⟨heldJ h3.2.1, ih (listed.setIfInBounds j true) a' w' (hcl.set hj) hfree' (ready_mono hr (Ne.symm hji)) h3.1 (heldJ h3.2.1) ?_⟩) h2
      rw [Array.setIfInBounds_comm _ _ hji]
      exact h3.2.2
theorem noDefer_spec (h : Region.noDefer ops = true) (j : Nat) (o : Oper) (c : Call) (ho : ops[j]? = some o) : o.op ≠ .defer c := by
  intro heq
  have := Array.all_eq_true_iff_forall_mem.1 h o (Array.mem_of_getElem? ho)
  simp [heq] at this
theorem eqNs_iff : ∀ {l m : List Nat}, eqNs l m = true → l = m
  | [], [], _ => rfl
  | a :: l, b :: m, h => by
    simp only [eqNs, Bool.and_eq_true] at h
    rw [Nat.eq_of_beq_eq_true h.1, eqNs_iff h.2]
  | [], _ :: _, h => by simp [eqNs] at h
  | _ :: _, [], h => by simp [eqNs] at h
theorem subNs_iff : ∀ {l m : List Nat}, subNs l m = true → ∀ x ∈ l, x ∈ m
  | [], _, _, x, hx => by simp at hx
  | a :: l, m, h, x, hx => by
    simp only [subNs, Bool.and_eq_true] at h
    simp only [List.mem_cons] at hx
    rcases hx with rfl | hx
    · exact (memN_iff _ _).1 h.1
    · exact subNs_iff h.2 x hx
theorem known_sound {o : Oper} {e : Env} {ds : List Nat} {a : Act} (hE : Ext nt e ds a) {yes no : Prop} (h : known ops.toList o.guard e yes no) :
    (Region.wanted o (yielded ops a.tmps) = true ∧ yes) ∨ (Region.wanted o (yielded ops a.tmps) = false ∧ no) := by
  cases hg : o.guard with
  | none => rw [hg] at h; exact .inl ⟨by simp [Region.wanted, hg], h⟩
  | some p =>
    obtain ⟨j, want⟩ := p
    rw [hg] at h
    simp only [known] at h
    split at h
    · exact h.elim
    · rename_i s hs
      have hs' := dstAt_eq hs
      split at h
      · exact h.elim
      · rename_i v kb hget
        have h1 := hE.get s _ hget
        split at h
        · rename_i b
          have hv : a.tmps[s]? = some (.bool b) := by rw [h1.2.1]; exact congrArg some (h1.2.2 (.bl b) rfl)
          have hw := wanted_of hg hs' hv
          cases hb : beqB want b with
          | true => rw [hb] at h hw; exact .inl ⟨hw, h⟩
          | false => rw [hb] at h hw; exact .inr ⟨hw, h⟩
        · have hv : a.tmps[s]? = some undef := by rw [h1.2.1]; exact congrArg some (h1.2.2 .sk rfl)
          exact .inr ⟨wanted_sk hg hs' hv, h⟩
        · exact h.elim
theorem pureOp_need {op : Op} {e : Env} {k : Value → Option Kb → Prop} {r : Prop} (hn : needS op = false) (hc : cls op ≠ 0) (h : pureOp e op k r) : pureOp e op k False := by
  unfold needS at hn
  split at hn
  · exact h
  · exact h
  · exact h
  · simp only [Bool.not_eq_false'] at hn
    exact absurd (Nat.eq_of_beq_eq_true hn) hc
theorem denQ_sound {e : Env} {ds : List Nat} {a : Act} (hE : Ext nt e ds a) {o : Oper} {k : Value → Option Kb → Prop} (h : denQ P e S o.op o.type k) :
    ∃ v kb, (∀ b, kb = some b → v = Kb.val b) ∧ k v kb ∧ ∀ w, (needS o.op = true → S w) → (execOp a.eval o).run P w = .ok (.value v) w := by
  by_cases hz : needS o.op = false ∧ cls o.op ≠ 0
  · unfold denQ at h
    rcases pureOp_sound (P := P) hE (pureOp_need hz.1 hz.2 h) with ⟨v, kb, h1, h2, h3, h4⟩ | h
    · exact ⟨v, kb, h1, h2, fun w _ => h4 w⟩
    · exact h.elim
  · rcases pureOp_sound (P := P) hE h with ⟨v, kb, h1, h2, h3, h4⟩ | h
    · exact ⟨v, kb, h1, h2, fun w _ => h4 w⟩
    · obtain ⟨_, m, hm, hrun⟩ := semOp_sound (P := P) hE h
      split at hm
      · obtain ⟨v, h5, h6⟩ := hm; exact ⟨v, none, by simp, h6, fun w _ => hrun _ _ _ (h5 w)⟩
      · rename_i hc
        obtain ⟨v, h5, h6⟩ := hm
        refine ⟨v, none, by simp, h6, fun w hw => hrun _ _ _ (h5 w (hw ?_))⟩
        cases hn : needS o.op with
        | true => rfl
        | false => exact absurd ⟨hn, fun h0 => hc h0⟩ hz
/-- how many have not come yet -/
def left (ops : Array Oper) (listed : Array Bool) : Nat := ((List.range ops.size).filter fun i => !listed.getD i true).length
theorem left_set {listed : Array Bool} {i : Nat} (hi : i ∈ Region.ready .any ops listed) : left ops (listed.setIfInBounds i true) < left ops listed := by
  obtain ⟨h0, o, ho, _⟩ := mem_ready.1 hi
  have hlt : i < ops.size := (Array.getElem?_eq_some_iff.1 ho).1
  unfold left
  have hsub : ∀ (l : List Nat), (l.filter fun k => !(listed.setIfInBounds i true).getD k true).length + (if i ∈ l then 1 else 0) ≤ (l.filter fun k => !listed.getD k true).length := by
    intro l
    induction l with
    | nil => simp
    | cons k l ih =>
      by_cases hk : k = i
      · subst hk
        have hk1 : (listed.setIfInBounds k true).getD k true = true := by
          rw [Array.getD_eq_getD_getElem?, Array.getElem?_setIfInBounds, if_pos rfl]
          by_cases hs : k < listed.size
          · rw [if_pos hs]; rfl
          · rw [if_neg hs]; rfl
        have e1 : ((k :: l).filter fun j => !(listed.setIfInBounds k true).getD j true) = l.filter fun j => !(listed.setIfInBounds k true).getD j true := List.filter_cons_of_neg (by rw [hk1]; simp)
        have e2 : ((k :: l).filter fun j => !listed.getD j true) = k :: l.filter fun j => !listed.getD j true := List.filter_cons_of_pos (by rw [h0]; simp)
        rw [e1, e2, if_pos (by simp), List.length_cons]
        have : (if k ∈ l then 1 else 0) ≥ 0 := Nat.zero_le _
        omega
      · have hk2 : (listed.setIfInBounds i true).getD k true = listed.getD k true := getD_set_ne true (Ne.symm hk)
        have hm : (i ∈ k :: l) ↔ i ∈ l := by simp [Ne.symm hk]
        simp only [List.filter_cons, hk2, hm]
        split <;> (try simp only [List.length_cons]) <;> omega
  have := hsub (List.range ops.size)
  rw [if_pos (List.mem_range.2 hlt)] at this
  omega
theorem wpAnyHI_mono {S S' : World → Prop} (h : ∀ w, S' w → S w) : ∀ (fuel : Nat) (listed : Array Bool) (a : Act) (w : World), wpAnyHI ro n P ops Q qs S' fuel listed a w → wpAnyHI ro n P ops Q qs S fuel listed a w
  | 0, _, _, _, H => H
  | fuel + 1, _, _, _, H => ⟨H.1, fun i hi => wpOpIn_mono (fun a' w' h' => ⟨fun hd => h _ (h'.1 hd), wpAnyHI_mono h fuel _ a' w' h'.2⟩) (H.2 i hi)⟩
theorem denV_sound (hent : ∀ g, memN g ent = true → Enters P g) (hsel : Region.noSelect ops = true) (hdef : Region.noDefer ops = true) {ds : List Nat} {K : Env → World → Prop} :
    ∀ (vs : VS) (S : World → Prop) (acc : List Nat) (listed : Array Bool) (e : Env) (a : Act) (w : World) (fuel : Nat), left ops listed ≤ fuel → closedL ops listed → Ext nt e ds a → heldT ops qs S listed w → denV P nt ent ops qs S vs acc listed e w K →
      (acc = [] → wpAnyHI ro n P ops (liftL nt ds K) qs S fuel listed a w) ∧
      (acc ≠ [] → ∀ i ∈ Region.ready .any ops listed, i ∉ acc → ∃ f, fuel = f + 1 ∧ wpOpIn (FW ro) n P ops (liftL nt ds K) i (fun a' w' => heldT ops qs S (listed.setIfInBounds i true) w' ∧ wpAnyHI ro n P ops (liftL nt ds K) qs S f (listed.setIfInBounds i true) a' w') a w) := by
  have hQ : ∀ c a w, ¬ (liftL nt ds K) (.panic c) a w := fun _ _ _ h => h
  have fuelPos : ∀ {listed : Array Bool} {i : Nat} {fuel : Nat}, i ∈ Region.ready .any ops listed → left ops listed ≤ fuel → ∃ f, fuel = f + 1 ∧ left ops (listed.setIfInBounds i true) ≤ f := by
    intro listed i fuel hi hf
    have := left_set hi
    exact ⟨fuel - 1, by omega, by omega⟩
  intro vs
  induction vs with
  | q i r ih =>
    intro S acc listed e a w fuel hf hcl hE hS h
    simp only [denV, told_eq, Array.toArray_toList] at h
    split at h
    · exact h.elim
    · rename_i o ho
      rw [nthO_eq, Array.getElem?_toList] at ho
      cases hb : (dstOk nt o.dst && (memN i qs && (Region.free .any ops listed i && (Region.ready .any ops listed).contains i))) with
      | false => rw [hb] at h; exact h.elim
      | true =>
        rw [hb] at h
        simp only [Bool.and_eq_true] at hb
        obtain ⟨hd, hiq, hfree, hr⟩ := hb
        rw [memN_iff] at hiq
        have hSy : (∀ w, (fun w => needS o.op = true → S w) w) ∨ (needAt ops i = true ∧ ∀ w, S w → (fun w => needS o.op = true → S w) w) := by
          cases hn : needS o.op with
          | false => exact .inl fun w h => by cases h
          | true => exact .inr ⟨by unfold needAt; rw [nthO_eq, Array.getElem?_toList, ho]; exact hn, fun w hw _ => hw⟩
        have hSi : ∀ {w : World}, heldT ops qs S listed w → heldT ops qs S (listed.setIfInBounds i true) w := fun hT hx => hT (by
          cases hy : doneB ops qs listed with
          | false => rfl
          | true => rw [doneB_mono hy] at hx; cases hx)
        have hr' : i ∈ Region.ready .any ops listed := by simpa using hr
        obtain ⟨f, rfl, hf'⟩ := fuelPos hr' hf
        have main : wpAnyHI ro n P ops (liftL nt ds K) qs S (f + 1) listed a w := by
          rcases known_sound hE h with ⟨hw, h'⟩ | ⟨hw, h'⟩
          · obtain ⟨v, kb, h1, h2, h3⟩ := denQ_sound hE h'
            exact wpAnyHI_first (Sy := fun w => needS o.op = true → S w) ho hiq hSy (Region.noSelect_spec hsel) (noDefer_spec hdef) hQ f listed a w hcl (Region.free_spec ho hfree) hr' (.inl ⟨hw, h3⟩) hS
              ((ih _ [] _ _ _ w f hf' (hcl.set hr') (hE.put hd v kb h1) (hSi hS) h2).1 rfl)
          · exact wpAnyHI_first (Sy := fun w => needS o.op = true → S w) ho hiq hSy (Region.noSelect_spec hsel) (noDefer_spec hdef) hQ f listed a w hcl (Region.free_spec ho hfree) hr' (.inr ⟨hw, rfl⟩) hS
              ((ih _ [] _ _ _ w f hf' (hcl.set hr') (hE.put hd undef (some .sk) (fun _ h => by cases h; rfl)) (hSi hS) h').1 rfl)
        exact ⟨fun _ => main, fun _ j hj _ => ⟨f, rfl, main.2 j hj⟩⟩
  | sp i t f iht ihf =>
    intro S acc listed e a w fuel hfu hcl hE hS h
    simp only [denV, told_eq, Array.toArray_toList] at h
    split at h
    · exact h.elim
    · rename_i o ho
      unfold splitG at h
      split at h
      · exact h.elim
      · split at h
        · exact h.elim
        · rename_i s hs
          split at h
          · exact h.elim
          · rename_i v kb hget
            obtain ⟨b, hb, h1, h2⟩ := h
            have hk := hE.know hget (b := b) hb
            cases b with
            | true => exact iht _ acc listed _ a w fuel hfu hcl hk hS (h1 rfl)
            | false => exact ihf _ acc listed _ a w fuel hfu hcl hk hS (h2 rfl)
  | one i r ih =>
    intro S acc listed e a w fuel hf hcl hE hS h
    simp only [denV, told_eq, Array.toArray_toList] at h
    split at h
    · exact h.elim
    · rename_i o ho
      rw [nthO_eq, Array.getElem?_toList] at ho
      cases hb : (dstOk nt o.dst && eqNs (Region.ready .any ops listed) [i]) with
      | false => rw [hb] at h; exact h.elim
      | true =>
        rw [hb] at h
        simp only [Bool.and_eq_true] at hb
        have hre := eqNs_iff hb.2
        have hr' : i ∈ Region.ready .any ops listed := by rw [hre]; simp
        obtain ⟨f, rfl, hf'⟩ := fuelPos hr' hf
        have main : wpAnyHI ro n P ops (liftL nt ds K) qs S (f + 1) listed a w := by
          refine ⟨fun h0 => by rw [h0] at hr'; simp at hr', fun j hj => ?_⟩
          rw [hre] at hj
          simp only [List.mem_singleton] at hj
          subst hj
          unfold Go.wpOpIn
          simp only [ho]
          rcases known_sound hE h with ⟨hw, h'⟩ | ⟨hw, h'⟩
          · rw [if_pos hw]
            exact denOp_sound hent hE h' fun v kb w' hkb hv => ⟨(heldT_of_hld hv).1, (ih _ [] _ _ _ w' f hf' (hcl.set hr') (hE.put hb.1 v kb hkb) (heldT_of_hld hv).1 (heldT_of_hld hv).2).1 rfl⟩
          · exact h'.elim
        exact ⟨fun _ => main, fun _ j hj _ => ⟨f, rfl, main.2 j hj⟩⟩
  | alt i r o' ih ih' =>
    intro S acc listed e a w fuel hf hcl hE hS h
    simp only [denV, told_eq, Array.toArray_toList] at h
    split at h
    · exact h.elim
    · rename_i o ho
      rw [nthO_eq, Array.getElem?_toList] at ho
      cases hb : (dstOk nt o.dst && (Region.ready .any ops listed).contains i) with
      | false => rw [hb] at h; exact h.elim
      | true =>
        rw [hb] at h
        obtain ⟨h1, h2⟩ := h
        simp only [Bool.and_eq_true] at hb
        have hr' : i ∈ Region.ready .any ops listed := by simpa using hb.2
        obtain ⟨f, rfl, hf'⟩ := fuelPos hr' hf
        have hi : wpOpIn (FW ro) n P ops (liftL nt ds K) i (fun a' w' => heldT ops qs S (listed.setIfInBounds i true) w' ∧ wpAnyHI ro n P ops (liftL nt ds K) qs S f (listed.setIfInBounds i true) a' w') a w := by
          unfold Go.wpOpIn
          simp only [ho]
          rcases known_sound hE h1 with ⟨hw, h'⟩ | ⟨hw, h'⟩
          · rw [if_pos hw]
            exact denOp_sound hent hE h' fun v kb w' hkb hv => ⟨(heldT_of_hld hv).1, (ih _ [] _ _ _ w' f hf' (hcl.set hr') (hE.put hb.1 v kb hkb) (heldT_of_hld hv).1 (heldT_of_hld hv).2).1 rfl⟩
          · exact h'.elim
        have rest := (ih' _ (i :: acc) listed e a w (f + 1) hf hcl hE hS h2).2 (by simp)
        have all : ∀ j ∈ Region.ready .any ops listed, j ∉ acc → wpOpIn (FW ro) n P ops (liftL nt ds K) j (fun a' w' => heldT ops qs S (listed.setIfInBounds j true) w' ∧ wpAnyHI ro n P ops (liftL nt ds K) qs S f (listed.setIfInBounds j true) a' w') a w := by
          intro j hj hja
          by_cases hji : j = i
          · subst hji; exact hi
          · obtain ⟨f', hf2, h3⟩ := rest j hj (by simp [hji, hja])
            obtain rfl : f = f' := by omega
            exact h3
        refine ⟨fun hacc => ⟨fun h0 => by rw [h0] at hr'; simp at hr', fun j hj => all j hj (by rw [hacc]; simp)⟩, fun _ j hj hja => ⟨f, rfl, all j hj hja⟩⟩
  | re r ih =>
    intro S acc listed e a w fuel hf hcl hE hS h
    simp only [denV, told_eq, Array.toArray_toList] at h
    obtain ⟨S', h1, h2, h3⟩ := h
    have hm := ih S' acc listed e a w fuel hf hcl hE (fun _ => h1) h3
    refine ⟨fun hacc => wpAnyHI_mono h2 _ _ _ _ (hm.1 hacc), fun hacc i hi hni => ?_⟩
    obtain ⟨f, hf', h4⟩ := hm.2 hacc i hi hni
    exact ⟨f, hf', wpOpIn_mono (fun a' w' h5 => ⟨fun hd => h2 _ (h5.1 hd), wpAnyHI_mono h2 _ _ _ _ h5.2⟩) h4⟩
  | fin =>
    intro S acc listed e a w fuel hf hcl hE hS h
    simp only [denV, told_eq, Array.toArray_toList] at h
    cases acc with
    | nil =>
      refine ⟨fun _ => ?_, fun hne => absurd rfl hne⟩
      simp only at h
      cases hb : eqNs (Region.ready .any ops listed) [] with
      | false => rw [hb] at h; exact h.elim
      | true =>
        rw [hb] at h
        have hre := eqNs_iff hb
        cases fuel with
        | zero => exact ⟨hre, e, hE, h⟩
        | succ f => exact ⟨fun _ => ⟨e, hE, h⟩, fun j hj => by rw [hre] at hj; simp at hj⟩
    | cons x xs =>
      refine ⟨fun hacc => by simp at hacc, fun _ i hi hni => ?_⟩
      simp only at h
      cases hb : subNs (Region.ready .any ops listed) (x :: xs) with
      | false => rw [hb] at h; exact h.elim
      | true => exact absurd (subNs_iff hb i hi) hni
end draws
theorem exists_least {p : Nat → Prop} (h : ∃ d, p d) : ∃ d, p d ∧ ∀ d', p d' → d ≤ d' := by
  obtain ⟨d, hd⟩ := h
  induction d using Nat.strongRecOn with
  | _ d ih =>
    by_cases h : ∃ d', d' < d ∧ p d'
    · obtain ⟨d', h1, h2⟩ := h
      exact ih d' h1 h2
    · exact ⟨d, hd, fun d' h2 => Nat.le_of_not_lt fun h1 => h ⟨d', h1, h2⟩⟩
noncomputable def leastD (p : Nat → Prop) : Nat := open Classical in if h : ∃ d, p d then (exists_least h).choose else 0
theorem leastD_spec {p : Nat → Prop} (h : ∃ d, p d) : p (leastD p) := by
  unfold leastD
  rw [dif_pos h]
  exact (exists_least h).choose_spec.1
theorem leastD_le {p : Nat → Prop} {d : Nat} (h : p d) : leastD p ≤ d := by
  unfold leastD
  rw [dif_pos ⟨d, h⟩]
  exact (exists_least ⟨d, h⟩).choose_spec.2 d h
def lift (nt : Nat) (mk : Bool) (Kn : Kont) (Kx : Nat → Kont) (Kr : Kont) : Exit → Act → World → Prop
  | .normal, a, w => ∃ e ds, Ext nt e ds a ∧ (mk = false → ds = []) ∧ Kn e ds w
  | .exit id, a, w => ∃ e ds, Ext nt e ds a ∧ (mk = false → ds = []) ∧ Kx id e ds w
  | .ret, a, w => ∃ e ds, Ext nt e ds a ∧ (mk = false → ds = []) ∧ Kr e ds w
  | _, _, _ => False
theorem chk_iff {mk : Bool} {ds' ds : List Nat} {p : Prop} (h : chk mk ds' ds p) (h' : mk = false → ds' = []) (h0 : mk = false → ds = []) : ds' = ds ∧ p := by
  cases mk with
  | true => exact h
  | false => exact ⟨(h' rfl).trans (h0 rfl).symm, h⟩
section
theorem Ext.puts {nt : Nat} : ∀ {l : List Nat} {vs : List Value} {e : Env} {ds : List Nat} {a : Act}, Ext nt e ds a → allLt nt l = true → vs.length = l.length →
    Ext nt (Env.puts l vs e) ds { tmps := (l.zip vs).foldl (fun t (p, v) => t.setIfInBounds p v) a.tmps, defers := a.defers }
  | [], [], e, ds, a, h, _, _ => h
  | [], _ :: _, _, _, _, _, _, hl => by simp at hl
  | _ :: _, [], _, _, _, _, _, hl => by simp at hl
  | t :: l, v :: vs, e, ds, a, h, hlt, hl => by
    simp only [allLt, Bool.and_eq_true] at hlt
    exact (h.put (d := some t) hlt.1 v none (fun b hb => by cases hb)).puts hlt.2 (by simpa using hl)
theorem den_sound (hent : ∀ g, memN g ent = true → Enters P g) : ∀ (an : Ann) (mk : Bool) (ro : Option Nat) (n : Nat) (c : Code) (e : Env) (ds : List Nat) (a : Act) (w : World) (Kn : Kont) (Kx : Nat → Kont) (Kr : Kont),
    Ext nt e ds a → (mk = false → ds = []) → den P nt ent mk ro an c e ds w Kn Kx Kr → c.wpIn (FW ro) n P (lift nt mk Kn Kx Kr) a w := by
  intro an
  induction an with
  | leaf =>
    intro mk ro n c e ds a w Kn Kx Kr hE hm h
    cases c with
    | skip => exact wpIn_skip ⟨e, ds, hE, hm, h⟩
    | exit id => exact wpIn_exit ⟨e, ds, hE, hm, h⟩
    | ret => exact wpIn_ret ⟨e, ds, hE, hm, h⟩
    | _ => exact h.elim
  | ops keep =>
    intro mk ro n c e ds a w Kn Kx Kr hE hm h
    cases c with
    | region id ops draw =>
      cases draw with
      | true => exact h.elim
      | false =>
        have h1 := denL_sound (ro := ro) (n := n) hent (all := ops) ops.toList e a w hE h
        refine wpIn_mono (wpIn_region (Q := liftL nt ds fun e' w' => Kn (e'.keep keep) ds w') ?_) ?_
        · rw [List.range_eq_range', ← Array.length_toList]
          exact wpOpsIn_of_L _ 0 (by simp) a w h1
        · intro ex a' w' hx
          cases ex with
          | normal => obtain ⟨e', hE', hK⟩ := hx; exact ⟨_, ds, hE'.sub (get_keep e' keep), hm, hK⟩
          | _ => exact hx.elim
    | _ => exact h.elim
  | draw vs keep =>
    intro mk ro n c e ds a w Kn Kx Kr hE hm h
    cases c with
    | region id ops draw =>
      cases draw with
      | false => exact h.elim
      | true =>
        simp only [den] at h
        cases hb : (P.follows .mixedOrders && (Region.noSelect ops && Region.noDefer ops)) with
        | false => rw [hb] at h; exact h.elim
        | true =>
          rw [hb] at h
          simp only [Bool.and_eq_true] at hb
          obtain ⟨S, hS, h1⟩ := h
          have h2 := (denV_sound (ro := ro) (n := n) hent hb.2.1 hb.2.2 vs _ [] _ e a w.drew ops.size ?_ ?_ hE (fun _ => hS) h1).1 rfl
          · refine wpIn_mono (wpIn_region_any hb.1 (wpAnyIn_of_held _ _ _ _ h2)) ?_
            intro ex a' w' hx
            cases ex with
            | normal => obtain ⟨e', hE', hK⟩ := hx; exact ⟨_, ds, hE'.sub (get_keep e' keep), hm, hK⟩
            | _ => exact hx.elim
          · unfold left
            exact Nat.le_trans (List.length_filter_le _ _) (by simp)
          · intro d od ho hd
            have hlt := (Array.getElem?_eq_some_iff.1 ho).1
            simp [Array.getD_eq_getD_getElem?, Array.getElem?_replicate, hlt] at hd
    | _ => exact h.elim
  | seq x y ihx ihy =>
    intro mk ro n c e ds a w Kn Kx Kr hE hm h
    cases c with
    | seq c d =>
      refine wpIn_seq (wpIn_mono (ihx mk ro n c e ds a w _ Kx Kr hE hm h) ?_)
      intro ex a' w' hx
      cases ex with
      | normal => obtain ⟨e', ds', hE', hm', hK⟩ := hx; exact ihy mk ro n d e' ds' a' w' Kn Kx Kr hE' hm' hK
      | exit id => exact hx
      | ret => exact hx
      | _ => exact hx.elim
    | _ => exact h.elim
  | cond x y ihx ihy =>
    intro mk ro n c e ds a w Kn Kx Kr hE hm h
    cases c with
    | cond c d f =>
      have h' : opdk e c (fun v kb => match kb with | some .sk => False | some (.bl t) => bif t then den P nt ent mk ro x d e ds w Kn Kx Kr else den P nt ent mk ro y f e ds w Kn Kx Kr | none => IfB v (den P nt ent mk ro x d e ds w Kn Kx Kr) (den P nt ent mk ro y f e ds w Kn Kx Kr)) := h
      obtain ⟨kb, hkb, h1⟩ := hE.evalk h'
      cases kb with
      | none =>
        obtain ⟨t, ht, h2, h3⟩ := h1
        exact wpIn_cond_split ht (fun hh => ihx mk ro n d e ds a w Kn Kx Kr hE hm (h2 hh)) (fun hh => ihy mk ro n f e ds a w Kn Kx Kr hE hm (h3 hh))
      | some t =>
        cases t with
        | sk => exact h1.elim
        | bl t =>
        cases t with
        | true => exact wpIn_cond_true (hkb (.bl true) rfl) (ihx mk ro n d e ds a w Kn Kx Kr hE hm h1)
        | false => exact wpIn_cond_false (hkb (.bl false) rfl) (ihy mk ro n f e ds a w Kn Kx Kr hE hm h1)
    | _ => exact h.elim
  | blk x ih =>
    intro mk ro n c e ds a w Kn Kx Kr hE hm h
    cases c with
    | block id c =>
      refine wpIn_block (wpIn_mono (ih mk ro n c e ds a w _ _ Kr hE hm h) ?_)
      intro ex a' w' hx
      cases ex with
      | normal => exact hx
      | exit i =>
        obtain ⟨e', ds', hE', hm', hK⟩ := hx
        simp only [Exit.inBlock]
        by_cases hi : i = id
        · subst hi
          simp only [Nat.beq_refl, cond_true] at hK
          rw [if_pos rfl]
          exact ⟨e', ds', hE', hm', hK⟩
        · have hb : Nat.beq i id = false := by
            cases hb : Nat.beq i id with
            | false => rfl
            | true => exact absurd (Nat.eq_of_beq_eq_true hb) hi
          rw [hb] at hK
          rw [if_neg hi]
          exact ⟨e', ds', hE', hm', hK⟩
      | ret => exact hx
      | _ => exact hx.elim
    | _ => exact h.elim
  | loop cst chg x ih =>
    intro mk ro n c e ds a w Kn Kx Kr hE hm h
    cases c with
    | loop c =>
      obtain ⟨cv, hcl, hcz, h1⟩ := gets_iff e cst _ h
      obtain ⟨hv, hvl, hvz, h2⟩ := gets_iff e chg _ h1
      obtain ⟨I, ⟨d0, hI⟩, hstep⟩ := h2
      have head : ∀ {e : Env} {a : Act} {vs : List Value}, Ext nt e ds a → vs.length = chg.length → (∀ t v, (t, v) ∈ chg.zip vs → ∃ kb, e.get t = some (v, kb)) → (∀ t v, (t, v) ∈ cst.zip cv → ∃ kb, e.get t = some (v, kb)) →
          Ext nt (Env.zips chg vs (Env.zips cst cv [])) ds a := fun hE _ hz hcz => hE.zips hz (hE.zips hcz hE.nil)
      let St : Nat → Act → World → Prop := fun d a' w' => ∃ vs, vs.length = chg.length ∧ Ext nt (Env.zips chg vs (Env.zips cst cv [])) ds a' ∧ I d vs w'
      refine wpIn_loop (fun a' w' => ∃ d, St d a' w') (fun a' w' => leastD (fun d => St d a' w')) ?_ ?_
      · exact ⟨d0, hv, hvl, head hE hvl hvz hcz, hI⟩
      · intro a' w' hSt
        obtain ⟨vs, hvs, hE', hI'⟩ := leastD_spec hSt
        have h3 := hstep _ vs w' hvs hI'
        rw [appN_lamN _ _ _ hvs] at h3
        refine wpIn_mono (ih mk ro n c _ ds a' w' _ Kx Kr hE' hm h3) ?_
        intro ex a'' w'' hx
        cases ex with
        | normal =>
          obtain ⟨e', ds', hE'', hm', hK⟩ := hx
          obtain ⟨cv', hcl', hcz', h4⟩ := gets_iff _ _ _ hK
          obtain ⟨vs', hvl', hvz', h5⟩ := gets_iff _ _ _ h4
          obtain ⟨hcv, h6⟩ := eqs_iff _ _ _ h5
          obtain ⟨hds, h7⟩ := chk_iff h6 hm' hm
          subst hcv; subst hds
          rw [appN_lamN _ _ _ hvl'] at h7
          obtain ⟨d', hd, hI''⟩ := h7
          have hSt' : St d' a'' w'' := ⟨vs', hvl', head hE'' hvl' hvz' hcz', hI''⟩
          exact ⟨⟨d', hSt'⟩, Nat.lt_of_le_of_lt (leastD_le hSt') hd⟩
        | exit id => exact hx
        | ret => exact hx
        | _ => exact hx.elim
    | _ => exact h.elim
  | join live x ih =>
    intro mk ro n c e ds a w Kn Kx Kr hE hm h
    obtain ⟨M, hM, h1⟩ := h
    refine wpIn_mono (ih mk ro n c e ds a w _ Kx Kr hE hm h1) ?_
    intro ex a' w' hx
    cases ex with
    | normal =>
      obtain ⟨e', ds', hE', hm', hK⟩ := hx
      obtain ⟨vs, hl, hz, h2⟩ := gets_iff _ _ _ hK
      obtain ⟨hds, h3⟩ := chk_iff h2 hm' hm
      subst hds
      rw [appN_lamN _ _ _ hl] at h3
      have h4 := hM vs w' hl h3
      rw [appN_lamN _ _ _ hl] at h4
      exact ⟨_, ds', hE'.zips hz hE'.nil, hm', h4⟩
    | exit id => exact hx
    | ret => exact hx
    | _ => exact hx.elim
  | rng la x y ihx ihy =>
    intro mk ro n c e ds a w Kn Kx Kr hE hm h
    cases c with
    | rangeFunc g ps assign body =>
      simp only [den] at h
      cases hb : ((mk || ro.isSome) && allLt nt ps.toList) with
      | false => rw [hb] at h; exact h.elim
      | true =>
        rw [hb] at h
        simp only [Bool.and_eq_true, Bool.or_eq_true] at hb
        obtain ⟨hmk, hlt⟩ := hb
        have h' := hE.eval (x := g) h
        obtain ⟨hrec, gf, lb, hvg, hent', hall⟩ := h'
        -- one round, whatever the activation's function is
        have round : ∀ (fn : FuncId) (l D : Nat) (rec : LoopState → Option Code → Loop), (rec = fun st pe => { state := st, pending := pe, fn, tmps := a.tmps, params := ps, assign, body, defers := D }) →
            ∀ (args : List Value) (W : World) (R : Value → World → Prop), args.length = ps.toList.length → W.heap[l]? = some (.loop (rec .ready none)) →
            appN ps.toList.length (lamN ps.toList.length fun args W => den P nt ent false (some l) x assign (Env.puts ps.toList args e) [] W (fun e1 _ W1 => gets e1 la fun vs => appN la.length (lamN la.length fun vs W2 => W2.heap[l]? = some (.loop (rec .ready none)) ∧
              appN la.length (lamN la.length fun vs W => den P nt ent false (some l) y body (Env.zips la vs []) [] W (fun _ _ W4 => W4.heap[l]? = some (.loop (rec .busy none)) ∧ R (.bool true) (W4.putObj l (.loop (rec .ready none))))
                (fun i _ _ W4 => W4.heap[l]? = some (.loop (rec .busy none)) ∧ R (.bool false) (W4.putObj l (.loop (rec .done (some (.exit i))))))
                (fun _ _ W4 => W4.heap[l]? = some (.loop (rec .busy none)) ∧ R (.bool false) (W4.putObj l (.loop (rec .done (some .ret)))))) vs (W2.putObj l (.loop (rec .busy none)))) vs W1) (fun _ _ _ _ => False) (fun _ _ _ => False)) args W →
            CallV P (.func (.yield l) #[] #[]) args.toArray W R := by
          intro fn l D rec hrc args W R hlen hl h1
          rw [appN_lamN _ _ _ hlen] at h1
          refine Or.inr ⟨l, rfl, fun m => ?_⟩
          have hy := run_yield (P := P) (args := args.toArray) hl (by rw [hrc]; simpa using hlen)
          rw [hrc] at hy
          refine ⟨fn, _, assign, body, hy, ?_⟩
          refine roundIn_of_wpIn (F := Fence.wide) trivial ?_
          have hE0 : Ext nt e [] { a with defers := [] } := ⟨hE.size, hE.get, rfl⟩
          have hE1 := hE0.puts hlt hlen
          have hfold : ((ps.zip args.toArray).foldl (fun t (p, v) => t.setIfInBounds p v) a.tmps) = ((ps.toList.zip args).foldl (fun t (p, v) => t.setIfInBounds p v) a.tmps) := by
            rw [← Array.foldl_toList, Array.toList_zip]
          rw [hfold]
          show assign.wpIn (FW (some l)) m P _ _ W
          refine wpIn_mono (ihx false (some l) m assign _ [] _ W _ _ _ hE1 (fun _ => rfl) h1) ?_
          intro ex a' W' hx
          cases ex with
          | normal =>
            obtain ⟨e1, ds1, hE2, hds, hk⟩ := hx
            obtain ⟨vs, hvl, hvz, hk2⟩ := gets_iff _ _ _ hk
            rw [appN_lamN _ _ _ hvl] at hk2
            obtain ⟨hl2, hk3⟩ := hk2
            rw [appN_lamN _ _ _ hvl] at hk3
            rw [hds rfl] at hE2
            refine ⟨_, run_beginRound hl2 (by rw [hrc]), ?_⟩
            have hb : (W'.putObj l (.loop { rec .ready none with state := .busy })) = W'.putObj l (.loop (rec .busy none)) := by rw [hrc]
            rw [hb]
            show body.wpIn (FW (some l)) m P _ _ _
            refine wpIn_mono (ihy false (some l) m body _ [] _ _ _ _ _ (hE2.zips hvz hE2.nil) (fun _ => rfl) hk3) ?_
            intro ex a'' W4 hx
            have fin : ∀ (jump : Option Code), W4.heap[l]? = some (.loop (rec .busy none)) → (Instr.endRound l jump).run P W4 = .ok (.bool jump.isNone) (W4.putObj l (.loop (rec (if jump.isNone then .ready else .done) jump))) := by
              intro jump h4
              have := run_endRound (P := P) jump h4
              rw [this, hrc]
            cases ex with
            | normal => obtain ⟨_, _, _, _, h4, h5⟩ := hx; exact ⟨_, _, fin none h4, _, rfl, h5⟩
            | exit id => obtain ⟨_, _, _, _, h4, h5⟩ := hx; exact ⟨_, _, fin _ h4, _, rfl, h5⟩
            | ret => obtain ⟨_, _, _, _, h4, h5⟩ := hx; exact ⟨_, _, fin _ h4, _, rfl, h5⟩
            | _ => exact hx.elim
          | exit id => obtain ⟨_, _, _, _, hf⟩ := hx; exact hf.elim
          | ret => obtain ⟨_, _, _, _, hf⟩ := hx; exact hf.elim
          | _ => exact hx.elim
        cases ro with
        | none =>
          have hmk' : mk = true := by simpa using hmk
          have afterE : ∀ D, Ext nt e (D :: ds) { a with defers := { target := .collected D, args := #[] } :: a.defers } := fun D => ⟨hE.size, hE.get, by simp [hE.defers, mkD]⟩
          refine wpIn_rangeFunc ?_
          intro fn hfn
          show ∃ l mark w₁ d w₁' f args w₂, (Instr.enterLoop fn a.tmps ps assign body none).run P w = .ok (l, mark) w₁ ∧ _
          obtain ⟨rec, hrc⟩ : ∃ rec : LoopState → Option Code → Loop, rec = fun st pe => { state := st, pending := pe, fn, tmps := a.tmps, params := ps, assign, body, defers := w.heap.size } := ⟨_, rfl⟩
          obtain ⟨W1, hW1⟩ : ∃ W1, (w.alloc (.deferred (some []))).alloc (.loop (rec .ready none)) = W1 := ⟨_, rfl⟩
          have hL1 : W1.heap[w.heap.size + 1]? = some (.loop (rec .ready none)) := by
            rw [← hW1]; have := World.alloc_heap_new (w.alloc (.deferred (some []))) (.loop (rec .ready none)); rwa [World.size_alloc] at this
          have hK1 : W1.heap[w.heap.size]? = some (.deferred (some [])) := by
            rw [← hW1]; exact (RowKit.Below.heap_alloc _ _ _ (by simp)).trans (World.alloc_heap_new w _)
          have hb1 : RowKit.Below w.heap.size w W1 := by
            rw [← hW1]; exact ((RowKit.Below.refl _ w).alloc (Nat.le_refl _) _).alloc (by simp) _
          have hz1 : w.heap.size + 1 < W1.heap.size := (Array.getElem?_eq_some_iff.1 hL1).1
          refine ⟨w.heap.size + 1, [{ target := .collected w.heap.size, args := #[] }], W1, { target := .fn (.func gf) lb, args := #[.func (.yield (w.heap.size + 1)) #[] #[]] }, W1, gf,
            #[.func (.yield (w.heap.size + 1)) #[] #[]] ++ lb, W1, ?_, ?_, ?_, ?_, ?_, ?_⟩
          · rw [← hW1, hrc]; exact run_enterLoop_outer _ _ _ _ _
          · simp only [resolve, hvg]
            simp [go_sem]
          · intro f' hf'; exact trivial
          · simp [invoke, go_sem, hent' _ _]
          · intro hd; simp [FW, Fence.wide] at hd
          · refine callsIn_FW ?_
            have hc := hall (w.heap.size + 1) w.heap.size rec W1 (by omega) hz1 (fun _ => ⟨Nat.le_refl _, by omega⟩) hb1 hL1 (fun _ => hK1) (round fn _ _ rec hrc)
            refine Calls.mono hc ?_
            rintro ex W2 ⟨v, rfl, (⟨hl, hk⟩ | ⟨c, hl, hk⟩)⟩
            · refine ⟨none, _, by have := run_endLoop (P := P) hl (by rw [hrc]; simp); rw [this, hrc], ?_⟩
              rw [hrc] at hk
              exact ⟨e, _, afterE _, (fun hf => by rw [hmk'] at hf; cases hf), hk⟩
            · refine ⟨some c, _, by have := run_endLoop (P := P) hl (by rw [hrc]; simp); rw [this, hrc], ?_⟩
              rw [hrc] at hk
              cases c with
              | ret => exact wpIn_ret ⟨e, _, afterE _, (fun hf => by rw [hmk'] at hf; cases hf), hk⟩
              | exit i => exact wpIn_exit ⟨e, _, afterE _, (fun hf => by rw [hmk'] at hf; cases hf), hk⟩
              | _ => exact hk.elim
        | some l0 =>
          obtain ⟨r0, hr0⟩ := hrec l0 rfl
          refine wpIn_rangeFunc ?_
          intro fn hfn
          show ∃ l mark w₁ d w₁' f args w₂, (Instr.enterLoop fn a.tmps ps assign body (some l0)).run P w = .ok (l, mark) w₁ ∧ _
          obtain ⟨rec, hrc⟩ : ∃ rec : LoopState → Option Code → Loop, rec = fun st pe => { state := st, pending := pe, fn, tmps := a.tmps, params := ps, assign, body, defers := r0.defers } := ⟨_, rfl⟩
          obtain ⟨W1, hW1⟩ : ∃ W1, w.alloc (.loop (rec .ready none)) = W1 := ⟨_, rfl⟩
          have hL1 : W1.heap[w.heap.size]? = some (.loop (rec .ready none)) := by rw [← hW1]; exact World.alloc_heap_new w _
          have hb1 : RowKit.Below w.heap.size w W1 := by rw [← hW1]; exact (RowKit.Below.refl _ w).alloc (Nat.le_refl _) _
          have hz1 : w.heap.size < W1.heap.size := (Array.getElem?_eq_some_iff.1 hL1).1
          refine ⟨w.heap.size, [], W1, { target := .fn (.func gf) lb, args := #[.func (.yield w.heap.size) #[] #[]] }, W1, gf,
            #[.func (.yield w.heap.size) #[] #[]] ++ lb, W1, ?_, ?_, ?_, ?_, ?_, ?_⟩
          · rw [← hW1, hrc]; exact run_enterLoop_inner hr0 _ _ _ _ _
          · simp only [resolve, hvg]
            simp [go_sem]
          · intro f' hf'; exact trivial
          · simp [invoke, go_sem, hent' _ _]
          · intro hd; simp [FW, Fence.wide] at hd
          · refine callsIn_FW ?_
            have hc := hall w.heap.size w.heap.size rec W1 (Nat.le_refl _) hz1 (fun hf => by cases hf) hb1 hL1 (fun hf => by cases hf) (round fn _ _ rec hrc)
            refine Calls.mono hc ?_
            rintro ex W2 ⟨v, rfl, (⟨hl, hk⟩ | ⟨c, hl, hk⟩)⟩
            · refine ⟨none, _, by have := run_endLoop (P := P) hl (by rw [hrc]; simp); rw [this, hrc], ?_⟩
              rw [hrc] at hk
              exact ⟨e, ds, hE, hm, hk⟩
            · refine ⟨some c, _, by have := run_endLoop (P := P) hl (by rw [hrc]; simp); rw [this, hrc], ?_⟩
              rw [hrc] at hk
              cases c with
              | ret => exact wpIn_ret ⟨e, ds, hE, hm, hk⟩
              | exit i => exact wpIn_exit ⟨e, ds, hE, hm, hk⟩
              | _ => exact hk.elim
    | _ => exact h.elim
theorem get_params : ∀ (vs : List Value) (i t : Nat) (v : Value × Option Kb), Env.get (params i vs) t = some v → i ≤ t ∧ vs[t - i]? = some v.1 ∧ v.2 = none
  | [], i, t, v, h => by simp [params, Env.get] at h
  | u :: us, i, t, v, h => by
    simp only [params] at h
    rw [get_cons] at h
    split at h
    · rename_i hit; subst hit; cases h; simp
    · obtain ⟨h1, h2⟩ := get_params us (i + 1) t v h
      refine ⟨by omega, ?_⟩
      have : t - i = (t - (i + 1)) + 1 := by omega
      rw [this]; simpa using h2
theorem run_mapM_cons {α β : Type} {f : α → Sem β} {x : α} {r : List α} {v : β} {vs : List β} {w : World} (h1 : (f x).run P w = .ok v w) (h2 : (r.mapM f).run P w = .ok vs w) :
    ((x :: r).mapM f).run P w = .ok (v :: vs) w := by
  simp only [List.mapM_cons, Sem.run_bind, h1, h2, Result.andThen, Sem.run_pure]
/-- the results, as the machine reads them -/
theorem retV_sound {e : Env} {ds : List Nat} {a : Act} (hE : Ext nt e ds a) {w : World} : ∀ (rs : List ResultVar) {k : List Value → Prop}, retV P e w rs k →
    ∃ vs, k vs ∧ (rs.mapM (m := Sem) fun | .tmp t => pure (a.tmps.getD t undef) | .cell b t => do loadVar t (← asAddr (a.tmps.getD b undef))).run P w = .ok vs w
  | [], k, h => ⟨[], h, by simp [Sem.run_pure]⟩
  | .tmp t :: r, k, h => by
    have h1 := hE.eval (x := .tmp t) h
    obtain ⟨vs, h2, h3⟩ := retV_sound hE r h1
    exact ⟨_, h2, run_mapM_cons rfl h3⟩
  | .cell b t :: r, k, h => by
    obtain ⟨v, hr, h1⟩ := hE.eval (x := .tmp b) h
    obtain ⟨vs, h2, h3⟩ := retV_sound hE r h1
    refine ⟨_, h2, ?_⟩
    have hv : ∃ ad, a.eval (.tmp b) = .pointer (some ad) ∧ (loadVar t ad).run P w = .ok v w := by
      cases hx : a.eval (.tmp b) with
      | pointer p =>
        cases p with
        | none => rw [hx] at hr; simp [Instr.loadAt, Instr.sureAddr, Sem.run_bind, stuck, Sem.run, Result.andThen] at hr
        | some ad => refine ⟨ad, rfl, ?_⟩; rw [hx] at hr; simpa [Instr.loadAt, Instr.sureAddr, Sem.run_bind, Sem.run_pure, Result.andThen] using hr
      | _ => rw [hx] at hr; simp [Instr.loadAt, Instr.sureAddr, Sem.run_bind, stuck, Sem.run, Result.andThen] at hr
    obtain ⟨ad, hx, hl⟩ := hv
    have hx' : a.tmps.getD b undef = .pointer (some ad) := hx
    refine run_mapM_cons ?_ h3
    simp only [Sem.run_bind, Sem.run_pure, Result.andThen, hx', asAddr, hl]
theorem results_of_list {fn : Func} {tmps : Array Value} {vs : List Value} {w : World}
    (h0 : (fn.results.toList.mapM (m := Sem) fun | .tmp t => pure (tmps.getD t undef) | .cell b t => do loadVar t (← asAddr (tmps.getD b undef))).run P w = .ok vs w) :
    (results fn tmps).run P w = .ok (pack vs) w := by
  unfold results
  rw [Array.mapM_eq_mapM_toList]
  have mapL : ∀ (m : Sem (List Value)), m.run P w = .ok vs w → (List.toArray <$> m : Sem (Array Value)).run P w = .ok vs.toArray w := by
    intro m hm
    show (m >>= fun x => pure (List.toArray x) : Sem (Array Value)).run P w = _
    simp only [Sem.run_bind, hm, Result.andThen, Sem.run_pure]
  have h1 := mapL _ h0
  simp only [Sem.run_bind]
  refine Eq.trans (congrArg (fun r => Result.andThen r _) h1) ?_
  simp only [Result.andThen, Sem.run_pure, List.size_toArray]
  cases vs with
  | nil => rfl
  | cons v vs => cases vs with
    | nil => rfl
    | cons u us => rfl
theorem retK_sound {fn : Func} {R : Value → World → Prop} {a : Act} {e : Env} : ∀ (ds : List Nat) (w : World), Ext nt e [] { a with defers := [] } → retK P fn.results.toList R e ds w →
    LeavesInM (FW none) n P fn a.tmps (fun e w' => ∃ v, e = .returned v ∧ R v w') (ds.map mkD) .returning w
  | [], w, hE, h => by
    obtain ⟨vs, h1, h2⟩ := retV_sound hE _ h
    exact ⟨pack vs, results_of_list h2, _, rfl, h1⟩
  | D :: ds, w, hE, h => by
    refine ⟨by simp, .inl ⟨D, _, rfl, run_takeDeferred h.1, retK_sound ds _ hE h.2⟩⟩
def enterOk (P : Program) : List Nat → Bool
  | [] => true
  | g :: r => (match P.funcs[g]? with | some fn => fn.body.isSome && !(fn.name == "runtime.NumGoroutine") | none => false) && enterOk P r
theorem enters_all {l : List Nat} (h : enterOk P l = true) : ∀ g, memN g l = true → Enters P g := by
  induction l with
  | nil => intro g hg; simp [memN] at hg
  | cons x r ih =>
    intro g hg
    simp only [enterOk, Bool.and_eq_true] at h
    rw [memN_iff] at hg
    simp only [List.mem_cons] at hg
    rcases hg with rfl | hg
    · have h1 := h.1
      split at h1
      · rename_i fn hfn
        simp only [Bool.and_eq_true, Bool.not_eq_true'] at h1
        obtain ⟨c, hc⟩ := Option.isSome_iff_exists.1 h1.1
        exact enters_of hfn h1.2 hc
      · cases h1
    · exact ih h.2 g ((memN_iff _ _).2 hg)
theorem calls_of_denF {mk : Bool} (hent : ∀ g, memN g ent = true → Enters P g) {f : FuncId} {fn : Func} {c : Code} {an : Ann} {args : List Value} {w : World} {R : Value → World → Prop}
    (hf : P.funcs[f]? = some fn) (hb : fn.body = some c) (hlen : args.length ≤ fn.ntmps) (h : denF P ent mk fn an c args w R) : CallF P f args.toArray w R := by
  refine callsIn_wide.1 (callsIn_of_wp_marks (F := FW none) (n := 1) hf hb trivial (wpIn_mono (den_sound hent an mk none 1 c _ [] _ w _ _ _ ⟨?_, ?_, rfl⟩ (fun _ => rfl) h) ?_))
  · simp; omega
  · intro t v ht
    obtain ⟨_, h2, h3⟩ := get_params args 0 t v ht
    simp only [Nat.sub_zero] at h2
    obtain ⟨hlt, h4⟩ := List.getElem?_eq_some_iff.1 h2
    refine ⟨by omega, ?_, fun b hb => by rw [h3] at hb; cases hb⟩
    rw [Array.getElem?_append_left (by simpa using hlt)]
    simpa using h2
  · intro ex a' w' hx
    have fin : (∃ e ds, Ext fn.ntmps e ds a' ∧ (mk = false → ds = []) ∧ retK P fn.results.toList R e ds w') → LeavesInM (FW none) 1 P fn a'.tmps (fun e w' => ∃ v, e = .returned v ∧ R v w') a'.defers .returning w' := by
      rintro ⟨e, ds, hE, _, hk⟩
      rw [hE.defers]
      exact retK_sound ds w' ⟨hE.size, hE.get, rfl⟩ hk
    cases ex with
    | normal => exact fin hx
    | ret => exact fin hx
    | exit id => obtain ⟨_, _, _, _, h⟩ := hx; exact h.elim
    | _ => exact hx.elim
end
end
end Go.Ez
namespace Go.Ez
open Go Go.Proofs Go.RowKit
set_option linter.unusedSimpArgs false
set_option linter.unusedVariables false
section
variable {P : Program} {w : World} {K : Value → Prop} {KW : Value → World → Prop} {KU : World → Prop}
theorem RunA.of {m : Sem Value} {v : Value} (h : ∀ w, m.run P w = .ok v w) (k : K v) : RunA P m K := ⟨v, h, k⟩
theorem RunW.of {m : Sem Value} {v : Value} (h : m.run P w = .ok v w) (k : K v) : RunW P m w K := ⟨v, h, k⟩
theorem RunS.of {S : World → Prop} {m : Sem Value} {v : Value} (h : ∀ w, S w → m.run P w = .ok v w) (k : K v) : RunS P S m K := ⟨v, h, k⟩
theorem RunV.of {m : Sem Value} {v : Value} {w' : World} (h : m.run P w = .ok v w') (k : KW v w') : RunV P m w KW := ⟨v, w', h, k⟩
theorem RunU.of {m : Sem Unit} {w' : World} (h : m.run P w = .ok () w') (k : KU w') : RunU P m w KU := ⟨w', h, k⟩
theorem ifb {b : Bool} {p q : Prop} (h : b = true → p) (h' : b = false → q) : IfB (.bool b) p q := ⟨b, rfl, h, h'⟩
theorem ifd {c : Prop} [Decidable c] {p q : Prop} (h : c → p) (h' : ¬ c → q) : IfB (.bool (decide c)) p q :=
  ⟨decide c, rfl, fun e => h (of_decide_eq_true e), fun e => h' (of_decide_eq_false e)⟩
theorem ifd_pos {c : Prop} [Decidable c] {p q : Prop} (hc : c) (h : p) : IfB (.bool (decide c)) p q := ifd (fun _ => h) (fun n => absurd hc n)
theorem ifd_neg {c : Prop} [Decidable c] {p q : Prop} (hc : ¬ c) (h : q) : IfB (.bool (decide c)) p q := ifd (fun y => absurd y hc) (fun _ => h)
theorem ift {p q : Prop} (h : p) : IfB (.bool true) p q := ⟨true, rfl, fun _ => h, by simp⟩
theorem iff' {p q : Prop} (h : q) : IfB (.bool false) p q := ⟨false, rfl, by simp, fun _ => h⟩
/-- I holds where the loop begins; a round hands it on, and μ goes down -/
theorem lpx {α : Type} (f : α → List Value) (I : α → World → Prop) (μ : α → Nat) {n : Nat} {body : FnN n → FnN n} {vs : List Value} (x0 : α) (hf : ∀ x, (f x).length = n) (h0 : vs = f x0) (hI : I x0 w)
    (hstep : ∀ (next : FnN n) x w, (∀ x' w', μ x' < μ x → I x' w' → appN n next (f x') w') → I x w → appN n (body next) (f x) w) : lp n body vs w :=
  ⟨fun d vs w => ∃ x, vs = f x ∧ μ x = d ∧ I x w, ⟨_, x0, h0, rfl, hI⟩, by
    rintro d vs' w' hl ⟨x, rfl, rfl, hx⟩
    refine hstep _ x w' (fun x' w' hlt hI' => ?_) hx
    rw [appN_lamN _ _ _ (hf x')]
    exact ⟨_, hlt, x', rfl, rfl, hI'⟩⟩
/-- where ways meet: k itself -/
theorem jni {n : Nat} {k : FnN n} {body : FnN n → Prop} (M : List Value → World → Prop) (hM : ∀ vs w, vs.length = n → M vs w → appN n k vs w) (h : body (lamN n M)) : jn n k body := ⟨M, hM, h⟩
section nums
variable {t : TypeId} {X Y : Operand} {k k' : IntKind} {a b : Int}
theorem a_lss (h : K (.bool (decide (a < b)))) : RunA P (bin .lss t X Y (.int k a) (.int k b)) K := .of (fun w => by simp [bin, go_sem, binOp]) h
theorem a_leq (h : K (.bool (decide (a ≤ b)))) : RunA P (bin .leq t X Y (.int k a) (.int k b)) K := .of (fun w => by simp [bin, go_sem, binOp]) h
theorem a_gtr (h : K (.bool (decide (b < a)))) : RunA P (bin .gtr t X Y (.int k a) (.int k b)) K := .of (fun w => by simp [bin, go_sem, binOp]) h
theorem a_geq (h : K (.bool (decide (b ≤ a)))) : RunA P (bin .geq t X Y (.int k a) (.int k b)) K := .of (fun w => by simp [bin, go_sem, binOp]) h
theorem w_eql (h : K (.bool (decide (a = b)))) : RunW P (bin .eql t X Y (.int k a) (.int k b)) w K := .of (by simp [bin, go_sem, binOp]; rfl) h
theorem w_neq (h : K (.bool (decide (a ≠ b)))) : RunW P (bin .neq t X Y (.int k a) (.int k b)) w K := .of (by simp [bin, go_sem, binOp, bne]; rfl) h
theorem s_eql {S : World → Prop} (h : K (.bool (decide (a = b)))) : RunS P S (bin .eql t X Y (.int k a) (.int k b)) K := .of (fun w _ => by simp [bin, go_sem, binOp]; rfl) h
theorem s_neq {S : World → Prop} (h : K (.bool (decide (a ≠ b)))) : RunS P S (bin .neq t X Y (.int k a) (.int k b)) K := .of (fun w _ => by simp [bin, go_sem, binOp, bne]; rfl) h
theorem a_add (h : K (.int k (k.wrap (a + b)))) : RunA P (bin .add t X Y (.int k a) (.int k b)) K := .of (fun w => by simp [bin, go_sem, binOp]) h
theorem a_sub (h : K (.int k (k.wrap (a - b)))) : RunA P (bin .sub t X Y (.int k a) (.int k b)) K := .of (fun w => by simp [bin, go_sem, binOp]) h
theorem a_mul (h : K (.int k (k.wrap (a * b)))) : RunA P (bin .mul t X Y (.int k a) (.int k b)) K := .of (fun w => by simp [bin, go_sem, binOp]) h
theorem wrap64 (h : -9223372036854775808 ≤ a) (h' : a ≤ 9223372036854775807) : IntKind.i64.wrap a = a := by
  simp only [IntKind.wrap, IntKind.bits, IntKind.signed]
  simp
  omega
theorem a_add64 (h1 : -9223372036854775808 ≤ a + b) (h2 : a + b ≤ 9223372036854775807) (h : K (.int .i64 (a + b))) : RunA P (bin .add t X Y (.int .i64 a) (.int .i64 b)) K := a_add (by rw [wrap64 h1 h2]; exact h)
theorem a_sub64 (h1 : -9223372036854775808 ≤ a - b) (h2 : a - b ≤ 9223372036854775807) (h : K (.int .i64 (a - b))) : RunA P (bin .sub t X Y (.int .i64 a) (.int .i64 b)) K := a_sub (by rw [wrap64 h1 h2]; exact h)
theorem a_mul64 (h1 : -9223372036854775808 ≤ a * b) (h2 : a * b ≤ 9223372036854775807) (h : K (.int .i64 (a * b))) : RunA P (bin .mul t X Y (.int .i64 a) (.int .i64 b)) K := a_mul (by rw [wrap64 h1 h2]; exact h)
theorem a_quo (hb : b ≠ 0) (h : K (.int k (k.wrap (a.tdiv b)))) : RunA P (bin .quo t X Y (.int k a) (.int k b)) K := .of (fun w => by simp [bin, go_sem, binOp, hb]) h
theorem a_rem (hb : b ≠ 0) (h : K (.int k (a.tmod b))) : RunA P (bin .rem t X Y (.int k a) (.int k b)) K := .of (fun w => by simp [bin, go_sem, binOp, hb]) h
/-- a number that is not below 0, by one above it -/
theorem a_quo64 (ha : 0 ≤ a) (ha' : a ≤ 9223372036854775807) (hb : 0 < b) (h : K (.int .i64 (a / b))) : RunA P (bin .quo t X Y (.int .i64 a) (.int .i64 b)) K :=
  a_quo (by omega) (by
    have h1 := Int.ediv_nonneg ha (Int.le_of_lt hb)
    have h2 : a / b ≤ a := Int.ediv_le_self b ha
    rw [Int.tdiv_eq_ediv_of_nonneg ha, wrap64 (by omega) (by omega)]; exact h)
theorem a_rem64 (ha : 0 ≤ a) (hb : 0 < b) (h : K (.int k (a % b))) : RunA P (bin .rem t X Y (.int k a) (.int k b)) K :=
  a_rem (by omega) (by rw [Int.tmod_eq_emod_of_nonneg ha]; exact h)
theorem ofInt_nat (n : Nat) {x : Int} (h0 : 0 ≤ x) (h1 : x < 2 ^ n) : (BitVec.ofInt n x).toNat = x.toNat := by
  obtain ⟨m, rfl⟩ := Int.eq_ofNat_of_zero_le h0
  have hm : m < 2 ^ n := by exact_mod_cast h1
  simp [BitVec.toNat_ofInt]
  exact Nat.mod_eq_of_lt hm
theorem wrap_nat {m : Nat} (h : (m : Int) ≤ k.max) : k.wrap m = m := by
  cases k <;> simp [IntKind.wrap, IntKind.bits, IntKind.signed, IntKind.max] at h ⊢ <;> omega
theorem a_or (ha : 0 ≤ a) (ha' : a < 2 ^ k.bits) (hb : 0 ≤ b) (hb' : b < 2 ^ k.bits) (hm : ((a.toNat ||| b.toNat : Nat) : Int) ≤ k.max) (h : K (.int k ((a.toNat ||| b.toNat : Nat) : Int))) :
    RunA P (bin .or t X Y (.int k a) (.int k b)) K :=
  .of (v := .int k ((a.toNat ||| b.toNat : Nat) : Int)) (fun w => by
    simp only [bin, eqGuard_or, binOp, Op.intBits, Sem.run_bind, Sem.run_pure, Result.andThen, ne_eq, not_true_eq_false, if_false, BitVec.toNat_or, ofInt_nat _ ha ha', ofInt_nat _ hb hb', wrap_nat hm]) h
theorem a_not {b : Bool} (h : K (.bool (!b))) : RunA P (Op.unary .not (.bool b)) K := .of (fun w => by simp [Op.unary]) h
/-- a number in another kind -/
theorem v_conv {src dst : TypeId} {d0 : TypeDesc} (hs : P.underlying src = some d0) (hd : P.underlying dst = some (.int k)) (h : KW (.int k (k.wrap a)) w) : RunV P (convert src dst (.int k' a)) w KW :=
  .of (by simp [convert, run_underlying hs, run_underlying hd, Conv.intToInt]) h
end nums
theorem run_equalIn_bool (d : Nat) {t : TypeId} {a b : Bool} (ht : P.underlying t = some .bool) : (Op.equalIn (d + 1) t (.bool a) (.bool b)).run P w = .ok (a == b) w := by
  simp [Op.equalIn, run_underlying ht]
theorem run_equal_bool {t : TypeId} {a b : Bool} (ht : P.underlying t = some .bool) : (Op.equal t (.bool a) (.bool b)).run P w = .ok (a == b) w := run_equalIn_bool 9999 ht
theorem w_neqb {t : TypeId} {X Y : Operand} {a b : Bool} (ht : P.underlying t = some .bool) (h : K (.bool (!(a == b)))) : RunW P (bin .neq t X Y (.bool a) (.bool b)) w K :=
  .of (by
    show (do eqGuard .neq t X Y (.bool a) (.bool b); pure (Value.bool (!(← Op.equal t (.bool a) (.bool b)))) : Sem Value).run P w = _
    simp only [eqGuard_at_bool, Sem.run_bind, Sem.run_pure, Result.andThen, run_equal_bool ht]) h
theorem a_ext {vs : Array Value} {i : Nat} {v : Value} (hv : vs[i]? = some v) (h : K v) : RunA P (Instr.extract (.tuple vs) i) K := .of (fun w => by simp [Instr.extract, hv]) h
theorem a_ext0 {v0 : Value} {vs : List Value} (h : K v0) : RunA P (Instr.extract (.tuple (List.toArray (v0 :: vs))) 0) K := a_ext (by simp) h
theorem a_ext1 {v0 v1 : Value} {vs : List Value} (h : K v1) : RunA P (Instr.extract (.tuple (List.toArray (v0 :: v1 :: vs))) 1) K := a_ext (by simp) h
theorem a_nil {a : Addr} (h : K (.pointer (some a))) : RunA P (nilV (.pointer (some a))) K := .of (fun w => by simp [nilV]) h
/-- a byte of a text -/
theorem a_index {t : TypeId} {k : IntKind} {i : Int} {s : ByteArray} (ht : P.underlying t = some .string) (h0 : 0 ≤ i) (h1 : i < s.size) (h : K (.int .u8 ((s.data[i.toNat]'(by have : s.size = s.data.size := rfl; omega)).toNat : Int))) :
    RunA P (Instr.index t (.string s) (.int k i)) K :=
  .of (fun w => by
    have hlt : i.toNat < s.size := by omega
    simp only [Instr.index, asIntOf, run_underlying ht, Sem.run_bind, Sem.run_pure, Result.andThen, h0, if_true, getElem?_pos s i.toNat hlt]
    rfl) h
/-- v is a slice of n elements of so many cells each; they hold cs -/
def Sl (w : World) (sz : Nat) (v : Value) (n : Nat) (cs : List Value) : Prop :=
  ∃ ao cap, v = .slice ao n cap ∧ n ≤ cap ∧ cs.length = n * sz ∧ (∀ j u, cs[j]? = some u → ∃ b o, ao = some ⟨b, o, none⟩ ∧ w.cell? ⟨b, o + j, none⟩ = some u) ∧ (ao = none → cap = 0)
theorem Sl.nil (w : World) (sz : Nat) : Sl w sz (.slice none 0 0) 0 [] := ⟨none, 0, rfl, Nat.le_refl _, by simp, by simp, fun _ => rfl⟩
/-- cells that are there stay where no block that was there has turned -/
theorem Sl.below {w w' : World} {sz : Nat} {v : Value} {n : Nat} {cs : List Value} (h : Sl w sz v n cs) (hb : Below w.heap.size w w') : Sl w' sz v n cs := by
  obtain ⟨ao, cap, hv, h1, h2, h3, h4⟩ := h
  refine ⟨ao, cap, hv, h1, h2, fun j u hj => ?_, h4⟩
  obtain ⟨b, o, e1, e2⟩ := h3 j u hj
  exact ⟨b, o, e1, (hb.cell (p := ⟨b, o + j, none⟩) (World.block_lt_of_cell? _ _ e2)).trans e2⟩
theorem Sl.of_own {w : World} {base : Nat} {e : TypeId} {sz : Nat} {v : Value} {n : Nat} {cs : List Value} (h : w.ownsRow base e sz v n cs) : Sl w sz v n cs := by
  rcases h.2 with ⟨rfl, rfl⟩ | ⟨g, cap, cur, rfl, hb, hg, hnc, hcm, hcs, htake⟩
  · have : cs = [] := List.eq_nil_of_length_eq_zero (by simpa using h.1)
    subst this
    exact Sl.nil w sz
  · refine ⟨_, cap, rfl, hnc, h.1, fun j u hj => ⟨g, 0, rfl, ?_⟩, by simp⟩
    have := h.cells (g := g) rfl j u hj
    have hadd : (⟨g, 0, none⟩ : Addr).add j = ⟨g, 0 + j, none⟩ := by unfold Addr.add; split <;> simp_all
    rw [hadd] at this
    exact this
theorem w_len {t e ty : TypeId} {ao : Option Addr} {n c : Nat} (ht : P.underlying t = some (.slice e)) (h : K (.int .i64 n)) : RunW P (Builtin.len_ #[t] ty #[.slice ao n c]) w K :=
  .of (by simp [Builtin.len_, run_underlying ht, goInt]) h
theorem s_len {S : World → Prop} {t e ty : TypeId} {ao : Option Addr} {n c : Nat} (ht : P.underlying t = some (.slice e)) (h : K (.int .i64 n)) : RunS P S (Builtin.len_ #[t] ty #[.slice ao n c]) K :=
  .of (fun w _ => by simp [Builtin.len_, run_underlying ht, goInt]) h
theorem w_lens {t ty : TypeId} {s : ByteArray} (ht : P.underlying t = some .string) (h : K (.int .i64 s.size)) : RunW P (Builtin.len_ #[t] ty #[.string s]) w K :=
  .of (by simp [Builtin.len_, run_underlying ht, goInt]) h
theorem s_lens {S : World → Prop} {t ty : TypeId} {s : ByteArray} (ht : P.underlying t = some .string) (h : K (.int .i64 s.size)) : RunS P S (Builtin.len_ #[t] ty #[.string s]) K :=
  .of (fun w _ => by simp [Builtin.len_, run_underlying ht, goInt]) h
/-- the length, off what is known of the slice -/
theorem w_lenS {t e ty : TypeId} {v : Value} {sz n : Nat} {cs : List Value} {w0 : World} (ht : P.underlying t = some (.slice e)) (hs : Sl w0 sz v n cs) (h : K (.int .i64 n)) : RunW P (Builtin.len_ #[t] ty #[v]) w K := by
  obtain ⟨ao, cap, rfl, _⟩ := hs
  exact w_len ht h
theorem s_lenS {S : World → Prop} {t e ty : TypeId} {v : Value} {sz n : Nat} {cs : List Value} {w0 : World} (ht : P.underlying t = some (.slice e)) (hs : Sl w0 sz v n cs) (h : K (.int .i64 n)) : RunS P S (Builtin.len_ #[t] ty #[v]) K := by
  obtain ⟨ao, cap, rfl, _⟩ := hs
  exact s_len ht h
theorem addr_add (b o n : Nat) : (⟨b, o, none⟩ : Addr).add n = ⟨b, o + n, none⟩ := by unfold Addr.add; split <;> simp_all
/-- an element's address -/
theorem a_indexAt {t e : TypeId} {k : IntKind} {b o n c sz : Nat} {i : Int} (ht : P.underlying t = some (.slice e)) (hz : ∀ w, (sizeOf e).run P w = .ok sz w) (h0 : 0 ≤ i) (h1 : i < n)
    (h : K (.pointer (some ⟨b, o + i.toNat * sz, none⟩))) : RunA P (Instr.indexAt t (.slice (some ⟨b, o, none⟩) n c) (.int k i)) K :=
  .of (fun w => by
    simp [Instr.indexAt, asIntOf, run_underlying ht, h0, h1, hz]
    rw [addr_add]) h
/-- an element's address, off what is known of the slice: and the cells behind it -/
theorem a_indexS {t e : TypeId} {k : IntKind} {v : Value} {n sz : Nat} {cs : List Value} {i : Int} {w0 : World} (ht : P.underlying t = some (.slice e)) (hz : ∀ w, (sizeOf e).run P w = .ok sz w) (hsz : 0 < sz) (hs : Sl w0 sz v n cs) (h0 : 0 ≤ i) (h1 : i < n)
    (h : ∀ b o, (∀ j u, j < sz → cs[i.toNat * sz + j]? = some u → w0.cell? ⟨b, o + j, none⟩ = some u) → K (.pointer (some ⟨b, o, none⟩))) : RunA P (Instr.indexAt t v (.int k i)) K := by
  obtain ⟨ao, cap, rfl, hnc, hl, hc, _⟩ := hs
  have hlt : i.toNat * sz < cs.length := by
    rw [hl]
    have : i.toNat + 1 ≤ n := by omega
    calc i.toNat * sz < i.toNat * sz + sz := by omega
      _ = (i.toNat + 1) * sz := by rw [Nat.add_mul, Nat.one_mul]
      _ ≤ n * sz := Nat.mul_le_mul_right _ this
  obtain ⟨b, o, rfl, _⟩ := hc _ _ (List.getElem?_eq_getElem hlt)
  refine a_indexAt ht hz h0 h1 (h _ _ fun j u hj hu => ?_)
  obtain ⟨b', o', e1, e2⟩ := hc _ _ hu
  cases e1
  rw [Nat.add_assoc]
  exact e2
theorem w_load {t : TypeId} {a : Addr} {v : Value} (hagg : ∀ w, (isAgg t).run P w = .ok false w) (hc : w.cell? a = some v) (h : K v) : RunW P (Instr.loadAt t (.pointer (some a))) w K :=
  .of (by simp [Instr.loadAt, Instr.sureAddr, loadVar, hagg, hc]) h
theorem s_load {S : World → Prop} {t : TypeId} {a : Addr} {v : Value} (hagg : ∀ w, (isAgg t).run P w = .ok false w) (hc : ∀ w, S w → w.cell? a = some v) (h : K v) : RunS P S (Instr.loadAt t (.pointer (some a))) K :=
  .of (fun w hw => by simp [Instr.loadAt, Instr.sureAddr, loadVar, hagg, hc w hw]) h
theorem u_store {t : TypeId} {a : Addr} {u v : Value} (hagg : ∀ w, (isAgg t).run P w = .ok false w) (hz : ∀ w, (sizeOf t).run P w = .ok 1 w) (h1 : v.oneCell' = true) (hc : w.cell? a = some u) (hf : w.frozen? a = false) (h : KU (w.setCell a v)) :
    RunU P (Instr.storeAt t (.pointer (some a)) v) w KU :=
  .of (by
    have hcells : v.cells = #[v] := by cases v <;> first | rfl | (simp [Value.oneCell'] at h1)
    simp only [Instr.storeAt, Instr.sureAddr, storeVar, Sem.run_bind, Sem.run_pure, Result.andThen, hz, hcells, List.size_toArray, List.length_cons, List.length_nil, Nat.zero_add, ne_eq, not_true_eq_false, if_false, storeCells, Addr.add_zero', run_store P w a v .plain h1, hc, hf, Bool.false_eq_true]) h
theorem v_alloc {e : TypeId} {z : Value} (hz : ∀ w, (zeroValue e).run P w = .ok z w) (h : KW (.pointer (some ⟨w.heap.size, 0, none⟩)) (w.alloc (.cells z.cells e))) : RunV P (Instr.alloc e true (.tuple #[])) w KW :=
  .of (by simp [Instr.alloc, hz, newVar, newRow, Sem.run_bind, Sem.run_pure, Result.andThen, run_newObj_alloc]) h
theorem v_box {e : TypeId} {v : Value} (h : KW (.pointer (some ⟨w.heap.size, 0, none⟩)) (w.alloc (.cells v.cells e))) : RunV P (Instr.box e v) w KW :=
  .of (by simp [Instr.box, newVar, newRow, Sem.run_bind, Sem.run_pure, Result.andThen, run_newObj_alloc]) h
theorem v_func {fn : Fn} {first captured : Array Value} (h : KW (.func fn first captured) w) : RunV P (Instr.makeFunc fn first captured) w KW := .of (by simp [Instr.makeFunc]) h
/-- what is asked of a slice's type: its element's type, cells and bytes -/
structure ElT (P : Program) (t e : TypeId) (sz bytes : Nat) (z : Value) : Prop where
  und : P.underlying t = some (.slice e)
  info : (P.info? e).map (fun i => (i.zero, i.size, i.bytes)) = some (some z, sz, bytes)
  cells : z.cells.size = sz
  pos : 0 < sz
theorem ElT.size {t e : TypeId} {sz bytes : Nat} {z : Value} (h : ElT P t e sz bytes z) (w : World) : (sizeOf e).run P w = .ok sz w := by
  obtain ⟨i, h1, h2, h3, h4⟩ := info_parts h.info
  simp [sizeOf, typeInfo, h1, h3]
theorem ElT.zero {t e : TypeId} {sz bytes : Nat} {z : Value} (h : ElT P t e sz bytes z) (w : World) : (zeroValue e).run P w = .ok z w := by
  obtain ⟨i, h1, h2, h3, h4⟩ := info_parts h.info
  simp [zeroValue, typeInfo, h1, h2]
/-- 'append(v, u...)': v the call's own, u whatever -/
theorem v_app {base : Nat} {t e ty : TypeId} {sz bytes : Nat} {z : Value} (hT : ElT P t e sz bytes z) {v : Value} {n : Nat} {xs : List Value} (hown : w.ownsRow base e sz v n xs)
    {u : Value} {m : Nat} {news : List Value} (hu : Sl w sz u m news) (h1 : ∀ c ∈ news, c.oneCell' = true) (hm : n + m ≤ maxLen) (hb : (n + m) * bytes ≤ 140737488355328) (hbase : base ≤ w.heap.size)
    (h : ∀ v' w', w'.ownsRow base e sz v' (n + m) (xs ++ news) → w.grownBy w' v.ownBlock → (v' = .slice none 0 0 ↔ v = .slice none 0 0 ∧ m = 0) → KW v' w') : RunV P (Builtin.append_ #[t, t] ty #[v, u]) w KW := by
  obtain ⟨i, hi, hz, hs, hby⟩ := info_parts hT.info
  obtain ⟨ao, cap, rfl, hmc, hl, hc, hnil⟩ := hu
  cases ao with
  | none =>
    obtain rfl : cap = 0 := hnil rfl
    obtain rfl : m = 0 := by omega
    have : news = [] := List.eq_nil_of_length_eq_zero (by simpa using hl)
    subst this
    exact .of (run_append_owned_none (P := P) w base t ty e i sz hT.und hi v n xs hown) (h _ _ (by simpa using hown) ⟨rfl, rfl, rfl, Nat.le_refl _, fun _ _ _ => rfl⟩ (by simp))
  | some a =>
    obtain ⟨v', w', hr, h2, h3, h4⟩ := run_append_own (P := P) w base t ty e i z sz bytes hT.und hi hz hs hby hT.cells hT.pos v n xs hown a m cap news hl
      (fun j x hj => by obtain ⟨b', o', e1, e2⟩ := hc j x hj; cases e1; rw [addr_add]; exact e2) h1 hm hb hbase
    exact .of hr (h v' w' h2 h3 h4)
theorem v_lit1 {t e : TypeId} {bytes : Nat} {z x : Value} (hT : ElT P t e 1 bytes z) (hx : x.oneCell' = true) (h : KW (.slice (some ⟨w.heap.size, 0, none⟩) 1 1) (w.alloc (.cells #[x] e))) : RunV P (Instr.buildSlice t 1 #[(0, x)]) w KW := by
  have hc : x.cells = #[x] := by cases x <;> first | rfl | (simp [Value.oneCell'] at hx)
  exact .of (by simp [Instr.buildSlice, run_underlying hT.und, hT.size, hT.zero, Instr.fill, newRow, Sem.run_bind, Sem.run_pure, Result.andThen, run_newObj_alloc, hc, Array.range_succ, Array.range_zero']) h
theorem own_lit {base e : Nat} {cs : List Value} {n : Nat} (hb : base ≤ w.heap.size) (hn : cs.length = n) (hm : n ≤ maxLen) : (w.alloc (.cells cs.toArray e)).ownsRow base e 1 (.slice (some ⟨w.heap.size, 0, none⟩) n n) n cs := by
  have := World.ownsRow_lit (base := base) (e := e) (size := 1) w cs.toArray n hb hm (by simp [hn])
  simpa using this
def byteV (b : UInt8) : Value := .int .u8 (b.toNat : Int)
def bytesV (l : List UInt8) : List Value := l.map byteV
theorem bytesV_append (l m : List UInt8) : bytesV (l ++ m) = bytesV l ++ bytesV m := by simp [bytesV]
theorem bytesV_length (l : List UInt8) : (bytesV l).length = l.length := by simp [bytesV]
/-- a []byte that holds l -/
abbrev By (w : World) (v : Value) (l : List UInt8) : Prop := Sl w 1 v l.length (bytesV l)
/-- string(v) -/
theorem v_str {src dst e : TypeId} {v : Value} {l : List UInt8} (hs : P.underlying src = some (.slice e)) (he : P.underlying e = some (.int .u8)) (hd : P.underlying dst = some .string) (hv : By w v l)
    (h : KW (.string ⟨l.toArray⟩) w) : RunV P (convert src dst v) w KW := by
  obtain ⟨ao, cap, rfl, hmc, hl, hc, hnil⟩ := hv
  by_cases hl0 : l = []
  · subst hl0
    refine .of ?_ h
    rw [run_convert_bytes_string w src dst e ao _ cap hs he hd]
    cases ao <;> simp [Conv.bytesToString, loadCells, loadCellsFrom, Sem.run_bind, Result.andThen] <;> rfl
  · have hpos : 0 < l.length := List.length_pos_iff.2 hl0
    obtain ⟨b, o, rfl, _⟩ := hc 0 (byteV l[0]) (by simp [bytesV, hpos])
    have := run_convert_bytes_arg (P := P) w src e hs he b o l.length cap (l.map fun x => (x.toNat : Int)) (by simp) (fun i hi => by
      obtain ⟨b', o', e1, e2⟩ := hc i (byteV l[i]) (by simp [bytesV, hi])
      cases e1
      rw [e2]
      simp [byteV, List.getD, hi]) dst hd
    refine .of this ?_
    have e : strOfNums (l.map fun x => (x.toNat : Int)) = ⟨l.toArray⟩ := by
      unfold strOfNums
      congr 1
      congr 1
      rw [List.map_map]
      conv => rhs; rw [← List.map_id l]
      refine List.map_congr_left fun x _ => ?_
      simp
    rw [e]; exact h
theorem bytes_eq {a b : List UInt8} : ((⟨a.toArray⟩ : ByteArray).toList == (⟨b.toArray⟩ : ByteArray).toList) = decide (a = b) := by
  simp only [ByteArray.toList_mk]
  rw [Bool.eq_iff_iff]; simp
theorem str_inj {a b : ByteArray} : a.toList = b.toList ↔ a = b := by
  rw [ByteArray.toList_eq, ByteArray.toList_eq]
  refine ⟨fun h => ?_, fun h => by rw [h]⟩
  cases a; cases b
  simp only [ByteArray.mk.injEq]
  exact Array.toList_inj.1 h
theorem w_eqls {t : TypeId} {X Y : Operand} {a b : ByteArray} (h : K (.bool (decide (a = b)))) : RunW P (bin .eql t X Y (.string a) (.string b)) w K :=
  .of (v := .bool (decide (a = b))) (by
    simp only [bin, eqGuard_at_string, binOp_string_eql, Sem.run_bind, Sem.run_pure, Result.andThen]
    congr 2
    rw [Bool.eq_iff_iff]; simp [str_inj]) h
theorem w_neqs {t : TypeId} {X Y : Operand} {a b : ByteArray} (h : K (.bool (decide (a ≠ b)))) : RunW P (bin .neq t X Y (.string a) (.string b)) w K :=
  .of (v := .bool (decide (a ≠ b))) (by
    simp only [bin, eqGuard_at_string, binOp_string_neq, Sem.run_bind, Sem.run_pure, Result.andThen]
    congr 2
    rw [Bool.eq_iff_iff]; simp [str_inj]) h
theorem Sl.sliced {ao : Option Addr} {n cap sz : Nat} {cs : List Value} {w0 : World} {lo hi : Nat} (hs : Sl w0 sz (.slice ao n cap) n cs) (h1 : lo ≤ hi) (h2 : hi ≤ n) :
    Sl w0 sz (Go.sliced ao lo hi cap sz) (hi - lo) ((cs.drop (lo * sz)).take ((hi - lo) * sz)) := by
  obtain ⟨ao', cap', hv, hnc, hl, hc, hnil⟩ := hs
  cases hv
  refine ⟨_, _, rfl, by omega, ?_, ?_, ?_⟩
  · rw [List.length_take, List.length_drop, hl, ← Nat.sub_mul]
    exact Nat.min_eq_left (Nat.mul_le_mul_right _ (by omega))
  · intro j u hj
    rw [List.getElem?_take] at hj
    split at hj
    · rename_i hlt
      rw [List.getElem?_drop] at hj
      obtain ⟨b, o, e1, e2⟩ := hc _ _ hj
      subst e1
      have hpos : 0 < (hi - lo) := Nat.pos_of_ne_zero fun h0 => by rw [h0] at hlt; simp at hlt
      rw [if_neg (by omega)]
      refine ⟨b, o + lo * sz, ?_, ?_⟩
      · simp only [Option.map_some]; rw [addr_add]
      · rw [Nat.add_assoc]; exact e2
    · cases hj
  · intro hn
    split at hn
    · have := hnil hn; omega
    · cases ao with
      | none => have := hnil rfl; omega
      | some a => simp at hn
/-- a slice from a place on -/
theorem a_sliceL {t e : TypeId} {sz bytes : Nat} {z : Value} (hT : ElT P t e sz bytes z) {v : Value} {n : Nat} {cs : List Value} {w0 : World} (hs : Sl w0 sz v n cs) {k : IntKind} {lo : Int} (h0 : 0 ≤ lo) (h2 : lo ≤ n)
    (h : ∀ v', Sl w0 sz v' (n - lo.toNat) (cs.drop (lo.toNat * sz)) → K v') : RunA P (Instr.sliceAt t v (some (.int k lo)) none none) K := by
  have hs' := hs
  obtain ⟨ao, cap, rfl, hnc, hl, _⟩ := hs
  have ht : P.underlying t = some (.slice (P.elem t)) := by rw [hT.und]; simp [Program.elem, hT.und]
  have hel : P.elem t = e := by simp [Program.elem, hT.und]
  have h3 := hs'.sliced (lo := lo.toNat) (hi := n) (by omega) (by omega)
  rw [List.take_of_length_le (by rw [List.length_drop, hl, Nat.sub_mul]; omega)] at h3
  refine .of (v := Go.sliced ao lo.toNat n cap sz) (fun w => ?_) (h _ h3)
  rw [run_sliceAt_slice w t _ _ _ _ ht, run_slice_l w t ao n cap ht k lo h0 h2, hel, hT.size]
  rfl
theorem w_min {ts : Array TypeId} {t : TypeId} {k k' : IntKind} {a b : Int} (h : K (.int k (min a b))) : RunW P (Builtin.min_ ts t #[.int k a, .int k' b]) w K :=
  .of (run_min_int2 (P := P) w ts t k k' a b) (by
    have : (if b < a then b else a) = min a b := by omega
    rw [this]; exact h)
end
end Go.Ez
namespace Go.Ez
open Go Go.Proofs Go.RowKit
set_option linter.unusedSimpArgs false
set_option linter.unusedVariables false
section
variable {P : Program} {w : World} {K : Value → Prop} {KW : Value → World → Prop} {KU : World → Prop}
variable {t : TypeId} {X Y : Operand} {k k' : IntKind} {a b : Int}
/-- a number that is not below 0 -/
abbrev nV (k : IntKind) (n : Nat) : Value := .int k (n : Int)
theorem kmax_lt (k : IntKind) : 0 ≤ k.max ∧ k.max < 2 ^ k.bits := by cases k <;> simp [IntKind.max, IntKind.bits, IntKind.signed]
theorem nat_lt_bits {n : Nat} (h : (n : Int) ≤ k.max) : (n : Int) < 2 ^ k.bits := Int.lt_of_le_of_lt h (kmax_lt k).2
theorem bits_pow (k : IntKind) : ∃ b, k.max = 2 ^ b - 1 := by
  cases k
  all_goals first | exact ⟨7, rfl⟩ | exact ⟨15, rfl⟩ | exact ⟨31, rfl⟩ | exact ⟨63, rfl⟩ | exact ⟨8, rfl⟩ | exact ⟨16, rfl⟩ | exact ⟨32, rfl⟩ | exact ⟨64, rfl⟩
theorem or_le_max {n m : Nat} (hn : (n : Int) ≤ k.max) (hm : (m : Int) ≤ k.max) : ((n ||| m : Nat) : Int) ≤ k.max ∧ ((n ^^^ m : Nat) : Int) ≤ k.max := by
  obtain ⟨b, hb⟩ := bits_pow k
  have e : ((2 ^ b : Nat) : Int) = 2 ^ b := by push_cast; rfl
  rw [hb, ← e] at hn hm ⊢
  have hp : 0 < 2 ^ b := Nat.two_pow_pos b
  have h1 : n < 2 ^ b := by omega
  have h2 : m < 2 ^ b := by omega
  have h3 := Nat.or_lt_two_pow h1 h2
  have h4 := Nat.xor_lt_two_pow h1 h2
  omega
theorem a_orN {n m : Nat} (hn : (n : Int) ≤ k.max) (hm : (m : Int) ≤ k.max) (h : K (nV k (n ||| m))) : RunA P (bin .or t X Y (nV k n) (nV k m)) K :=
  a_or (by omega) (nat_lt_bits hn) (by omega) (nat_lt_bits hm) (by simpa using (or_le_max hn hm).1) (by simpa using h)
theorem v_convN {src dst : TypeId} {d0 : TypeDesc} {n : Nat} (hs : P.underlying src = some d0) (hd : P.underlying dst = some (.int k)) (hn : (n : Int) ≤ k.max) (h : KW (nV k n) w) : RunV P (convert src dst (nV k' n)) w KW :=
  v_conv hs hd (by rw [wrap_nat hn]; exact h)
theorem w_nilE {t : TypeId} {X Y : Operand} {ao : Option Addr} {n c : Nat} {e : TypeId} (ht : P.underlying t = some (.slice e)) (h : K (.bool ao.isNone)) : RunW P (bin .eql t X Y (.slice ao n c) (.slice none 0 0)) w K :=
  .of (by simp [bin, go_sem, binOp, ht, eqGuard, Op.equal, Op.maxDepth, Lib.run_equalIn_slice_nil w 9999 t e ao n c 0 0 ht]) h
/-- a slice that holds cells, held against nil: nil only if it has none -/
theorem w_nilSE {t e : TypeId} {X Y : Operand} {v : Value} {sz n : Nat} {cs : List Value} {w0 : World} (ht : P.underlying t = some (.slice e)) (hs : Sl w0 sz v n cs) (h : ∀ b, (b = true → v = .slice none 0 0 ∧ n = 0) → K (.bool b)) : RunW P (bin .eql t X Y v (.slice none 0 0)) w K := by
  obtain ⟨ao, cap, rfl, hnc, _, _, hnil⟩ := hs
  refine w_nilE ht (h _ fun hb => ?_)
  have : ao = none := by simpa using hb
  subst this
  have := hnil rfl
  subst this
  exact ⟨by have : n = 0 := by { omega }; rw [this], by omega⟩
theorem bytesV_get {l : List UInt8} {i : Nat} {u : Value} (h : (bytesV l)[i]? = some u) : ∃ b, l[i]? = some b ∧ u = byteV b := by
  rw [bytesV, List.getElem?_map] at h
  cases hx : l[i]? with
  | none => rw [hx] at h; cases h
  | some b => rw [hx] at h; cases h; exact ⟨b, rfl, rfl⟩
/-- the block of what is owned -/
theorem own_base {w : World} {base : Nat} {e : TypeId} {size : Nat} {v : Value} {n : Nat} {xs : List Value} (h : w.ownsRow base e size v n xs) : ∀ k, v.ownBlock = some k → base ≤ k := by
  intro k hk
  rcases h.2 with ⟨rfl, _⟩ | ⟨g, cap, cur, rfl, hb, _⟩
  · cases hk
  · cases hk; exact hb
theorem own_nil {w : World} {base : Nat} {e : TypeId} {size : Nat} : w.ownsRow base e size (.slice none 0 0) 0 [] := ⟨by simp, .inl ⟨rfl, rfl⟩⟩
theorem own_mono {w : World} {base base' : Nat} {e : TypeId} {size : Nat} {v : Value} {n : Nat} {xs : List Value} (h : w.ownsRow base e size v n xs) (hb : base' ≤ base) : w.ownsRow base' e size v n xs := by
  refine ⟨h.1, h.2.imp id ?_⟩
  rintro ⟨g, cap, cur, hv, hg, r⟩
  exact ⟨g, cap, cur, hv, Nat.le_trans hb hg, r⟩
end
end Go.Ez
namespace Go.Ez
open Go Go.Proofs Go.RowKit
set_option linter.unusedSimpArgs false
set_option linter.unusedVariables false
/-- of what was there, no block has turned but those of ks -/
structure Mod (ks : List Nat) (W W' : World) : Prop where
  os : W'.os = W.os
  tape : W'.tape = W.tape
  output : W'.output = W.output
  size : W.heap.size ≤ W'.heap.size
  block : ∀ i, i < W.heap.size → i ∉ ks → W'.heap[i]? = W.heap[i]?
theorem grownBy_setAt (W : World) (b q : Nat) (v : Value) : W.grownBy (W.setCell ⟨b, q, none⟩ v) (some b) :=
  ⟨rfl, rfl, rfl, by simp [World.setCell], fun k _ hk => Below.heap_setCell _ _ _ k (fun e => hk (by rw [e]))⟩
theorem app1 {f : FnN 1} {v0 : Value} {w : World} (h : f v0 w) : appN 1 f [v0] w := h
theorem app2 {f : FnN 2} {v0 v1 : Value} {w : World} (h : f v0 v1 w) : appN 2 f [v0, v1] w := h
theorem app3 {f : FnN 3} {v0 v1 v2 : Value} {w : World} (h : f v0 v1 v2 w) : appN 3 f [v0, v1, v2] w := h
theorem app4 {f : FnN 4} {v0 v1 v2 v3 : Value} {w : World} (h : f v0 v1 v2 v3 w) : appN 4 f [v0, v1, v2, v3] w := h
theorem app5 {f : FnN 5} {v0 v1 v2 v3 v4 : Value} {w : World} (h : f v0 v1 v2 v3 v4 w) : appN 5 f [v0, v1, v2, v3, v4] w := h
theorem app6 {f : FnN 6} {v0 v1 v2 v3 v4 v5 : Value} {w : World} (h : f v0 v1 v2 v3 v4 v5 w) : appN 6 f [v0, v1, v2, v3, v4, v5] w := h
theorem app7 {f : FnN 7} {v0 v1 v2 v3 v4 v5 v6 : Value} {w : World} (h : f v0 v1 v2 v3 v4 v5 v6 w) : appN 7 f [v0, v1, v2, v3, v4, v5, v6] w := h
theorem app8 {f : FnN 8} {v0 v1 v2 v3 v4 v5 v6 v7 : Value} {w : World} (h : f v0 v1 v2 v3 v4 v5 v6 v7 w) : appN 8 f [v0, v1, v2, v3, v4, v5, v6, v7] w := h
theorem app9 {f : FnN 9} {v0 v1 v2 v3 v4 v5 v6 v7 v8 : Value} {w : World} (h : f v0 v1 v2 v3 v4 v5 v6 v7 v8 w) : appN 9 f [v0, v1, v2, v3, v4, v5, v6, v7, v8] w := h
theorem app10 {f : FnN 10} {v0 v1 v2 v3 v4 v5 v6 v7 v8 v9 : Value} {w : World} (h : f v0 v1 v2 v3 v4 v5 v6 v7 v8 v9 w) : appN 10 f [v0, v1, v2, v3, v4, v5, v6, v7, v8, v9] w := h
theorem app11 {f : FnN 11} {v0 v1 v2 v3 v4 v5 v6 v7 v8 v9 v10 : Value} {w : World} (h : f v0 v1 v2 v3 v4 v5 v6 v7 v8 v9 v10 w) : appN 11 f [v0, v1, v2, v3, v4, v5, v6, v7, v8, v9, v10] w := h
theorem app12 {f : FnN 12} {v0 v1 v2 v3 v4 v5 v6 v7 v8 v9 v10 v11 : Value} {w : World} (h : f v0 v1 v2 v3 v4 v5 v6 v7 v8 v9 v10 v11 w) : appN 12 f [v0, v1, v2, v3, v4, v5, v6, v7, v8, v9, v10, v11] w := h
section
variable {ks ks' : List Nat} {W W' W'' : World}
theorem Mod.refl (ks : List Nat) (W : World) : Mod ks W W := ⟨rfl, rfl, rfl, Nat.le_refl _, fun _ _ _ => rfl⟩
theorem Mod.trans (h : Mod ks W W') (k : Mod ks W' W'') : Mod ks W W'' :=
  ⟨k.os.trans h.os, k.tape.trans h.tape, k.output.trans h.output, Nat.le_trans h.size k.size, fun i hi hn => (k.block i (Nat.lt_of_lt_of_le hi h.size) hn).trans (h.block i hi hn)⟩
theorem Mod.of_grown {row : Option Nat} (h : W.grownBy W' row) : Mod row.toList W W' :=
  ⟨h.os, h.tape, h.output, h.size, fun i hi hn => h.block i hi fun e => hn (by rw [← e]; simp)⟩
theorem Mod.putObj (W : World) (l : Nat) (o : Obj) : Mod [l] W (W.putObj l o) := Mod.of_grown (grownBy_putObj' W l o)
end
section
variable {P : Program} {w : World} {K : Value → Prop} {KW : Value → World → Prop} {KU : World → Prop}
theorem ifnd {c : Prop} [hd : Decidable c] {p q : Prop} (h : ¬ c → p) (h' : c → q) : IfB (.bool (!decide c)) p q :=
  ⟨!decide c, rfl, fun e => h (by simpa using e), fun e => h' (by simpa using e)⟩
theorem ifnb {b : Bool} {p q : Prop} (h : b = false → p) (h' : b = true → q) : IfB (.bool (!b)) p q :=
  ⟨!b, rfl, fun e => h (by simpa using e), fun e => h' (by simpa using e)⟩
theorem v_allocBox {t : TypeId} {z : Value} (hz : ∀ w, (zeroValue t).run P w = .ok z w) (h1 : z.oneCell' = true) (h : ∀ w', w'.heap.size = w.heap.size + 1 → Boxed w' w.heap.size t z → Below w.heap.size w w' → KW (.pointer (some ⟨w.heap.size, 0, none⟩)) w') :
    RunV P (Instr.alloc t true (.tuple #[])) w KW := by
  have hc : z.cells = #[z] := by cases z <;> first | rfl | (simp [Value.oneCell'] at h1)
  refine v_alloc hz ?_
  rw [hc]
  exact h _ (by simp) (Boxed.new w t z) ((Below.refl _ w).alloc (Nat.le_refl _) _)
theorem v_boxBox {t : TypeId} {v : Value} (h1 : v.oneCell' = true) (h : ∀ w', w'.heap.size = w.heap.size + 1 → Boxed w' w.heap.size t v → Below w.heap.size w w' → KW (.pointer (some ⟨w.heap.size, 0, none⟩)) w') :
    RunV P (Instr.box t v) w KW := by
  have hc : v.cells = #[v] := by cases v <;> first | rfl | (simp [Value.oneCell'] at h1)
  refine v_box ?_
  rw [hc]
  exact h _ (by simp) (Boxed.new w t v) ((Below.refl _ w).alloc (Nat.le_refl _) _)
theorem one_slice {v : Value} {sz n : Nat} {cs : List Value} (h : Sl w sz v n cs) : v.oneCell' = true := by obtain ⟨_, _, rfl, _⟩ := h; rfl
theorem getElem?_snoc {α : Type} {l : List α} {x y : α} {i : Nat} (h : (l ++ [x])[i]? = some y) : (i < l.length ∧ l[i]? = some y) ∨ (i = l.length ∧ y = x) := by
  rcases Nat.lt_trichotomy i l.length with hi | hi | hi
  · rw [List.getElem?_append_left hi] at h; exact .inl ⟨hi, h⟩
  · subst hi; rw [List.getElem?_append_right (Nat.le_refl _)] at h; simp at h; exact .inr ⟨rfl, h.symm⟩
  · rw [List.getElem?_eq_none (by simp; omega)] at h; cases h
end
end Go.Ez
namespace Go.Ez
open Go Go.Proofs Go.RowKit Go.ChangeShapes Go.WideShapes
set_option linter.unusedSimpArgs false
set_option linter.unusedVariables false
section
variable {H : Type} {enc : TypeId × Value → H} {P : Program}
theorem trodAll_keep {W W' : World} (hl : laidOutB P = true) (hb : Below W.heap.size W W') {sp : Nat → Bool} :
    ∀ {ts : List TypeId} {vs : List Value} {ds : List (DataW H)} {ps : List MemPlace}, (∀ t ∈ ts, P.readableRec t = true ∧ t < P.types.size) → DataW.TrodAll enc P W 0 (fun _ => true) true ts vs ds ps →
      (∀ p ∈ ps, p.block < W.heap.size) → (∀ p ∈ ps, sp p.block = true) → DataW.TrodAll enc P W' 0 sp true ts vs ds ps
  | [], _, _, _, _, h, _, _ => by
    obtain ⟨rfl, rfl, rfl⟩ := trodAll_nil h
    exact rfl
  | t :: ts, _, _, _, hr, h, hp, hs => by
    obtain ⟨v, vs1, d, ds1, a, b, rfl, rfl, rfl, ⟨fuel, h1⟩, h2⟩ := trodAll_cons h
    have ht := hr t (by simp)
    exact ⟨a, b, ⟨fuel, DataW.trod_stays (kids_book hl ht.1) (book_sized ht.1) (fun h => by cases h) ⟨ht.2, book_self t⟩ h1 (fun x hx => hb.same (hp x (by simp [hx]))) (fun x hx => hs x (by simp [hx]))⟩,
      trodAll_keep hl hb (fun t ht => hr t (by simp [ht])) h2 (fun x hx => hp x (by simp [hx])) (fun x hx => hs x (by simp [hx])), rfl⟩
/-- one closed fact: each of the types can be read -/
def typesRead (P : Program) (ts : List TypeId) : Bool := ts.all fun t => P.readableRec t && decide (t < P.types.size)
theorem typesRead_spec {ts : List TypeId} (h : typesRead P ts = true) : ∀ t ∈ ts, P.readableRec t = true ∧ t < P.types.size := by
  intro t ht
  have := List.all_eq_true.1 h t ht
  simpa using this
theorem shut_true {tb : TypeId} (htb : P.underlying tb = some .bool) (W : World) (b : Nat) (sp : Nat → Bool) (hd : Bool) : DataW.TrodAll enc P W b sp hd [tb] [.bool true] [.lit (.bool true)] [] :=
  ⟨[], [], ⟨1, by simp [DataW.trod, htb, Value.cells]⟩, rfl, rfl⟩
/-- 'post', where it returns true and nothing that was there has turned -/
theorem post_true {f : Func} {s : ChangeSpec} {apart fresh handsOn again : Bool} {W W' : World} {args : Array Value} {ds gs : List (DataW H)} {before : List MemPlace} {tb : TypeId}
    (hW : DataW.Whole enc P f.params.toList s.vars apart W args.toList ds gs before) (hl : laidOutB P = true) (hps : typesRead P f.params.toList = true) (hvars : s.vars = []) (hr : f.resultTypes = #[tb]) (htb : P.underlying tb = some .bool)
    (hfn : s.fn H (ds ++ gs) = { results := [.lit (.bool true)], args := ds }) (hb : Below W.heap.size W W') : s.post enc P f apart fresh handsOn again W args (.bool true) W' := by
  have hlt := hW.lt
  have hW0 := hW
  obtain ⟨p, q, hA, hV, rfl, hfz, hnd⟩ := hW
  have hV0 := hV
  rw [hvars] at hV
  obtain ⟨rfl, rfl⟩ := trodVars_none hV
  have hvk : ∀ (sp : Nat → Bool), DataW.TrodVars enc P W' sp s.vars [] [] := fun sp => by rw [hvars]; exact rfl
  have hargs : ∀ sp : Nat → Bool, (∀ x ∈ p, sp x.block = true) → DataW.TrodAll enc P W' 0 sp true f.params.toList args.toList ds p := fun sp hs =>
    trodAll_keep hl hb (typesRead_spec hps) hA (fun x hx => hlt x (by simp [hx])) hs
  refine ⟨ds, [], p ++ [], [], p, [], hW0, ?_, ?_, ?_, ?_, fun _ => ⟨?_, ?_⟩⟩
  · rw [hfn, hr]; exact shut_true htb _ _ _ _
  · rw [hfn]; exact hargs _ (fun x hx => by simpa using hlt x (by simp [hx]))
  · rw [hfn]; exact hvk _
  · exact hb.frame _
  · intro j t r h1 h2
    rw [hr] at h1 h2
    have e : (Value.bool true).resultList (#[tb] : Array TypeId).size = [.bool true] := rfl
    rw [e] at h2
    cases j with
    | zero =>
      cases h1; cases h2
      simp [Value.okWide, htb, Cell.okWide, Cell.ok]
    | succ j => simp at h2
  · refine ⟨.lit (.bool true) :: ds, [], p ++ [], ⟨p, [], ?_, hvk _, rfl, ?_, ?_⟩, ?_⟩
    · rw [hr]
      exact ⟨[], p, ⟨1, by simp [DataW.trod, htb, Value.cells]⟩, hargs _ (fun _ _ => rfl), rfl⟩
    · intro b off hp
      have h1 := hlt _ hp
      rw [hb.frozen (p := ⟨b, off, none⟩) h1]
      exact hfz b off hp
    · intro ha
      exact hnd ha
    · intro x hx _
      exact hx
theorem by_of_cells {W : World} {base : Nat} {sp : Nat → Bool} {held : Bool} {t e : TypeId} (ht : P.underlying t = some (.slice e)) (he : P.underlying e = some (.int .u8)) (hc : P.cellsOf e = 1) {v : Value} {x : DataW H × List MemPlace} {fuel : Nat}
    (hf : DataW.trod enc P W base sp held fuel t [v] = some x) : ∃ l : List UInt8, By W v l ∧ l.length ≤ maxLen := by
  rcases open_ints ht he hc hf with ⟨hcs, hx⟩ | ⟨a, len', cap', zs, hcs, _, hl, hm, hz, hx, hcell, hwz⟩
  · simp only [List.cons.injEq, and_true] at hcs
    rw [hcs]
    exact ⟨[], Sl.nil W 1, by simp⟩
  · simp only [List.cons.injEq, and_true] at hcs
    subst hcs
    have hzl : len' ≤ zs.length := by rw [hz]; split <;> omega
    refine ⟨(zs.take len').map fun n => UInt8.ofNat n.toNat, ⟨some a, cap', ?_, ?_, ?_, ?_, by simp⟩, by simp; omega⟩
    · simp; omega
    · simp; omega
    · simp [bytesV_length]
    · intro j u hj
      obtain ⟨b, hb, rfl⟩ := bytesV_get hj
      rw [List.getElem?_map] at hb
      cases hz1 : (zs.take len')[j]? with
      | none => rw [hz1] at hb; cases hb
      | some n =>
        rw [hz1] at hb
        simp only [Option.map_some, Option.some.injEq] at hb
        have hjl : j < len' := by
          have := (List.getElem?_eq_some_iff.1 hz1).1
          rw [List.length_take] at this
          omega
        rw [List.getElem?_take_of_lt hjl] at hz1
        have hcj := hcell j (by omega)
        have hget : zs.getD j 0 = n := by rw [List.getD_eq_getElem?_getD, hz1]; rfl
        rw [hget] at hcj
        have h0 := hcell 0 (by omega)
        have hspot : a.spot = none := by
          unfold World.cell? at h0
          have ha0 : a.add 0 = a := by simp [Addr.add]
          rw [ha0] at h0
          split at h0
          · cases hs : a.spot with
            | none => rfl
            | some _ => rw [hs] at h0; simp at h0
          · cases h0
        obtain ⟨bb, oo, ss⟩ := a
        simp only at hspot
        subst hspot
        refine ⟨bb, oo, rfl, ?_⟩
        rw [addr_add] at hcj
        rw [hcj, ← hb]
        have hw := hwz n (List.mem_of_getElem? hz1)
        simp only [Lit.wf, Bool.and_eq_true, decide_eq_true_eq, IntKind.min, IntKind.max, IntKind.bits, IntKind.signed] at hw
        simp at hw
        unfold byteV
        rw [UInt8.toNat_ofNat']
        congr 2
        have : n.toNat < 2 ^ 8 := by omega
        rw [Nat.mod_eq_of_lt this]
        omega
/-- the bytes of an argument -/
theorem by_of_trod {W : World} {b0 base : Nat} {r : Reach} {sp : Nat → Bool} {held : Bool} {t e : TypeId} (ht : P.underlying t = some (.slice e)) (he : P.underlying e = some (.int .u8)) (hc : P.cellsOf e = 1) {v : Value} {d : DataW H} {ps : List MemPlace}
    (hval : Value.okWide P W r b0 t v) (hd : DataW.Trod enc P W base sp held t v d ps) : ∃ l : List UInt8, By W v l ∧ l.length ≤ maxLen := by
  obtain ⟨a0, len, cap, rfl⟩ := okWide_slice ht hval
  obtain ⟨fuel, hf⟩ := hd
  have hcs : (Value.slice a0 len cap).cells.toList = [.slice a0 len cap] := by simp [Value.cells]
  rw [hcs] at hf
  exact by_of_cells ht he hc hf
end
end Go.Ez
namespace Go.Ez
open Go Go.Proofs Go.RowKit
set_option linter.unusedSimpArgs false
set_option linter.unusedVariables false
section
variable {P : Program} {w : World} {K : Value → Prop} {KW : Value → World → Prop} {KU : World → Prop}
theorem RunO.of {m : Sem Next} {v : Value} {w' : World} (h : m.run P w = .ok (.value v) w') (k : KW v w') : RunO P m w KW := ⟨v, w', h, k⟩
/-- a field's place -/
theorem a_field {s : TypeId} {fs : Array Field} {f : Field} {b o i sz : Nat} (ht : P.underlying s = some (.struct fs)) (hf : fs[i]? = some f) (hz : ∀ w, (sizeOf f.type).run P w = .ok sz w) (hsz : sz ≠ 0)
    (h : K (.pointer (some ⟨b, o + f.offset, none⟩))) : RunA P (Instr.fieldAt s (.pointer (some ⟨b, o, none⟩)) i) K :=
  .of (fun w => by simp [Instr.fieldAt, run_underlying ht, hf, Instr.sureAddr, fieldPlace, hz, hsz, addr_add]) h
/-- a pointer held against nil -/
theorem run_equal_ptr_nil {t e : TypeId} {p : Option Addr} (ht : P.underlying t = some (.pointer e)) : (Op.equal t (.pointer p) (.pointer none)).run P w = .ok p.isNone w := by
  have h : ∀ d, (Op.equalIn (d + 1) t (.pointer p) (.pointer none)).run P w = .ok p.isNone w := fun d => by cases p <;> simp [Op.equalIn, run_underlying ht]
  exact h 9999
theorem w_nilP {t e : TypeId} {X Y : Operand} {p : Option Addr} (ht : P.underlying t = some (.pointer e)) (h : K (.bool p.isNone)) : RunW P (bin .eql t X Y (.pointer p) (.pointer none)) w K :=
  .of (by
    show (do eqGuard .eql t X Y (.pointer p) (.pointer none); pure (Value.bool (← Op.equal t (.pointer p) (.pointer none))) : Sem Value).run P w = _
    simp [eqGuard, run_equal_ptr_nil ht]) h
theorem w_samePn {t e : TypeId} {X Y : Operand} {a : Addr} {j : TypeInfo} (ht : P.underlying t = some (.pointer e)) (hj : P.info? e = some j) (h : K (.bool false)) : RunW P (bin .neq t X Y (.pointer (some a)) (.pointer (some a))) w K :=
  .of (by
    have := Lib.run_neq_ptr_same (P := P) w a ht hj
    simp [bin, eqGuard, this]) h
/-- a byte of a text, off its list -/
theorem a_indexL {t : TypeId} {k : IntKind} {i : Nat} {l : List UInt8} {c : UInt8} (ht : P.underlying t = some .string) (hc : l[i]? = some c) (h : K (byteV c)) : RunA P (Instr.index t (.string ⟨l.toArray⟩) (.int k (i : Int))) K := by
  have hi : i < l.length := (List.getElem?_eq_some_iff.1 hc).1
  refine a_index ht (by omega) (by show (i : Int) < (l.toArray.size : Int); simp; omega) ?_
  have : ((⟨l.toArray⟩ : ByteArray).data[(i : Int).toNat]'(by simpa using hi)) = c := by
    have := (List.getElem?_eq_some_iff.1 hc).2
    simpa using this
  rw [this]
  exact h
theorem w_lenL {t ty : TypeId} {l : List UInt8} (ht : P.underlying t = some .string) (h : K (nV .i64 l.length)) : RunW P (Builtin.len_ #[t] ty #[.string ⟨l.toArray⟩]) w K :=
  w_lens ht (by have : (⟨l.toArray⟩ : ByteArray).size = l.length := by { show l.toArray.size = _; simp }; rw [this]; exact h)
theorem s_lenL {S : World → Prop} {t ty : TypeId} {l : List UInt8} (ht : P.underlying t = some .string) (h : K (nV .i64 l.length)) : RunS P S (Builtin.len_ #[t] ty #[.string ⟨l.toArray⟩]) K :=
  s_lens ht (by have : (⟨l.toArray⟩ : ByteArray).size = l.length := by { show l.toArray.size = _; simp }; rw [this]; exact h)
theorem strL_inj {a b : List UInt8} : ((⟨a.toArray⟩ : ByteArray) = ⟨b.toArray⟩) ↔ a = b :=
  ⟨fun h => by injection h with h; exact List.toArray_inj h, fun h => by rw [h]⟩
theorem strL_of (s : ByteArray) : s = ⟨s.data.toList.toArray⟩ := by cases s; simp
theorem w_eqlL {t : TypeId} {X Y : Operand} {a b : List UInt8} (h : K (.bool (decide (a = b)))) : RunW P (bin .eql t X Y (.string ⟨a.toArray⟩) (.string ⟨b.toArray⟩)) w K :=
  w_eqls (by
    have : decide ((⟨a.toArray⟩ : ByteArray) = ⟨b.toArray⟩) = decide (a = b) := decide_eq_decide.2 strL_inj
    rw [this]; exact h)
theorem w_neqL {t : TypeId} {X Y : Operand} {a b : List UInt8} (h : K (.bool (decide (a ≠ b)))) : RunW P (bin .neq t X Y (.string ⟨a.toArray⟩) (.string ⟨b.toArray⟩)) w K :=
  w_neqs (by
    have : decide ((⟨a.toArray⟩ : ByteArray) ≠ ⟨b.toArray⟩) = decide (a ≠ b) := decide_eq_decide.2 (not_congr strL_inj)
    rw [this]; exact h)
theorem s_eqlL {S : World → Prop} {t : TypeId} {X Y : Operand} {a b : List UInt8} (h : K (.bool (decide (a = b)))) : RunS P S (bin .eql t X Y (.string ⟨a.toArray⟩) (.string ⟨b.toArray⟩)) K := by
  refine ⟨_, fun w _ => ?_, h⟩
  obtain ⟨v, hv, hk⟩ := w_eqlL (P := P) (w := w) (K := fun v => v = .bool (decide (a = b))) (t := t) (X := X) (Y := Y) (a := a) (b := b) rfl
  rw [hv, hk]
theorem sizeL (l : List UInt8) : (⟨l.toArray⟩ : ByteArray).size = l.length := by show l.toArray.size = _; simp
theorem a_sliceStr {t : TypeId} {k k' : IntKind} {l : List UInt8} {lo hi : Nat} (ht : P.underlying t = some .string) (h1 : lo ≤ hi) (h2 : hi ≤ l.length) (h : K (.string ⟨((l.drop lo).take (hi - lo)).toArray⟩)) :
    RunA P (Instr.sliceAt t (.string ⟨l.toArray⟩) (some (.int k (lo : Int))) (some (.int k' (hi : Int))) none) K :=
  .of (fun w => by
    rw [run_sliceAt_string w t _ _ _ _ ht]
    simp [Instr.slice, run_underlying ht, Instr.sliceBounds, run_sliceBound, sizeL, h1, h2, (by omega : (lo : Int) ≤ hi), ByteArray.extract_mk]) h
theorem a_sliceStrH {t : TypeId} {k' : IntKind} {l : List UInt8} {hi : Nat} (ht : P.underlying t = some .string) (h2 : hi ≤ l.length) (h : K (.string ⟨(l.take hi).toArray⟩)) :
    RunA P (Instr.sliceAt t (.string ⟨l.toArray⟩) none (some (.int k' (hi : Int))) none) K :=
  .of (fun w => by
    rw [run_sliceAt_string w t _ _ _ _ ht]
    simp [Instr.slice, run_underlying ht, Instr.sliceBounds, run_sliceBound, sizeL, h2, ByteArray.extract_mk]) h
theorem a_sliceStrL {t : TypeId} {k : IntKind} {l : List UInt8} {lo : Nat} (ht : P.underlying t = some .string) (h2 : lo ≤ l.length) (h : K (.string ⟨(l.drop lo).toArray⟩)) :
    RunA P (Instr.sliceAt t (.string ⟨l.toArray⟩) (some (.int k (lo : Int))) none none) K :=
  .of (fun w => by
    rw [run_sliceAt_string w t _ _ _ _ ht]
    have : (l.drop lo).take (l.length - lo) = l.drop lo := List.take_of_length_le (by simp)
    simp [Instr.slice, run_underlying ht, Instr.sliceBounds, run_sliceBound, sizeL, h2, ByteArray.extract_mk, this]) h
/-- two texts, one behind the other -/
theorem cat_mk (l m : List UInt8) : (⟨l.toArray⟩ : ByteArray) ++ ⟨m.toArray⟩ = ⟨(l ++ m).toArray⟩ := by
  apply ByteArray.ext
  simp
theorem a_cat {t : TypeId} {X Y : Operand} {l m : List UInt8} (hl : l.length + m.length ≤ 9223372036854775807) (h : K (.string ⟨(l ++ m).toArray⟩)) : RunA P (bin .add t X Y (.string ⟨l.toArray⟩) (.string ⟨m.toArray⟩)) K :=
  .of (fun w => by
    have hn : ¬ 9223372036854775807 < l.length + m.length := by omega
    simp [bin, go_sem, binOp, hn, cat_mk]) h
/-- 'append(v, s...)': v the call's own, s a text -/
theorem v_appS {base : Nat} {t e u ty : TypeId} (hT : ElT P t e 1 1 (.int .u8 0)) (hu : P.underlying u = some .string) {v : Value} {n : Nat} {xs : List Value} (hown : w.ownsRow base e 1 v n xs) {l : List UInt8}
    (hm : n + l.length ≤ maxLen) (hb : n + l.length ≤ 140737488355328) (hbase : base ≤ w.heap.size)
    (h : ∀ v' w', w'.ownsRow base e 1 v' (n + l.length) (xs ++ bytesV l) → w.grownBy w' v.ownBlock → KW v' w') : RunV P (Builtin.append_ #[t, u] ty #[v, .string ⟨l.toArray⟩]) w KW := by
  obtain ⟨i, hi, hz, hs, hby⟩ := info_parts hT.info
  have hsz : (⟨l.toArray⟩ : ByteArray).size = l.length := by show l.toArray.size = _; simp
  obtain ⟨v', w', hr, h2, h3, h4⟩ := Lib.run_append_own_string (P := P) w base t u ty e i hT.und hu hi hz hs hby v n xs hown ⟨l.toArray⟩ (by rw [hsz]; exact hm) (by rw [hsz]; exact hb) hbase
  have hc : Lib.strCells ⟨l.toArray⟩ = bytesV l := by simp [Lib.strCells, bytesV, byteV]
  rw [hsz, hc] at h2
  exact .of hr (h v' w' h2 h3)
def Rec (W : World) (b : Nat) (t : TypeId) (cs : List Value) : Prop := W.heap[b]? = some (.cells cs.toArray t (0, 0))
theorem Rec.lt {W : World} {b : Nat} {t : TypeId} {cs : List Value} (h : Rec W b t cs) : b < W.heap.size := (Array.getElem?_eq_some_iff.1 h).1
theorem Rec.cell {W : World} {b : Nat} {t : TypeId} {cs : List Value} (h : Rec W b t cs) {j : Nat} {v : Value} (hj : cs[j]? = some v) : W.cell? ⟨b, j, none⟩ = some v := by
  rw [Lib.cell_of_heap h, List.getElem?_toArray]; exact hj
theorem Rec.frozen {W : World} {b : Nat} {t : TypeId} {cs : List Value} (h : Rec W b t cs) (j : Nat) : W.frozen? ⟨b, j, none⟩ = false := Lib.frozen_of_heap h j
theorem Rec.below {W W' : World} {b : Nat} {t : TypeId} {cs : List Value} (h : Rec W b t cs) (hm : Below W.heap.size W W') : Rec W' b t cs := (hm.block b h.lt).trans h
theorem w_recF {t : TypeId} {b j : Nat} {t0 : TypeId} {cs : List Value} {v : Value} (hagg : ∀ w, (isAgg t).run P w = .ok false w) (hr : Rec w b t0 cs) (hj : cs[j]? = some v) (h : K v) : RunW P (Instr.loadAt t (.pointer (some ⟨b, j, none⟩))) w K :=
  w_load hagg (hr.cell hj) h
theorem s_recF {S : World → Prop} {t : TypeId} {b j : Nat} {t0 : TypeId} {cs : List Value} {v : Value} (hagg : ∀ w, (isAgg t).run P w = .ok false w) (hr : ∀ w, S w → Rec w b t0 cs) (hj : cs[j]? = some v) (h : K v) : RunS P S (Instr.loadAt t (.pointer (some ⟨b, j, none⟩))) K :=
  s_load hagg (fun w hw => (hr w hw).cell hj) h
theorem u_recF {t : TypeId} {b j : Nat} {t0 : TypeId} {cs : List Value} {u v : Value} (hagg : ∀ w, (isAgg t).run P w = .ok false w) (hz : ∀ w, (sizeOf t).run P w = .ok 1 w) (h1 : v.oneCell' = true) (hr : Rec w b t0 cs) (hj : cs[j]? = some u)
    (h : ∀ w', Rec w' b t0 (cs.set j v) → Mod [b] w w' → KU w') : RunU P (Instr.storeAt t (.pointer (some ⟨b, j, none⟩)) v) w KU :=
  u_store hagg hz h1 (hr.cell hj) (hr.frozen j) (h _ (by
    unfold Rec
    rw [heap_setCell_same w b j cs.toArray t0 v hr]
    simp) (Mod.of_grown (grownBy_setAt w b j v)))
theorem v_allocRec {t : TypeId} {z : Value} (hz : ∀ w, (zeroValue t).run P w = .ok z w) (h : ∀ w', w'.heap.size = w.heap.size + 1 → Rec w' w.heap.size t z.cells.toList → Below w.heap.size w w' → KW (.pointer (some ⟨w.heap.size, 0, none⟩)) w') :
    RunV P (Instr.alloc t true (.tuple #[])) w KW :=
  v_alloc hz (h _ (by simp) (by unfold Rec; rw [Array.toArray_toList]; exact World.alloc_heap_new w _) ((Below.refl _ w).alloc (Nat.le_refl _) _))
theorem v_boxRec {t : TypeId} {cs : List Value} (h : ∀ w', w'.heap.size = w.heap.size + 1 → Rec w' w.heap.size t cs → Below w.heap.size w w' → KW (.pointer (some ⟨w.heap.size, 0, none⟩)) w') :
    RunV P (Instr.box t (.agg cs.toArray)) w KW :=
  v_box (h _ (by simp) (World.alloc_heap_new w _) ((Below.refl _ w).alloc (Nat.le_refl _) _))
/-- a struct written out -/
theorem v_build {t : TypeId} {z : Value} {fs : Array Field} {places : Array (Nat × Nat)} {parts : Array (Nat × Value)} {cells : Array Value} (hz : ∀ w, (zeroValue t).run P w = .ok z w) (ht : P.underlying t = some (.struct fs))
    (hp : ∀ w, (fs.mapM fun f => do pure (f.offset, ← sizeOf f.type) : Sem (Array (Nat × Nat))).run P w = .ok places w) (hf : Instr.fill (places[·]?) z.cells parts.toList = some cells) (h : KW (.agg cells) w) : RunV P (Instr.build t parts) w KW :=
  .of (by simp only [Instr.build, Sem.run_bind, hz, Result.andThen, run_underlying ht, hp, hf, Sem.run_pure]) h
/-- a whole variable set -/
theorem u_rec {t : TypeId} {b : Nat} {cs cs' : List Value} (hz : ∀ w, (sizeOf t).run P w = .ok cs.length w) (hl : cs'.length = cs.length) (h1 : ∀ v ∈ cs', v.oneCell' = true) (hr : Rec w b t cs)
    (h : ∀ w', Rec w' b t cs' → Mod [b] w w' → KU w') : RunU P (Instr.storeAt t (.pointer (some ⟨b, 0, none⟩)) (.agg cs'.toArray)) w KU := by
  have key : ∀ (vs : List Value) (i : Nat) (W : World) (ds : List Value), Rec W b t ds → i + vs.length = ds.length → (∀ v ∈ vs, v.oneCell' = true) →
      ∃ W', (storeCells ⟨b, 0, none⟩ vs i).run P W = .ok () W' ∧ Rec W' b t (ds.take i ++ vs) ∧ Mod [b] W W' := by
    intro vs
    induction vs with
    | nil =>
      intro i W ds hd hi _
      refine ⟨W, rfl, ?_, Mod.refl _ _⟩
      rw [List.append_nil, List.take_of_length_le (by simp at hi; omega)]
      exact hd
    | cons v vs ih =>
      intro i W ds hd hi hone
      simp only [List.length_cons] at hi
      have hil : i < ds.length := by omega
      have hci := hd.cell (List.getElem?_eq_getElem hil)
      have hs := run_store P W ⟨b, i, none⟩ v .plain (hone v (by simp))
      have hrec : Rec (W.setCell ⟨b, i, none⟩ v) b t (ds.set i v) := by
        unfold Rec
        rw [heap_setCell_same W b i ds.toArray t v hd]
        simp
      obtain ⟨W', hr', hd', hm'⟩ := ih (i + 1) (W.setCell ⟨b, i, none⟩ v) (ds.set i v) hrec (by rw [List.length_set]; omega) (fun x hx => hone x (by simp [hx]))
      refine ⟨W', ?_, ?_, (Mod.of_grown (grownBy_setAt W b i v)).trans hm'⟩
      · rw [storeCells]
        simp only [Sem.run_bind, addr_add, Nat.zero_add, hs, hci, hd.frozen i, Bool.false_eq_true, if_false, Result.andThen]
        exact hr'
      · have : (ds.set i v).take (i + 1) ++ vs = ds.take i ++ v :: vs := by
          rw [List.take_add_one, List.getElem?_set_self hil, List.take_set_of_le (Nat.le_refl _)]
          simp
        rw [← this]; exact hd'
  obtain ⟨W', hr', hd', hm'⟩ := key cs' 0 w cs hr (by omega) h1
  refine .of ?_ (h W' (by simpa using hd') hm')
  have hcells : (Value.agg cs'.toArray).cells = cs'.toArray := rfl
  simp only [Instr.storeAt, Instr.sureAddr, storeVar, Sem.run_bind, Sem.run_pure, Result.andThen, hz, hcells, List.size_toArray, hl, ne_eq, not_true_eq_false, if_false, hr']
end
end Go.Ez
namespace Go.Ez
open Go Go.Proofs Go.RowKit
set_option linter.unusedSimpArgs false
set_option linter.unusedVariables false
/-- an assertion: F are the blocks of which it speaks -/
structure As where
  p : (Nat → Prop) → World → Prop
  lt : ∀ {F : Nat → Prop} {w : World}, p F w → ∀ b, F b → b < w.heap.size
  loc : ∀ {F : Nat → Prop} {w w' : World}, p F w → (∀ b, F b → w'.heap[b]? = w.heap[b]?) → p F w'
/-- all of a list, apart from one another -/
def sepL : List As → (Nat → Prop) → World → Prop
  | [], F, _ => ∀ b, ¬ F b
  | A :: l, F, w => ∃ F1 F2, A.p F1 w ∧ sepL l F2 w ∧ (∀ b, F1 b → F2 b → False) ∧ ∀ b, F b ↔ F1 b ∨ F2 b
theorem sepL_lt : ∀ {l : List As} {F : Nat → Prop} {w : World}, sepL l F w → ∀ b, F b → b < w.heap.size
  | [], _, _, h, b, hb => absurd hb (h b)
  | A :: l, _, _, ⟨F1, F2, h1, h2, _, hF⟩, b, hb => ((hF b).1 hb).elim (A.lt h1 b) (sepL_lt h2 b)
theorem sepL_loc : ∀ {l : List As} {F : Nat → Prop} {w w' : World}, sepL l F w → (∀ b, F b → w'.heap[b]? = w.heap[b]?) → sepL l F w'
  | [], _, _, _, h, _ => h
  | A :: l, _, _, _, ⟨F1, F2, h1, h2, hd, hF⟩, hw => ⟨F1, F2, A.loc h1 fun b hb => hw b ((hF b).2 (.inl hb)), sepL_loc h2 fun b hb => hw b ((hF b).2 (.inr hb)), hd, hF⟩
theorem sepL_swap {A B : As} {l : List As} {F : Nat → Prop} {w : World} (h : sepL (A :: B :: l) F w) : sepL (B :: A :: l) F w := by
  obtain ⟨F1, F2, h1, ⟨F3, F4, h3, h4, hd2, hF2⟩, hd, hF⟩ := h
  refine ⟨F3, fun b => F1 b ∨ F4 b, h3, ⟨F1, F4, h1, h4, fun b a c => hd b a ((hF2 b).2 (.inr c)), fun _ => Iff.rfl⟩, ?_, ?_⟩
  · rintro b h5 (h6 | h6)
    · exact hd b h6 ((hF2 b).2 (.inl h5))
    · exact hd2 b h5 h6
  · intro b
    rw [hF b, hF2 b]
    exact ⟨fun h => h.elim (fun h => .inr (.inl h)) (fun h => h.elim .inl fun h => .inr (.inr h)), fun h => h.elim (fun h => .inr (.inl h)) (fun h => h.elim .inl fun h => .inr (.inr h))⟩
theorem sepL_mono {A : As} {l l' : List As} (hl : ∀ F w, sepL l F w → sepL l' F w) {F : Nat → Prop} {w : World} (h : sepL (A :: l) F w) : sepL (A :: l') F w := by
  obtain ⟨F1, F2, h1, h2, hd, hF⟩ := h
  exact ⟨F1, F2, h1, hl _ _ h2, hd, hF⟩
theorem sepL_append : ∀ {l l' : List As} {F : Nat → Prop} {w : World}, sepL (l ++ l') F w ↔ ∃ F1 F2, sepL l F1 w ∧ sepL l' F2 w ∧ (∀ b, F1 b → F2 b → False) ∧ ∀ b, F b ↔ F1 b ∨ F2 b
  | [], l', F, w => ⟨fun h => ⟨fun _ => False, F, fun _ h => h, h, fun _ h => h.elim, fun b => by simp⟩, fun ⟨F1, F2, h1, h2, _, hF⟩ => by
      have : F = F2 := funext fun b => propext ((hF b).trans ⟨fun h => h.elim (fun h => absurd h (h1 b)) id, .inr⟩)
      rw [this]; exact h2⟩
  | A :: l, l', F, w => by
    constructor
    · rintro ⟨F1, F2, h1, h2, hd, hF⟩
      obtain ⟨F3, F4, h3, h4, hd2, hF2⟩ := sepL_append.1 h2
      refine ⟨fun b => F1 b ∨ F3 b, F4, ⟨F1, F3, h1, h3, fun b a c => hd b a ((hF2 b).2 (.inl c)), fun _ => Iff.rfl⟩, h4, ?_, fun b => by rw [hF b, hF2 b, or_assoc]⟩
      rintro b (h | h) h'
      · exact hd b h ((hF2 b).2 (.inr h'))
      · exact hd2 b h h'
    · rintro ⟨F1, F2, ⟨F3, F4, h3, h4, hd2, hF2⟩, h2, hd, hF⟩
      refine ⟨F3, fun b => F4 b ∨ F2 b, h3, sepL_append.2 ⟨F4, F2, h4, h2, fun b a c => hd b ((hF2 b).2 (.inr a)) c, fun _ => Iff.rfl⟩, ?_, fun b => by rw [hF b, hF2 b, or_assoc]⟩
      rintro b h (h' | h')
      · exact hd2 b h h'
      · exact hd b ((hF2 b).2 (.inl h)) h'
/-- an assertion found by its key -/
def Ky {κ : Type} (k : κ) (X : κ → As) : As := X k
/-- block b is o -/
def Ob (o : Obj) (b : Nat) : As :=
  ⟨fun F w => (∀ x, F x ↔ x = b) ∧ w.heap[b]? = some o, fun h x hx => by rw [(h.1 x).1 hx]; exact (Array.getElem?_eq_some_iff.1 h.2).1, fun h hw => ⟨h.1, (hw b ((h.1 b).2 rfl)).trans h.2⟩⟩
theorem ownsRow_loc {w w' : World} {base : Nat} {e : TypeId} {size : Nat} {v : Value} {n : Nat} {xs : List Value} (h : w.ownsRow base e size v n xs) (hw : ∀ b, v.ownBlock = some b → w'.heap[b]? = w.heap[b]?) : w'.ownsRow base e size v n xs := by
  obtain ⟨h1, h2⟩ := h
  refine ⟨h1, ?_⟩
  rcases h2 with h2 | ⟨g, cap, cur, rfl, hg, hh, r⟩
  · exact Or.inl h2
  · exact Or.inr ⟨g, cap, cur, rfl, hg, by rw [hw g rfl]; exact hh, r⟩
/-- v is a slice that can grow -/
def Ow (e : TypeId) (sz n : Nat) (xs : List Value) (v : Value) : As :=
  ⟨fun F w => (∀ x, F x ↔ v.ownBlock = some x) ∧ w.ownsRow 0 e sz v n xs, fun h x hx => (h.2.lt x ((h.1 x).1 hx)).2, fun h hw => ⟨h.1, ownsRow_loc h.2 fun b hb => hw b ((h.1 b).2 hb)⟩⟩
theorem Sl.loc {w w' : World} {sz : Nat} {v : Value} {n : Nat} {cs : List Value} (h : Sl w sz v n cs) (hw : ∀ b, v.ownBlock = some b → cs ≠ [] → w'.heap[b]? = w.heap[b]?) : Sl w' sz v n cs := by
  obtain ⟨ao, cap, hv, h1, h2, h3, h4⟩ := h
  refine ⟨ao, cap, hv, h1, h2, fun j u hj => ?_, h4⟩
  obtain ⟨b, o, e1, e2⟩ := h3 j u hj
  refine ⟨b, o, e1, ?_⟩
  have hb := hw b (by rw [hv, e1]; rfl) (fun h => by rw [h] at hj; cases hj)
  exact (World.cell?_of_block (a := ⟨b, o + j, none⟩) hb).trans e2
/-- v is a slice that is read -/
def Rd (sz n : Nat) (cs : List Value) (v : Value) : As :=
  ⟨fun F w => (∀ x, F x ↔ v.ownBlock = some x ∧ cs ≠ []) ∧ Sl w sz v n cs, fun {F w} h x hx => by
      obtain ⟨hb, hc⟩ := (h.1 x).1 hx
      obtain ⟨ao, cap, hv, h1, h2, h3, h4⟩ := h.2
      cases cs with
      | nil => exact absurd rfl hc
      | cons u cs =>
        obtain ⟨b, o, e1, e2⟩ := h3 0 u rfl
        rw [hv, e1] at hb
        cases hb
        exact World.block_lt_of_cell? _ _ e2,
    fun h hw => ⟨h.1, h.2.loc fun b hb hc => hw b ((h.1 b).2 ⟨hb, hc⟩)⟩⟩
def As.ex {α : Type} (f : α → As) : As := ⟨fun F w => ∃ x, (f x).p F w, fun ⟨x, h⟩ => (f x).lt h, fun ⟨x, h⟩ hw => ⟨x, (f x).loc h hw⟩⟩
/-- a fact, and a list of assertions -/
def As.all (φ : Prop) (l : List As) : As := ⟨fun F w => φ ∧ sepL l F w, fun h => sepL_lt h.2, fun h hw => ⟨h.1, sepL_loc h.2 hw⟩⟩
/-- what k's assertion in a list is, and what is left -/
class Has {κ : Type} (l : List As) (k : κ) (X : outParam (κ → As)) (R : outParam (List As)) : Prop where
  to : ∀ F w, sepL l F w → sepL (Ky k X :: R) F w
instance Has.head {κ : Type} {k : κ} {X : κ → As} {R : List As} : Has (Ky k X :: R) k X R := ⟨fun _ _ h => h⟩
instance (priority := 500) Has.tail {κ : Type} {k : κ} {X : κ → As} {l R : List As} {Y : As} [i : Has l k X R] : Has (Y :: l) k X (Y :: R) := ⟨fun _ _ h => sepL_swap (sepL_mono i.to h)⟩
/-- l' is of l, in whatever order; the rest is let go -/
class Arr (l l' : List As) : Prop where
  to : ∀ F w, sepL l F w → ∃ F', sepL l' F' w ∧ ∀ b, F' b → F b
instance (priority := 900) Arr.refl {l : List As} : Arr l l := ⟨fun F _ h => ⟨F, h, fun _ h => h⟩⟩
instance (priority := 800) Arr.nil {l : List As} : Arr l [] := ⟨fun _ _ _ => ⟨fun _ => False, fun _ h => h, fun _ h => h.elim⟩⟩
instance (priority := 700) Arr.cons {κ : Type} {k : κ} {X : κ → As} {l R l' : List As} [i : Has l k X R] [j : Arr R l'] : Arr l (Ky k X :: l') :=
  ⟨fun F w h => by
    obtain ⟨F1, F2, h1, h2, hd, hF⟩ := i.to F w h
    obtain ⟨F3, h3, h4⟩ := j.to F2 w h2
    exact ⟨fun b => F1 b ∨ F3 b, ⟨F1, F3, h1, h3, fun b a c => hd b a (h4 b c), fun _ => Iff.rfl⟩, fun b hb => (hF b).2 (hb.imp id (h4 b))⟩⟩
instance (priority := 100) Arr.drop {Y : As} {l l' : List As} [j : Arr l l'] : Arr (Y :: l) l' :=
  ⟨fun F w h => by
    obtain ⟨F1, F2, h1, h2, hd, hF⟩ := h
    obtain ⟨F3, h3, h4⟩ := j.to F2 w h2
    exact ⟨F3, h3, fun b hb => (hF b).2 (.inr (h4 b hb))⟩⟩
/-- of what was there in w0 no block has turned but those of G; l is one's own -/
structure St (w0 : World) (G : Nat → Prop) (l : List As) (W : World) : Prop where
  os : W.os = w0.os
  tape : W.tape = w0.tape
  output : W.output = w0.output
  size : w0.heap.size ≤ W.heap.size
  block : ∀ k, k < w0.heap.size → ¬ G k → W.heap[k]? = w0.heap[k]?
  own : ∃ F, sepL l F W ∧ ∀ b, F b → G b ∨ w0.heap.size ≤ b
/-- of what was there no block has turned but those of F -/
structure Upd (F : Nat → Prop) (W W' : World) : Prop where
  os : W'.os = W.os
  tape : W'.tape = W.tape
  output : W'.output = W.output
  size : W.heap.size ≤ W'.heap.size
  block : ∀ k, k < W.heap.size → ¬ F k → W'.heap[k]? = W.heap[k]?
abbrev G0 : Nat → Prop := fun _ => False
section
variable {w0 W W' : World} {G : Nat → Prop} {l : List As}
theorem St.start (w : World) : St w G0 [] w := ⟨rfl, rfl, rfl, Nat.le_refl _, fun _ _ _ => rfl, fun _ => False, fun _ h => h, fun _ h => h.elim⟩
theorem St.low (h : St w0 G0 l W) : Below w0.heap.size w0 W := ⟨h.os, h.tape, h.output, h.size, fun k hk => h.block k hk fun h => h⟩
theorem St.ext (h : St w0 G l W) (hb : Below W.heap.size W W') : St w0 G l W' := by
  obtain ⟨F, hF, hG⟩ := h.own
  exact ⟨hb.os.trans h.os, hb.tape.trans h.tape, hb.output.trans h.output, Nat.le_trans h.size hb.size, fun k hk hn => (hb.block k (Nat.lt_of_lt_of_le hk h.size)).trans (h.block k hk hn), F, sepL_loc hF fun b h => hb.block b (sepL_lt hF b h), hG⟩
theorem St.drew (h : St w0 G l W) : St w0 G l W.drew := h.ext (Below.refl _ _).drew
theorem St.find {κ : Type} {k : κ} {X : κ → As} {R : List As} [i : Has l k X R] (h : St w0 G l W) : St w0 G (Ky k X :: R) W := by
  obtain ⟨F, hF, hG⟩ := h.own
  exact { h with own := ⟨F, i.to F W hF, hG⟩ }
theorem St.to {l' : List As} [i : Arr l l'] (h : St w0 G l W) : St w0 G l' W := by
  obtain ⟨F, hF, hG⟩ := h.own
  obtain ⟨F', h1, h2⟩ := i.to F W hF
  exact { h with own := ⟨F', h1, fun b hb => hG b (h2 b hb)⟩ }
theorem St.fact {A : As} (h : St w0 G (A :: l) W) : ∃ F, A.p F W ∧ ∀ b, F b → G b ∨ w0.heap.size ≤ b := by
  obtain ⟨F, ⟨F1, F2, h1, h2, hd, hF⟩, hG⟩ := h.own
  exact ⟨F1, h1, fun b hb => hG b ((hF b).2 (.inl hb))⟩
theorem St.new {A : As} {F : Nat → Prop} (h : St w0 G l W) (hb : Below W.heap.size W W') (hA : A.p F W') (hF : ∀ b, F b → W.heap.size ≤ b) : St w0 G (A :: l) W' := by
  obtain ⟨F2, h2, hG⟩ := h.own
  have h' := h.ext hb
  exact { h' with own := ⟨fun b => F b ∨ F2 b, ⟨F, F2, hA, sepL_loc h2 fun b h => hb.block b (sepL_lt h2 b h), fun b a c => by have := hF b a; have := sepL_lt h2 b c; omega, fun _ => Iff.rfl⟩,
    fun b hb => hb.elim (fun hb => .inr (Nat.le_trans h.size (hF b hb))) (hG b)⟩ }
theorem St.upd {A A' : As} (h : St w0 G (A :: l) W) (k : ∀ F, A.p F W → Upd F W W' ∧ ∃ F', A'.p F' W' ∧ ∀ b, F' b → F b ∨ W.heap.size ≤ b) : St w0 G (A' :: l) W' := by
  obtain ⟨F, ⟨F1, F2, h1, h2, hd, hF⟩, hG⟩ := h.own
  obtain ⟨hu, F', h3, h4⟩ := k F1 h1
  have same : ∀ b, F2 b → W'.heap[b]? = W.heap[b]? := fun b hb => hu.block b (sepL_lt h2 b hb) fun hc => hd b hc hb
  refine ⟨hu.os.trans h.os, hu.tape.trans h.tape, hu.output.trans h.output, Nat.le_trans h.size hu.size, fun k hk hn => (hu.block k (Nat.lt_of_lt_of_le hk h.size) fun hc => ?_).trans (h.block k hk hn), fun b => F' b ∨ F2 b, ⟨F', F2, h3, sepL_loc h2 same, fun b a c => ?_, fun _ => Iff.rfl⟩, fun b hb => ?_⟩
  · rcases hG k ((hF k).2 (.inl hc)) with hx | hx
    · exact hn hx
    · omega
  · rcases h4 b a with h5 | h5
    · exact hd b h5 c
    · have := sepL_lt h2 b c; omega
  · rcases hb with hb | hb
    · rcases h4 b hb with h5 | h5
      · exact hG b ((hF b).2 (.inl h5))
      · exact .inr (Nat.le_trans h.size h5)
    · exact hG b ((hF b).2 (.inr hb))
theorem St.conv {A A' : As} (h : St w0 G (A :: l) W) (k : ∀ F, A.p F W → A'.p F W) : St w0 G (A' :: l) W := by
  obtain ⟨F, ⟨F1, F2, h1, h2, hd, hF⟩, hG⟩ := h.own
  exact { h with own := ⟨F, ⟨F1, F2, k F1 h1, h2, hd, hF⟩, hG⟩ }
/-- an assertion opened: what is, and its parts -/
theorem St.openA {φ : Prop} {L : List As} (h : St w0 G (As.all φ L :: l) W) : φ ∧ St w0 G (L ++ l) W := by
  obtain ⟨F, ⟨F1, F2, h1, h2, hd, hF⟩, hG⟩ := h.own
  exact ⟨h1.1, { h with own := ⟨F, sepL_append.2 ⟨F1, F2, h1.2, h2, hd, hF⟩, hG⟩ }⟩
theorem St.shutA {φ : Prop} {L : List As} (hφ : φ) (h : St w0 G (L ++ l) W) : St w0 G (As.all φ L :: l) W := by
  obtain ⟨F, hs, hG⟩ := h.own
  obtain ⟨F1, F2, h1, h2, hd, hF⟩ := sepL_append.1 hs
  exact { h with own := ⟨F, ⟨F1, F2, ⟨hφ, h1⟩, h2, hd, hF⟩, hG⟩ }
theorem St.openE {α : Type} {f : α → As} (h : St w0 G (As.ex f :: l) W) : ∃ x, St w0 G (f x :: l) W := by
  obtain ⟨F, ⟨F1, F2, ⟨x, h1⟩, h2, hd, hF⟩, hG⟩ := h.own
  exact ⟨x, { h with own := ⟨F, ⟨F1, F2, h1, h2, hd, hF⟩, hG⟩ }⟩
theorem St.shutE {α : Type} {f : α → As} (x : α) (h : St w0 G (f x :: l) W) : St w0 G (As.ex f :: l) W := h.conv fun _ hp => ⟨x, hp⟩
/-- under a key, and without it -/
theorem St.at {κ : Type} {k : κ} {X : κ → As} : St w0 G (Ky k X :: l) W ↔ St w0 G (X k :: l) W := Iff.rfl
theorem St.ob {b : Nat} {o : Obj} {R : List As} [Has l b (Ob o) R] (h : St w0 G l W) : W.heap[b]? = some o := by
  obtain ⟨F, hF, _⟩ := (h.find (k := b) (X := Ob o)).fact
  exact hF.2
theorem St.rc {b : Nat} {t : TypeId} {cs : List Value} {R : List As} [Has l b (Ob (.cells cs.toArray t (0, 0))) R] (h : St w0 G l W) : Rec W b t cs := h.ob
theorem St.setB {b : Nat} {o o' : Obj} {R : List As} [Has l b (Ob o) R] (h : St w0 G l W) (hm : Mod [b] W W') (ho : W'.heap[b]? = some o') : St w0 G (Ky b (Ob o') :: R) W' :=
  (h.find (k := b) (X := Ob o)).upd fun F hF => ⟨⟨hm.os, hm.tape, hm.output, hm.size, fun k hk hn => hm.block k hk fun hc => hn ((hF.1 k).2 (by simpa using hc))⟩, F, ⟨hF.1, ho⟩, fun _ hb => .inl hb⟩
theorem St.putO {b : Nat} {o : Obj} {R : List As} [Has l b (Ob o) R] (h : St w0 G l W) (o' : Obj) : St w0 G (Ky b (Ob o') :: R) (W.putObj b o') :=
  h.setB (o := o) (Mod.putObj W b o') (World.putObj_heap_same (Array.getElem?_eq_some_iff.1 h.ob).1)
theorem St.newB {b : Nat} {o : Obj} (h : St w0 G l W) (hb : Below W.heap.size W W') (h1 : W.heap.size ≤ b) (ho : W'.heap[b]? = some o) : St w0 G (Ky b (Ob o) :: l) W' :=
  h.new (F := fun x => x = b) hb ⟨fun _ => Iff.rfl, ho⟩ fun x hx => by rw [hx]; exact h1
theorem St.newOw {B : Nat} {e : TypeId} {sz n : Nat} {xs : List Value} {v : Value} (h : St w0 G l W) (hb : Below W.heap.size W W') (ho : W'.ownsRow B e sz v n xs) (hB : W.heap.size ≤ B) : St w0 G (Ky v (Ow e sz n xs) :: l) W' :=
  h.new (F := fun x => v.ownBlock = some x) hb ⟨fun _ => Iff.rfl, own_mono ho (Nat.zero_le _)⟩ fun x hx => Nat.le_trans hB (own_base ho x hx)
/-- a slice of nothing -/
theorem St.nilOw {e : TypeId} {sz : Nat} (h : St w0 G l W) : St w0 G (Ky (.slice none 0 0) (Ow e sz 0 []) :: l) W := h.newOw (B := W.heap.size) (Below.refl _ _) own_nil (Nat.le_refl _)
theorem own_up {base B : Nat} {e : TypeId} {sz n : Nat} {xs : List Value} {v : Value} (h : W.ownsRow base e sz v n xs) (hB : ∀ k, v.ownBlock = some k → B ≤ k) : W.ownsRow B e sz v n xs := by
  refine ⟨h.1, h.2.imp id ?_⟩
  rintro ⟨g, cap, cur, rfl, hg, r⟩
  exact ⟨g, cap, cur, rfl, hB g rfl, r⟩
theorem St.ow {e : TypeId} {sz n : Nat} {xs : List Value} {v : Value} {R : List As} [Has l v (Ow e sz n xs) R] (h : St w0 G l W) : W.ownsRow 0 e sz v n xs := by
  obtain ⟨F, hF, _⟩ := (h.find (k := v) (X := Ow e sz n xs)).fact
  exact hF.2
theorem St.owG {e : TypeId} {sz n : Nat} {xs : List Value} {v : Value} {R : List As} [Has l v (Ow e sz n xs) R] (h : St w0 G0 l W) : W.ownsRow w0.heap.size e sz v n xs := by
  obtain ⟨F, hF, hG⟩ := (h.find (k := v) (X := Ow e sz n xs)).fact
  exact own_up hF.2 fun k hk => (hG k ((hF.1 k).2 hk)).elim (fun h => h.elim) id
theorem St.osl {e : TypeId} {sz n : Nat} {xs : List Value} {v : Value} {R : List As} [Has l v (Ow e sz n xs) R] (h : St w0 G l W) : Sl W sz v n xs := Sl.of_own h.ow
theorem St.rsl {sz n : Nat} {xs : List Value} {v : Value} {R : List As} [Has l v (Rd sz n xs) R] (h : St w0 G l W) : Sl W sz v n xs := by
  obtain ⟨F, hF, _⟩ := (h.find (k := v) (X := Rd sz n xs)).fact
  exact hF.2
/-- what is owned grows, or is turned -/
theorem St.setOw {e : TypeId} {sz n n' : Nat} {xs xs' : List Value} {v v' : Value} {R : List As} [Has l v (Ow e sz n xs) R] (h : St w0 G l W) (hg : W.grownBy W' v.ownBlock) (ho : W'.ownsRow 0 e sz v' n' xs') (hk : ∀ k, v'.ownBlock = some k → v.ownBlock = some k ∨ W.heap.size ≤ k) : St w0 G (Ky v' (Ow e sz n' xs') :: R) W' :=
  (h.find (k := v) (X := Ow e sz n xs)).upd fun F hF => ⟨⟨hg.os, hg.tape, hg.output, hg.size, fun k hk' hn => hg.block k hk' fun hc => hn ((hF.1 k).2 hc.symm)⟩, fun x => v'.ownBlock = some x, ⟨fun _ => Iff.rfl, ho⟩, fun b hb => (hk b hb).imp (hF.1 b).2 id⟩
/-- facts of what was there at the begin -/
theorem St.sl0 {sz : Nat} {v : Value} {n : Nat} {cs : List Value} (h : St w0 G0 l W) (hs : Sl w0 sz v n cs) : Sl W sz v n cs := hs.below h.low
end
class Nth (l : List Value) (i : Nat) (x : outParam Value) : Prop where
  eq : l[i]? = some x
instance Nth.zero {x : Value} {l : List Value} : Nth (x :: l) 0 x := ⟨rfl⟩
instance Nth.succ {x y : Value} {l : List Value} {i : Nat} [n : Nth l i x] : Nth (y :: l) (i + 1) x := ⟨by simpa using n.eq⟩
class SetN (l : List Value) (i : Nat) (x : Value) (l' : outParam (List Value)) : Prop where
  eq : l.set i x = l'
instance SetN.zero {x y : Value} {l : List Value} : SetN (y :: l) 0 x (x :: l) := ⟨rfl⟩
instance SetN.succ {x y : Value} {l l' : List Value} {i : Nat} [n : SetN l i x l'] : SetN (y :: l) (i + 1) x (y :: l') := ⟨by simp [n.eq]⟩
/-- a value of one cell -/
class Cel1 (v : Value) : Prop where
  one : v.oneCell' = true
instance {k : IntKind} {n : Int} : Cel1 (.int k n) := ⟨rfl⟩
instance {b : Bool} : Cel1 (.bool b) := ⟨rfl⟩
instance {s : ByteArray} : Cel1 (.string s) := ⟨rfl⟩
instance {a : Option Addr} {n c : Nat} : Cel1 (.slice a n c) := ⟨rfl⟩
instance {p : Option Addr} : Cel1 (.pointer p) := ⟨rfl⟩
theorem Cel1.of_own {W : World} {base : Nat} {e : TypeId} {sz n : Nat} {xs : List Value} {v : Value} (h : W.ownsRow base e sz v n xs) : Cel1 v := by
  rcases h.2 with ⟨rfl, _⟩ | ⟨g, cap, cur, rfl, _⟩ <;> exact ⟨rfl⟩
theorem Cel1.of_sl {W : World} {sz n : Nat} {xs : List Value} {v : Value} (h : Sl W sz v n xs) : Cel1 v := ⟨one_slice h⟩
class OneL (l : List Value) : Prop where
  one : ∀ v ∈ l, v.oneCell' = true
instance : OneL [] := ⟨by simp⟩
instance {x : Value} {l : List Value} [o : Cel1 x] [n : OneL l] : OneL (x :: l) := ⟨by
  intro v hv
  rcases List.mem_cons.1 hv with rfl | hv
  · exact o.one
  · exact n.one v hv⟩
class Len (l : List Value) (n : outParam Nat) : Prop where
  eq : l.length = n
instance : Len [] 0 := ⟨rfl⟩
instance {x : Value} {l : List Value} {n : Nat} [i : Len l n] : Len (x :: l) (n + 1) := ⟨by simp [i.eq]⟩
class IsN (n m : Nat) : Prop where
  eq : n = m
instance {n : Nat} : IsN n n := ⟨rfl⟩
/-- numbered parts of what is written out -/
def numbered : Nat → List Value → List (Nat × Value)
  | _, [] => []
  | k, v :: vs => (k, v) :: numbered (k + 1) vs
class Prt (ps : List (Nat × Value)) (k : Nat) (vs : outParam (List Value)) : Prop where
  eq : ps = numbered k vs
instance {k : Nat} : Prt [] k [] := ⟨rfl⟩
instance {k : Nat} {v : Value} {ps : List (Nat × Value)} {vs : List Value} [i : Prt ps (k + 1) vs] : Prt ((k, v) :: ps) k (v :: vs) := ⟨by simp [numbered, i.eq]⟩
class Apd (a b : List Value) (c : outParam (List Value)) : Prop where
  eq : a ++ b = c
instance {b : List Value} : Apd [] b b := ⟨rfl⟩
instance {x : Value} {a b c : List Value} [i : Apd a b c] : Apd (x :: a) b (x :: c) := ⟨by simp [← i.eq]⟩
/-- the cells of some values, so many each -/
class CellsL (sz : Nat) (vs : List Value) (cs : outParam (List Value)) : Prop where
  size : ∀ v ∈ vs, v.cells.size = sz
  eq : vs.flatMap (fun v => v.cells.toList) = cs
instance {sz : Nat} : CellsL sz [] [] := ⟨by simp, rfl⟩
theorem Cel1.cells {v : Value} (o : Cel1 v) : v.cells = #[v] := by
  have h := o.one
  cases v <;> first | rfl | (simp [Value.oneCell'] at h)
instance (priority := 500) {v : Value} {vs cs : List Value} [o : Cel1 v] [i : CellsL 1 vs cs] : CellsL 1 (v :: vs) (v :: cs) := ⟨by
  intro u hu
  rcases List.mem_cons.1 hu with rfl | hu
  · rw [o.cells]; rfl
  · exact i.size u hu, by rw [List.flatMap_cons, i.eq, o.cells]; rfl⟩
instance {sz n : Nat} {a vs cs c : List Value} [l : Len a n] [h : IsN n sz] [i : CellsL sz vs cs] [j : Apd a cs c] : CellsL sz (.agg a.toArray :: vs) c := ⟨by
  intro u hu
  rcases List.mem_cons.1 hu with rfl | hu
  · show a.toArray.size = sz
    rw [List.size_toArray, l.eq, h.eq]
  · exact i.size u hu, by rw [List.flatMap_cons, i.eq, ← j.eq]; rfl⟩
theorem fill_all {sz : Nat} : ∀ (vs : List Value) (k : Nat) (init : Array Value), init.size = (k + vs.length) * sz → (∀ v ∈ vs, v.cells.size = sz) →
    Instr.fill (fun i => some (i * sz, sz)) init (numbered k vs) = some (init.toList.take (k * sz) ++ vs.flatMap fun v => v.cells.toList).toArray
  | [], k, init, h, _ => by
    simp only [numbered, Instr.fill, List.flatMap_nil, List.append_nil]
    rw [List.take_of_length_le (by rw [Array.length_toList, h]; simp)]
  | v :: vs, k, init, h, hv => by
    have hsz := hv v (by simp)
    have hk : k * sz + sz ≤ init.size := by
      rw [h, List.length_cons, ← Nat.succ_mul]
      exact Nat.mul_le_mul_right _ (by omega)
    have key : ∀ (cs : List Value) (j : Nat) (a : Array Value), k * sz + j + cs.length ≤ a.size →
        ((cs.zipIdx j).foldl (fun (c : Array Value) (p : Value × Nat) => c.setIfInBounds (k * sz + p.2) p.1) a).toList = a.toList.take (k * sz + j) ++ cs ++ a.toList.drop (k * sz + j + cs.length) := by
      intro cs
      induction cs with
      | nil => intro j a _; simp
      | cons c cs ih =>
        intro j a ha
        simp only [List.length_cons] at ha
        simp only [List.zipIdx_cons, List.foldl_cons]
        rw [ih (j + 1) _ (by rw [Array.size_setIfInBounds]; omega), Array.toList_setIfInBounds]
        have hlt : k * sz + j < a.toList.length := by rw [Array.length_toList]; omega
        have e1 : (a.toList.set (k * sz + j) c).take (k * sz + (j + 1)) = a.toList.take (k * sz + j) ++ [c] := by
          rw [show k * sz + (j + 1) = (k * sz + j) + 1 by omega, List.take_add_one, List.getElem?_set_self hlt, List.take_set_of_le (Nat.le_refl _)]
          rfl
        have e2 : (a.toList.set (k * sz + j) c).drop (k * sz + (j + 1) + cs.length) = a.toList.drop (k * sz + j + (cs.length + 1)) := by
          rw [List.drop_set_of_lt (by omega)]
          congr 1; omega
        rw [e1, e2]
        simp
    simp only [numbered, Instr.fill]
    rw [if_neg (by simp [hsz]; omega)]
    have hfold : (v.cells.zipIdx.foldl (fun cs (p : Value × Nat) => cs.setIfInBounds (k * sz + p.2) p.1) init).toList = init.toList.take (k * sz) ++ v.cells.toList ++ init.toList.drop (k * sz + sz) := by
      have := key v.cells.toList 0 init (by rw [Array.length_toList, hsz]; omega)
      simp only [Nat.add_zero, Array.length_toList, hsz] at this
      rw [← this]
      rw [← Array.foldl_toList, Array.toList_zipIdx]
    generalize hF : v.cells.zipIdx.foldl (fun cs (p : Value × Nat) => cs.setIfInBounds (k * sz + p.2) p.1) init = F at hfold
    have hFs : F.size = init.size := by
      have := congrArg List.length hfold
      rw [Array.length_toList] at this
      rw [this]
      simp only [List.length_append, List.length_take, List.length_drop, Array.length_toList, hsz]
      omega
    have ih := fill_all vs (k + 1) F (by rw [hFs, h]; simp only [List.length_cons]; congr 1; omega) (fun u hu => hv u (by simp [hu]))
    refine Eq.trans ?_ (ih.trans ?_)
    · rw [← hF]
    · congr 2
      rw [hfold, show (k + 1) * sz = k * sz + sz by rw [Nat.succ_mul]]
      rw [List.flatMap_cons, ← List.append_assoc]
      congr 1
      have hl : (init.toList.take (k * sz) ++ v.cells.toList).length = k * sz + sz := by
        rw [List.length_append, List.length_take, Array.length_toList, Array.length_toList, hsz]; omega
      rw [← hl, List.take_left]
/-- a type of one cell -/
class Ty1 (P : Program) (t : TypeId) (z : outParam Value) : Prop where
  agg : ∀ w, (isAgg t).run P w = .ok false w
  size : ∀ w, (sizeOf t).run P w = .ok 1 w
  zero : ∀ w, (zeroValue t).run P w = .ok z w
  one : z.oneCell' = true
/-- a struct -/
class TyS (P : Program) (t : TypeId) (n : outParam Nat) (zs : outParam (List Value)) : Prop where
  agg : ∀ w, (isAgg t).run P w = .ok true w
  size : ∀ w, (sizeOf t).run P w = .ok n w
  zero : ∀ w, (zeroValue t).run P w = .ok (.agg zs.toArray) w
/-- what a type is -/
class Und (P : Program) (t : TypeId) (d : outParam TypeDesc) : Prop where
  eq : P.underlying t = some d
/-- a slice's type -/
class SlT (P : Program) (t : TypeId) (e : outParam TypeId) (sz bytes : outParam Nat) (z : outParam Value) : Prop where
  el : ElT P t e sz bytes z
/-- a struct that is written out -/
class Bld (P : Program) (t : TypeId) (places : outParam (Array (Nat × Nat))) (z : outParam (Array Value)) : Prop where
  zero : ∀ w, (zeroValue t).run P w = .ok (.agg z) w
  st : ∃ fs, P.underlying t = some (.struct fs) ∧ ∀ w, (fs.mapM fun f => do pure (f.offset, ← sizeOf f.type) : Sem (Array (Nat × Nat))).run P w = .ok places w
/-- a field's place -/
class Fld (P : Program) (s : TypeId) (i : Nat) (off : outParam Nat) : Prop where
  at_ : ∀ {b o : Nat} {K : Value → Prop}, K (.pointer (some ⟨b, o + off, none⟩)) → RunA P (Instr.fieldAt s (.pointer (some ⟨b, o, none⟩)) i) K
section
variable {P : Program} {w0 W : World} {G : Nat → Prop} {l : List As} {K : Value → Prop} {KW : Value → World → Prop} {KU : World → Prop}
theorem x_bld {t : TypeId} {places : Array (Nat × Nat)} {z cells : Array Value} {parts : Array (Nat × Value)} [i : Bld P t places z] (hf : Instr.fill (places[·]?) z parts.toList = some cells) (h : KW (.agg cells) W) : RunV P (Instr.build t parts) W KW := by
  obtain ⟨fs, h1, h2⟩ := i.st
  exact v_build i.zero h1 h2 hf h
theorem x_len {t ty : TypeId} {l : List UInt8} [u : Und P t .string] (h : K (nV .i64 l.length)) : RunW P (Builtin.len_ #[t] ty #[.string ⟨l.toArray⟩]) W K := w_lenL u.eq h
theorem x_lens {S : World → Prop} {t ty : TypeId} {l : List UInt8} [u : Und P t .string] (h : K (nV .i64 l.length)) : RunS P S (Builtin.len_ #[t] ty #[.string ⟨l.toArray⟩]) K := s_lenL u.eq h
theorem x_lenS {t e ty : TypeId} {v : Value} {sz n : Nat} {cs : List Value} {w0 : World} [u : Und P t (.slice e)] (hs : Sl w0 sz v n cs) (h : K (nV .i64 n)) : RunW P (Builtin.len_ #[t] ty #[v]) W K := w_lenS u.eq hs h
theorem x_lenSs {S : World → Prop} {t e ty : TypeId} {v : Value} {sz n : Nat} {cs : List Value} {w0 : World} [u : Und P t (.slice e)] (hs : Sl w0 sz v n cs) (h : K (nV .i64 n)) : RunS P S (Builtin.len_ #[t] ty #[v]) K := s_lenS u.eq hs h
theorem x_index {t : TypeId} {k : IntKind} {i : Nat} {l : List UInt8} {c : UInt8} [u : Und P t .string] (hc : l[i]? = some c) (h : K (byteV c)) : RunA P (Instr.index t (.string ⟨l.toArray⟩) (.int k (i : Int))) K := a_indexL u.eq hc h
theorem x_str {src dst e : TypeId} {v : Value} {l : List UInt8} [u : Und P src (.slice e)] [u1 : Und P e (.int .u8)] [u2 : Und P dst .string] (hv : By W v l) (h : KW (.string ⟨l.toArray⟩) W) : RunV P (convert src dst v) W KW := v_str u.eq u1.eq u2.eq hv h
theorem x_cutH {t : TypeId} {k' : IntKind} {l : List UInt8} {hi : Nat} [u : Und P t .string] (h2 : hi ≤ l.length) (h : K (.string ⟨(l.take hi).toArray⟩)) : RunA P (Instr.sliceAt t (.string ⟨l.toArray⟩) none (some (.int k' (hi : Int))) none) K := a_sliceStrH u.eq h2 h
theorem x_cutL {t : TypeId} {k : IntKind} {l : List UInt8} {lo : Nat} [u : Und P t .string] (h2 : lo ≤ l.length) (h : K (.string ⟨(l.drop lo).toArray⟩)) : RunA P (Instr.sliceAt t (.string ⟨l.toArray⟩) (some (.int k (lo : Int))) none none) K := a_sliceStrL u.eq h2 h
theorem x_cut {t : TypeId} {k k' : IntKind} {l : List UInt8} {lo hi : Nat} [u : Und P t .string] (h1 : lo ≤ hi) (h2 : hi ≤ l.length) (h : K (.string ⟨((l.drop lo).take (hi - lo)).toArray⟩)) : RunA P (Instr.sliceAt t (.string ⟨l.toArray⟩) (some (.int k (lo : Int))) (some (.int k' (hi : Int))) none) K := a_sliceStr u.eq h1 h2 h
theorem x_neb {t : TypeId} {X Y : Operand} {a b : Bool} [u : Und P t .bool] (h : K (.bool (!(a == b)))) : RunW P (bin .neq t X Y (.bool a) (.bool b)) W K := w_neqb u.eq h
theorem x_eqB {t : TypeId} {X Y : Operand} {a b : UInt8} (h : K (.bool (decide (a = b)))) : RunW P (bin .eql t X Y (byteV a) (byteV b)) W K :=
  w_eql (by
    have : decide (((a.toNat : Nat) : Int) = ((b.toNat : Nat) : Int)) = decide (a = b) := decide_eq_decide.2 ⟨fun h => UInt8.toNat_inj.1 (by exact_mod_cast h), fun h => by rw [h]⟩
    rw [this]; exact h)
theorem x_neB {t : TypeId} {X Y : Operand} {a b : UInt8} (h : K (.bool (decide (a ≠ b)))) : RunW P (bin .neq t X Y (byteV a) (byteV b)) W K :=
  w_neq (by
    have : decide (((a.toNat : Nat) : Int) ≠ ((b.toNat : Nat) : Int)) = decide (a ≠ b) := decide_eq_decide.2 (not_congr ⟨fun h => UInt8.toNat_inj.1 (by exact_mod_cast h), fun h => by rw [h]⟩)
    rw [this]; exact h)
theorem x_nilP {t e : TypeId} {X Y : Operand} {p : Option Addr} [u : Und P t (.pointer e)] (h : K (.bool p.isNone)) : RunW P (bin .eql t X Y (.pointer p) (.pointer none)) W K := w_nilP u.eq h
theorem a_fld0 {s : TypeId} {i off b : Nat} [f : Fld P s i off] (h : K (.pointer (some ⟨b, off, none⟩))) : RunA P (Instr.fieldAt s (.pointer (some ⟨b, 0, none⟩)) i) K := f.at_ (by rw [Nat.zero_add]; exact h)
theorem a_fld {s : TypeId} {i off b o : Nat} [f : Fld P s i off] (h : K (.pointer (some ⟨b, o + off, none⟩))) : RunA P (Instr.fieldAt s (.pointer (some ⟨b, o, none⟩)) i) K := f.at_ h
theorem St.load {b j : Nat} {t t' : TypeId} {cs : List Value} {v z : Value} {R : List As} [i : Has l b (Ob (.cells cs.toArray t (0, 0))) R] [T : Ty1 P t' z] [n : Nth cs j v] (h : St w0 G l W) (k : K v) : RunW P (Instr.loadAt t' (.pointer (some ⟨b, j, none⟩))) W K :=
  w_recF T.agg h.rc n.eq k
theorem St.loadS {b n : Nat} {t t' : TypeId} {cs zs : List Value} {R : List As} [i : Has l b (Ob (.cells cs.toArray t (0, 0))) R] [T : TyS P t' n zs] [l1 : Len cs n] (h : St w0 G l W) (k : K (.agg cs.toArray)) : RunW P (Instr.loadAt t' (.pointer (some ⟨b, 0, none⟩))) W K :=
  .of (by
    have := run_loadCells_list (P := P) W ⟨b, 0, none⟩ cs (fun j v hj => by rw [addr_add, Nat.zero_add]; exact h.rc.cell hj)
    simp [Instr.loadAt, Instr.sureAddr, loadVar, T.agg, T.size, ← l1.eq, this]) k
theorem St.store {b j : Nat} {t t' : TypeId} {cs cs' : List Value} {u v z : Value} {R : List As} [i : Has l b (Ob (.cells cs.toArray t (0, 0))) R] [T : Ty1 P t' z] [n : Nth cs j u] [n' : SetN cs j v cs'] [o : Cel1 v] (h : St w0 G l W)
    (k : ∀ W', St w0 G (Ky b (Ob (.cells cs'.toArray t (0, 0))) :: R) W' → KU W') : RunU P (Instr.storeAt t' (.pointer (some ⟨b, j, none⟩)) v) W KU :=
  u_recF T.agg T.size o.one h.rc n.eq fun W' hr hm => k W' (h.setB (o := .cells cs.toArray t (0, 0)) hm (n'.eq ▸ hr))
theorem St.storeS {b n : Nat} {t : TypeId} {cs cs' zs : List Value} {R : List As} [i : Has l b (Ob (.cells cs.toArray t (0, 0))) R] [T : TyS P t n zs] [o : OneL cs'] [l1 : Len cs n] [l2 : Len cs' n] (h : St w0 G l W)
    (k : ∀ W', St w0 G (Ky b (Ob (.cells cs'.toArray t (0, 0))) :: R) W' → KU W') : RunU P (Instr.storeAt t (.pointer (some ⟨b, 0, none⟩)) (.agg cs'.toArray)) W KU :=
  u_rec (l1.eq ▸ T.size) (l2.eq.trans l1.eq.symm) o.one h.rc fun W' hr hm => k W' (h.setB (o := .cells cs.toArray t (0, 0)) hm hr)
theorem St.alloc {t : TypeId} {z : Value} [T : Ty1 P t z] (h : St w0 G l W) (k : ∀ b W', St w0 G (Ky b (Ob (.cells [z].toArray t (0, 0))) :: l) W' → KW (.pointer (some ⟨b, 0, none⟩)) W') : RunV P (Instr.alloc t true (.tuple #[])) W KW :=
  v_allocBox T.zero T.one fun W' _ hb hm => k _ W' (h.newB hm (Nat.le_refl _) hb)
theorem St.allocS {t : TypeId} {n : Nat} {zs : List Value} [T : TyS P t n zs] (h : St w0 G l W) (k : ∀ b W', St w0 G (Ky b (Ob (.cells zs.toArray t (0, 0))) :: l) W' → KW (.pointer (some ⟨b, 0, none⟩)) W') : RunV P (Instr.alloc t true (.tuple #[])) W KW :=
  v_allocRec T.zero fun W' _ hb hm => k _ W' (h.newB hm (Nat.le_refl _) hb)
theorem St.boxV {t : TypeId} {v : Value} [o : Cel1 v] (h : St w0 G l W) (k : ∀ b W', St w0 G (Ky b (Ob (.cells [v].toArray t (0, 0))) :: l) W' → KW (.pointer (some ⟨b, 0, none⟩)) W') : RunV P (Instr.box t v) W KW :=
  v_boxBox o.one fun W' _ hb hm => k _ W' (h.newB hm (Nat.le_refl _) hb)
theorem St.boxS {t : TypeId} {cs : List Value} (h : St w0 G l W) (k : ∀ b W', St w0 G (Ky b (Ob (.cells cs.toArray t (0, 0))) :: l) W' → KW (.pointer (some ⟨b, 0, none⟩)) W') : RunV P (Instr.box t (.agg cs.toArray)) W KW :=
  v_boxRec fun W' _ hb hm => k _ W' (h.newB hm (Nat.le_refl _) hb)
theorem ss_load {b j : Nat} {t t' : TypeId} {cs : List Value} {v z : Value} {R : List As} [i : Has l b (Ob (.cells cs.toArray t (0, 0))) R] [T : Ty1 P t' z] [n : Nth cs j v] (k : K v) : RunS P (St w0 G l) (Instr.loadAt t' (.pointer (some ⟨b, j, none⟩))) K :=
  s_recF (t0 := t) T.agg (fun w hw => hw.rc (b := b) (t := t) (cs := cs)) n.eq k
theorem ss_loadS {b n : Nat} {t t' : TypeId} {cs zs : List Value} {R : List As} [i : Has l b (Ob (.cells cs.toArray t (0, 0))) R] [T : TyS P t' n zs] [l1 : Len cs n] (k : K (.agg cs.toArray)) : RunS P (St w0 G l) (Instr.loadAt t' (.pointer (some ⟨b, 0, none⟩))) K :=
  ⟨_, fun w hw => by
    obtain ⟨v, h1, h2⟩ := hw.loadS (P := P) (b := b) (t := t) (cs := cs) (t' := t') (K := fun v => v = .agg cs.toArray) rfl
    rw [h1, h2], k⟩
/-- what a region that draws its order may ask of memory -/
theorem s_of {S : World → Prop} {m : Sem Value} {v : Value} (h : ∀ w, S w → RunW P m w fun x => x = v) (k : K v) : RunS P S m K := by
  refine ⟨v, fun w hw => ?_, k⟩
  obtain ⟨x, h1, h2⟩ := h w hw
  rw [h1, h2]
theorem s_ld {S : World → Prop} {b j : Nat} {t t' : TypeId} {cs : List Value} {v z : Value} [T : Ty1 P t' z] (hS : ∀ w, S w → Rec w b t cs) (hj : cs[j]? = some v) (k : K v) : RunS P S (Instr.loadAt t' (.pointer (some ⟨b, j, none⟩))) K := s_recF T.agg hS hj k
theorem own_block_some {W : World} {base : Nat} {e : TypeId} {sz n : Nat} {xs : List Value} {v : Value} (h : W.ownsRow base e sz v n xs) : (v = .slice none 0 0 ∧ n = 0 ∧ xs = []) ∨ ∃ g cap, v = .slice (some ⟨g, 0, none⟩) n cap ∧ n ≤ cap := by
  rcases h.2 with ⟨rfl, rfl⟩ | ⟨g, cap, cur, rfl, hg, hh, hn, r⟩
  · exact .inl ⟨rfl, rfl, List.eq_nil_of_length_eq_zero (by simpa using h.1)⟩
  · exact .inr ⟨g, cap, rfl, hn⟩
/-- 'append': the row is where it was, or in a new block -/
theorem v_app2 {t e ty : TypeId} {sz bytes : Nat} {z : Value} (hT : ElT P t e sz bytes z) {v : Value} {n : Nat} {xs : List Value} (hown : W.ownsRow 0 e sz v n xs)
    {u : Value} {m : Nat} {news : List Value} (hu : Sl W sz u m news) (h1 : ∀ c ∈ news, c.oneCell' = true) (hm : n + m ≤ maxLen) (hb : (n + m) * bytes ≤ 140737488355328)
    (h : ∀ v' w', w'.ownsRow 0 e sz v' (n + m) (xs ++ news) → W.grownBy w' v.ownBlock → (v' = .slice none 0 0 ↔ v = .slice none 0 0 ∧ m = 0) → (∀ k, v'.ownBlock = some k → v.ownBlock = some k ∨ W.heap.size ≤ k) → KW v' w') : RunV P (Builtin.append_ #[t, t] ty #[v, u]) W KW := by
  rcases own_block_some hown with ⟨rfl, rfl, rfl⟩ | ⟨g, cap, rfl, hnc⟩
  · exact v_app (base := W.heap.size) hT own_nil hu h1 hm hb (Nat.le_refl _) fun v' w' g1 g2 g3 => h v' w' (own_mono g1 (Nat.zero_le _)) g2 g3 fun k hk => .inr (own_base g1 k hk)
  · obtain ⟨i, hi, hz, hs, hby⟩ := info_parts hT.info
    obtain ⟨ao, cu, rfl, hmc, hl, hc, hnil⟩ := hu
    cases ao with
    | none =>
      obtain rfl : cu = 0 := hnil rfl
      obtain rfl : m = 0 := by omega
      have : news = [] := List.eq_nil_of_length_eq_zero (by simpa using hl)
      subst this
      exact .of (run_append_owned_none (P := P) W 0 t ty e i sz hT.und hi _ n xs hown) (h _ _ (by simpa using hown) ⟨rfl, rfl, rfl, Nat.le_refl _, fun _ _ _ => rfl⟩ (by simp) fun k hk => .inl hk)
    | some a =>
      have hcell : ∀ j x, news[j]? = some x → W.cell? (a.add j) = some x := fun j x hj => by obtain ⟨b', o', e1, e2⟩ := hc j x hj; cases e1; rw [addr_add]; exact e2
      obtain ⟨v', w', hr, h2, h3, h4⟩ := run_append_own (P := P) W 0 t ty e i z sz bytes hT.und hi hz hs hby hT.cells hT.pos _ n xs hown a m cu news hl hcell h1 hm hb (Nat.zero_le _)
      refine .of hr (h v' w' h2 h3 h4 ?_)
      intro k hk
      by_cases hroom : n + m ≤ cap
      · obtain ⟨w2, hr2, _⟩ := run_append_fits (P := P) W 0 t ty e i sz hT.und hi hs g n cap xs hown a m cu news hl hcell h1 hroom
        rw [hr] at hr2
        cases hr2
        exact .inl hk
      · have hr2 := run_append_grow (P := P) W t ty e i z hT.und hi hz ⟨g, 0, none⟩ n cap xs (by rw [hs]; exact hown.1) (hown.cells (g := g) rfl) a m cu news (by rw [hs]; exact hl) hcell (by omega) (by simp only [maxLen] at hm; omega) (growslice_fits (by omega) (by rw [hby]; exact hb))
        rw [hr] at hr2
        cases hr2
        cases hk
        exact .inr (Nat.le_refl _)
theorem St.app {t e ty : TypeId} {sz bytes : Nat} {z : Value} {v : Value} {n : Nat} {xs : List Value} {R : List As} [i : Has l v (Ow e sz n xs) R] [S : SlT P t e sz bytes z] (h : St w0 G l W) {u : Value} {m : Nat} {news : List Value} (hu : Sl W sz u m news) (h1 : ∀ c ∈ news, c.oneCell' = true) (hm : n + m ≤ maxLen) (hb : (n + m) * bytes ≤ 140737488355328)
    (k : ∀ v' W', Cel1 v' → St w0 G (Ky v' (Ow e sz (n + m) (xs ++ news)) :: R) W' → (v' = .slice none 0 0 ↔ v = .slice none 0 0 ∧ m = 0) → KW v' W') : RunV P (Builtin.append_ #[t, t] ty #[v, u]) W KW :=
  v_app2 S.el (h.ow (v := v)) hu h1 hm hb fun v' W' g1 g2 g3 g4 => k v' W' (.of_own g1) (h.setOw (v := v) g2 g1 g4) g3
/-- a slice written out -/
theorem St.litB {t e : TypeId} {sz bytes n : Nat} {z : Value} {ps : List (Nat × Value)} {vs cs : List Value} [S : SlT P t e sz bytes z] [p : Prt ps 0 vs] [c : CellsL sz vs cs] [ln : Len vs n] (h : St w0 G l W)
    (k : ∀ v W', Cel1 v → Below W.heap.size W W' → St w0 G (Ky v (Ow e sz n cs) :: l) W' → KW v W') (hm : n * sz ≤ 16777216 := by decide) : RunV P (Instr.buildSlice t n ps.toArray) W KW := by
  have hn := ln.eq
  have hpos := S.el.pos
  have hfill := fill_all (sz := sz) vs 0 ((Array.range (n * sz)).map ((if n * sz = 0 then #[] else z.cells : Array Value)[· % (if n * sz = 0 then #[] else z.cells : Array Value).size]!)) (by simp [hn]) c.size
  rw [Nat.zero_mul, List.take_zero, List.nil_append, c.eq, ← p.eq] at hfill
  have hlen : cs.length = n * sz := by
    rw [← c.eq, List.length_flatMap, ← hn]
    have : ∀ (vs : List Value), (∀ v ∈ vs, v.cells.size = sz) → (vs.map fun v => v.cells.toList.length).sum = vs.length * sz := by
      intro vs
      induction vs with
      | nil => intro _; simp
      | cons v vs ih =>
        intro h
        rw [List.map_cons, List.sum_cons, ih (fun u hu => h u (by simp [hu])), Array.length_toList, h v (by simp), List.length_cons, Nat.succ_mul, Nat.add_comm]
    exact this vs c.size
  have hnm : n ≤ maxLen := by
    have : n ≤ n * sz := Nat.le_mul_of_pos_right _ hpos
    unfold maxLen; omega
  refine .of (v := .slice (some ⟨W.heap.size, 0, none⟩) n n) (w' := W.alloc (.cells cs.toArray e)) ?_ ?_
  · have hgt : ¬ (n * sz > 2 ^ 24) := by omega
    simp only [Instr.buildSlice, Sem.run_bind, run_underlying S.el.und, Result.andThen, S.el.size]
    by_cases h0 : n * sz = 0
    · rw [if_pos h0] at hfill
      rw [h0] at hfill
      rw [h0, if_neg (by decide), if_pos rfl]
      simp only [Sem.run_bind, Sem.run_pure, Result.andThen]
      rw [hfill]
      simp [newRow, Sem.run_bind, Sem.run_pure, Result.andThen, run_newObj_alloc]
    · rw [if_neg h0] at hfill
      simp only [if_neg hgt, if_neg h0, Sem.run_bind, Sem.run_pure, Result.andThen, S.el.zero]
      rw [hfill]
      simp [newRow, Sem.run_bind, Sem.run_pure, Result.andThen, run_newObj_alloc]
  · have how := World.ownsRow_lit (base := W.heap.size) (e := e) (size := sz) W cs.toArray n (Nat.le_refl _) hnm (by simpa using hlen)
    exact k _ _ ⟨rfl⟩ ((Below.refl _ W).alloc (Nat.le_refl _) _) (h.newOw (B := W.heap.size) ((Below.refl _ W).alloc (Nat.le_refl _) _) (by simpa using how) (Nat.le_refl _))
theorem St.lit {t e : TypeId} {sz bytes n : Nat} {z : Value} {ps : List (Nat × Value)} {vs cs : List Value} [S : SlT P t e sz bytes z] [p : Prt ps 0 vs] [c : CellsL sz vs cs] [ln : Len vs n] (h : St w0 G l W)
    (k : ∀ v W', Cel1 v → St w0 G (Ky v (Ow e sz n cs) :: l) W' → KW v W') (hm : n * sz ≤ 16777216 := by decide) : RunV P (Instr.buildSlice t n ps.toArray) W KW :=
  h.litB (fun v W' o _ h => k v W' o h) hm
/-- 'append(v, x)' -/
theorem St.push {t e ty : TypeId} {bytes : Nat} {z : Value} {v x : Value} {n : Nat} {xs : List Value} {R : List As} [i : Has l v (Ow e 1 n xs) R] [S : SlT P t e 1 bytes z] (h : St w0 G l W) [o : Cel1 x] (hm : n + 1 ≤ maxLen) (hb : (n + 1) * bytes ≤ 140737488355328)
    (k : ∀ v' W', Cel1 v' → St w0 G (Ky v' (Ow e 1 (n + 1) (xs ++ [x])) :: R) W' → v' ≠ .slice none 0 0 → KW v' W') :
    RunV P (Instr.buildSlice t 1 #[(0, x)]) W fun u w1 => RunV P (Builtin.append_ #[t, t] ty #[v, u]) w1 KW := by
  refine v_lit1 S.el o.one ?_
  refine (h.ext ((Below.refl _ W).alloc (Nat.le_refl _) _)).app (m := 1) (news := [x]) (Sl.of_own (own_lit (base := 0) (Nat.zero_le _) rfl (by unfold maxLen; omega))) (by simpa using o.one) hm hb fun v' W' o' h' h3 => ?_
  exact k v' W' o' h' fun hn => absurd (h3.1 hn).2 (by decide)
end
end Go.Ez
namespace Go.Ez
open Go Go.Proofs Go.RowKit
set_option linter.unusedSimpArgs false
set_option linter.unusedVariables false
section
variable {P : Program} {w0 W W' : World} {G : Nat → Prop} {l R : List As} {K : Value → Prop} {KW : Value → World → Prop} {KU : World → Prop}
/-- a block that can grow, opened -/
theorem St.openOw {e : TypeId} {sz n : Nat} {xs : List Value} {v : Value} [i : Has l v (Ow e sz n xs) R] (h : St w0 G l W) :
    (v = .slice none 0 0 ∧ n = 0 ∧ xs = [] ∧ St w0 G R W) ∨
    ∃ (g cap : Nat) (cur : List Value), v = .slice (some ⟨g, 0, none⟩) n cap ∧ n ≤ cap ∧ cap ≤ maxLen ∧ cur.length = cap * sz ∧ cur.take (n * sz) = xs ∧ St w0 G (Ky g (Ob (.cells cur.toArray e (0, 0))) :: R) W := by
  have h' := h.find (k := v) (X := Ow e sz n xs)
  have how := h'.ow (v := v)
  rcases how.2 with ⟨rfl, rfl⟩ | ⟨g, cap, cur, rfl, hg, hh, hn, hm, hc, ht⟩
  · have hx : xs = [] := List.eq_nil_of_length_eq_zero (by simpa using how.1)
    refine .inl ⟨rfl, rfl, hx, ?_⟩
    obtain ⟨F, ⟨F1, F2, h1, h2, hd, hF⟩, hG⟩ := h'.own
    exact { h' with own := ⟨F2, h2, fun b hb => hG b ((hF b).2 (.inr hb))⟩ }
  · refine .inr ⟨g, cap, cur.toList, rfl, hn, hm, by simpa using hc, ht, ?_⟩
    refine h'.conv fun F hF => ⟨fun x => ?_, by simpa using hh⟩
    rw [hF.1 x]; simp [Value.ownBlock, eq_comm]
theorem x_slH {t e : TypeId} {sz bytes g o n cap hi : Nat} {z : Value} {k0 : IntKind} [S : SlT P t e sz bytes z] (h1 : hi ≤ cap) (k : K (.slice (some ⟨g, o, none⟩) hi cap)) : RunA P (Instr.sliceAt t (.slice (some ⟨g, o, none⟩) n cap) none (some (.int k0 (hi : Int))) none) K := by
  have ht : P.underlying t = some (.slice (P.elem t)) := by rw [S.el.und]; simp [Program.elem, S.el.und]
  have hel : P.elem t = e := by simp [Program.elem, S.el.und]
  refine .of (fun w => ?_) k
  rw [run_sliceAt_slice w t _ _ _ _ ht, run_slice_h w t _ n cap ht k0 (hi : Int) (by omega) (by omega), hel, S.el.size]
  simp only [Result.andThen, sliced, Int.toNat_natCast]
  by_cases hc : cap = 0
  · rw [if_pos hc]; simp
  · rw [if_neg hc]; simp [addr_add]
def cutV : Value → Nat → Value
  | .slice a _ c, k => .slice a k c
  | v, _ => v
theorem x_cutOw {t e : TypeId} {sz bytes n k : Nat} {z v : Value} {xs : List Value} {k0 : IntKind} [S : SlT P t e sz bytes z] [i : Has l v (Ow e sz n xs) R] (h : St w0 G l W) (hk : k ≤ n) (kk : K (cutV v k)) : RunA P (Instr.sliceAt t v none (some (.int k0 (k : Int))) none) K := by
  rcases own_block_some (h.ow (v := v)) with ⟨rfl, rfl, rfl⟩ | ⟨g, cap, rfl, hnc⟩
  · obtain rfl : k = 0 := by omega
    have ht : P.underlying t = some (.slice (P.elem t)) := by rw [S.el.und]; simp [Program.elem, S.el.und]
    have hel : P.elem t = e := by simp [Program.elem, S.el.und]
    refine .of (v := .slice none 0 0) (fun w => ?_) kk
    rw [run_sliceAt_slice w t _ _ _ _ ht, run_slice_h w t none 0 0 ht k0 ((0 : Nat) : Int) (by omega) (by omega), hel, S.el.size]
    rfl
  · exact x_slH (S := S) (by omega) kk
theorem St.cutOw {e : TypeId} {sz n k : Nat} {v : Value} {xs : List Value} [i : Has l v (Ow e sz n xs) R] (h : St w0 G l W) (hk : k ≤ n) : St w0 G (Ky (cutV v k) (Ow e sz k (xs.take (k * sz))) :: R) W := by
  have hlen := (h.ow (v := v)).1
  refine (h.find (k := v) (X := Ow e sz n xs)).conv fun F hF => ?_
  have hF' : (∀ x, F x ↔ v.ownBlock = some x) ∧ W.ownsRow 0 e sz v n xs := hF
  have hl : (xs.take (k * sz)).length = k * sz := by
    rw [List.length_take, hlen]
    exact Nat.min_eq_left (Nat.mul_le_mul_right _ hk)
  rcases hF'.2.2 with ⟨rfl, rfl⟩ | ⟨g, cap, cur, rfl, hg, hh, hn, hm, hc, ht⟩
  · obtain rfl : k = 0 := by omega
    exact ⟨hF'.1, hl, .inl ⟨rfl, rfl⟩⟩
  · refine ⟨hF'.1, hl, .inr ⟨g, cap, cur, rfl, hg, hh, by omega, hm, hc, ?_⟩⟩
    rw [← ht, List.take_take, Nat.min_eq_left (Nat.mul_le_mul_right _ hk)]
/-- a part behind a place, read -/
theorem x_cutRd {t e : TypeId} {sz bytes n k : Nat} {z v : Value} {xs : List Value} {k0 : IntKind} {w1 : World} [S : SlT P t e sz bytes z] (hs : Sl w1 sz v n xs) (hk : k ≤ n) (kk : ∀ v', Sl w1 sz v' (n - k) (xs.drop (k * sz)) → K v') : RunA P (Instr.sliceAt t v (some (.int k0 (k : Int))) none none) K := by
  have hlen : xs.length = n * sz := by obtain ⟨_, _, _, _, h, _⟩ := hs; exact h
  refine a_sliceL S.el hs (by omega) (by omega) fun v' h => kk v' ?_
  simpa using h
theorem x_idx {t e : TypeId} {sz bytes n i : Nat} {z v : Value} {k0 : IntKind} {cs : List Value} {w1 : World} [S : SlT P t e sz bytes z] (hs : Sl w1 sz v n cs) (hi : i < n)
    (k : ∀ b o, (∀ j u, j < sz → cs[i * sz + j]? = some u → w1.cell? ⟨b, o + j, none⟩ = some u) → K (.pointer (some ⟨b, o, none⟩))) : RunA P (Instr.indexAt t v (.int k0 (i : Int))) K :=
  a_indexS S.el.und S.el.size S.el.pos hs (by omega) (by omega) fun b o h => k b o (by simpa using h)
theorem x_lds {e : TypeId} {b o sz : Nat} {cs zs : List Value} [T : TyS P e sz zs] (hl : cs.length = sz) (hc : ∀ j u, cs[j]? = some u → W.cell? ⟨b, o + j, none⟩ = some u) (k : K (.agg cs.toArray)) : RunW P (Instr.loadAt e (.pointer (some ⟨b, o, none⟩))) W K :=
  .of (by
    have := run_loadCells_list (P := P) W ⟨b, o, none⟩ cs (fun j v hj => by rw [addr_add]; exact hc j v hj)
    rw [hl] at this
    simp [Instr.loadAt, Instr.sureAddr, loadVar, T.agg, T.size, this]) k
theorem x_ld {t : TypeId} {b o : Nat} {v z : Value} [T : Ty1 P t z] (hc : W.cell? ⟨b, o, none⟩ = some v) (k : K v) : RunW P (Instr.loadAt t (.pointer (some ⟨b, o, none⟩))) W K := w_load T.agg hc k
theorem x_sld {S : World → Prop} {t : TypeId} {b o : Nat} {v z : Value} [T : Ty1 P t z] (hc : ∀ w, S w → w.cell? ⟨b, o, none⟩ = some v) (k : K v) : RunS P S (Instr.loadAt t (.pointer (some ⟨b, o, none⟩))) K := s_load T.agg hc k
/-- one cell each -/
theorem x_at {t e : TypeId} {bytes n i : Nat} {z v : Value} {k0 : IntKind} {cs : List Value} {u z' : Value} [S : SlT P t e 1 bytes z] [T : Ty1 P e z'] (hs : Sl W 1 v n cs) (hu : cs[i]? = some u) (k : K u) : RunA P (Instr.indexAt t v (.int k0 (i : Int))) fun p => RunW P (Instr.loadAt e p) W K := by
  have hi : i < n := by
    obtain ⟨_, _, _, _, hl, _⟩ := hs
    have := (List.getElem?_eq_some_iff.1 hu).1
    omega
  refine x_idx hs hi fun b o hc => x_ld (hc 0 u (by omega) (by simpa using hu)) k
theorem x_sat {S' : World → Prop} {w1 : World} {t e : TypeId} {bytes n i : Nat} {z v : Value} {k0 : IntKind} {cs : List Value} {u z' : Value} [S : SlT P t e 1 bytes z] [T : Ty1 P e z'] (hs : Sl w1 1 v n cs) (hS : ∀ w, S' w → Sl w 1 v n cs) (hu : cs[i]? = some u) (k : K u) : RunA P (Instr.indexAt t v (.int k0 (i : Int))) fun p => RunS P S' (Instr.loadAt e p) K := by
  obtain ⟨ao, cap, rfl, hnc, hl, hc, _⟩ := hs
  have hlt := (List.getElem?_eq_some_iff.1 hu).1
  obtain ⟨b, o, rfl, h2⟩ := hc i u hu
  refine a_indexAt S.el.und S.el.size (by omega) (by omega) ?_
  rw [Int.toNat_natCast, Nat.mul_one]
  refine x_sld (fun w hw => ?_) k
  obtain ⟨ao', cap', e1, _, _, hc', _⟩ := hS w hw
  cases e1
  obtain ⟨b', o', e2, e3⟩ := hc' i u hu
  cases e2
  exact e3
/-- a field of an element -/
theorem x_fld {t e t' : TypeId} {sz bytes n i f off : Nat} {z z' v u : Value} {k0 : IntKind} {cs : List Value} [S : SlT P t e sz bytes z] [F : Fld P e f off] [T : Ty1 P t' z'] (hs : Sl W sz v n cs) (hi : i < n) (ho : off < sz) (hu : cs[i * sz + off]? = some u) (k : K u) :
    RunA P (Instr.indexAt t v (.int k0 (i : Int))) fun p => RunA P (Instr.fieldAt e p f) fun q => RunW P (Instr.loadAt t' q) W K :=
  x_idx hs hi fun b o hc => a_fld (x_ld (hc off u ho hu) k)
theorem x_sfld {S' : World → Prop} {w1 : World} {t e t' : TypeId} {sz bytes n i f off : Nat} {z z' v u : Value} {k0 : IntKind} {cs : List Value} [S : SlT P t e sz bytes z] [F : Fld P e f off] [T : Ty1 P t' z'] (hs : Sl w1 sz v n cs) (hS : ∀ w, S' w → Sl w sz v n cs) (hi : i < n) (ho : off < sz) (hu : cs[i * sz + off]? = some u) (k : K u) :
    RunA P (Instr.indexAt t v (.int k0 (i : Int))) fun p => RunA P (Instr.fieldAt e p f) fun q => RunS P S' (Instr.loadAt t' q) K := by
  obtain ⟨ao, cap, rfl, hnc, hl, hc, _⟩ := hs
  obtain ⟨b, o, rfl, h2⟩ := hc _ u hu
  refine a_indexAt S.el.und S.el.size (by omega) (by omega) ?_
  rw [Int.toNat_natCast]
  refine a_fld ?_
  refine x_sld (fun w hw => ?_) k
  obtain ⟨ao', cap', e1, _, _, hc', _⟩ := hS w hw
  cases e1
  obtain ⟨b', o', e2, e3⟩ := hc' _ u hu
  cases e2
  rw [Nat.add_assoc]
  exact e3
theorem callV_fn {g : Nat} {args : Array Value} (he : Enters P g) (h : CallF P g args W KW) : CallV P (.func (.func g) #[] #[]) args W KW := .inl ⟨g, #[], #[], rfl, he, by simpa using h⟩
theorem callV_cl {g : Nat} {args lb : Array Value} (he : Enters P g) (h : CallF P g (args ++ lb) W KW) : CallV P (.func (.func g) #[] lb) args W KW := .inl ⟨g, #[], lb, rfl, he, by simpa using h⟩
theorem callV_bd {g : Nat} {args fs : Array Value} (he : Enters P g) (h : CallF P g (fs ++ args) W KW) : CallV P (.func (.func g) fs #[]) args W KW := .inl ⟨g, fs, #[], rfl, he, by simpa using h⟩
theorem s_neqL {S : World → Prop} {t : TypeId} {X Y : Operand} {a b : List UInt8} (h : K (.bool (decide (a ≠ b)))) : RunS P S (bin .neq t X Y (.string ⟨a.toArray⟩) (.string ⟨b.toArray⟩)) K :=
  ⟨_, fun w _ => by
    obtain ⟨v, hv, hk⟩ := w_neqL (P := P) (w := w) (K := fun v => v = .bool (decide (a ≠ b))) (t := t) (X := X) (Y := Y) (a := a) (b := b) rfl
    rw [hv, hk], h⟩
theorem x_geqL {t : TypeId} {X Y : Operand} {a b : List UInt8} (h : K (.bool (!Op.bytesLess a b))) : RunA P (bin .geq t X Y (.string ⟨a.toArray⟩) (.string ⟨b.toArray⟩)) K :=
  .of (fun w => by simp [bin, eqGuard, binOp, Op.stringOp, ByteArray.toList_mk]) h
end
end Go.Ez
namespace Go.Ez
open Go
set_option linter.unusedSimpArgs false
set_option linter.unusedVariables false
abbrev strV (l : List UInt8) : Value := .string ⟨l.toArray⟩
/-- what may be a key -/
class OKey (κ : Type) where
  lt : κ → κ → Bool
  irr : ∀ a, lt a a = false
  tr : ∀ {a b c}, lt a b = true → lt b c = true → lt a c = true
  tot : ∀ {a b}, lt a b = false → lt b a = false → a = b
/-- what is one cell -/
class Enc (κ : Type) where
  enc : κ → Value
  one : ∀ a, (enc a).oneCell' = true
instance {κ : Type} [Enc κ] {a : κ} : Cel1 (Enc.enc a) := ⟨Enc.one a⟩
abbrev Txt := List UInt8
theorem bl_irr : ∀ a : Txt, Op.bytesLess a a = false
  | [] => rfl
  | a :: x => by simp [Op.bytesLess, bl_irr x]
theorem bl_tr : ∀ {a b c : Txt}, Op.bytesLess a b = true → Op.bytesLess b c = true → Op.bytesLess a c = true
  | [], _, [], _, h => by cases ‹Txt› <;> simp [Op.bytesLess] at h
  | [], _, _ :: _, _, _ => rfl
  | a :: x, [], _, h, _ => by simp [Op.bytesLess] at h
  | a :: x, b :: y, [], _, h => by simp [Op.bytesLess] at h
  | a :: x, b :: y, c :: z, h1, h2 => by
    simp only [Op.bytesLess, Bool.or_eq_true, Bool.and_eq_true, decide_eq_true_eq, beq_iff_eq] at *
    rcases h1 with h1 | ⟨rfl, h1⟩ <;> rcases h2 with h2 | ⟨rfl, h2⟩
    · exact .inl (UInt8.lt_trans h1 h2)
    · exact .inl h1
    · exact .inl h2
    · exact .inr ⟨rfl, bl_tr h1 h2⟩
theorem bl_tot : ∀ {a b : Txt}, Op.bytesLess a b = false → Op.bytesLess b a = false → a = b
  | [], [], _, _ => rfl
  | [], _ :: _, h, _ => by simp [Op.bytesLess] at h
  | _ :: _, [], _, h => by simp [Op.bytesLess] at h
  | a :: x, b :: y, h1, h2 => by
    simp only [Op.bytesLess, Bool.or_eq_false_iff, Bool.and_eq_false_iff, decide_eq_false_iff_not, beq_eq_false_iff_ne] at *
    have hab : a = b := UInt8.le_antisymm (UInt8.not_lt.1 h2.1) (UInt8.not_lt.1 h1.1)
    subst hab
    rw [bl_tot (h1.2.resolve_left (fun h => h rfl)) (h2.2.resolve_left (fun h => h rfl))]
instance : OKey Txt := ⟨Op.bytesLess, bl_irr, bl_tr, bl_tot⟩
instance : Enc Txt := ⟨strV, fun _ => rfl⟩
section
variable {κ β : Type} [OKey κ]
open OKey
/-- they rise -/
def Srt (m : List (κ × β)) : Prop := m.Pairwise fun p q => lt p.1 q.1 = true
/-- how many keys stand before k -/
def posK (k : κ) : List (κ × β) → Nat
  | [] => 0
  | p :: m => if lt p.1 k then posK k m + 1 else 0
theorem posK_le (k : κ) : ∀ m : List (κ × β), posK k m ≤ m.length
  | [] => Nat.le_refl _
  | p :: m => by unfold posK; split <;> simp [posK_le k m]
theorem posK_lt {k : κ} : ∀ {m : List (κ × β)} {i : Nat} {p : κ × β}, m[i]? = some p → i < posK k m → lt p.1 k = true
  | p :: m, i, q, h, hi => by
    unfold posK at hi
    split at hi
    · rename_i hp
      cases i with
      | zero => cases h; exact hp
      | succ i => exact posK_lt (m := m) (by simpa using h) (by omega)
    · omega
theorem posK_ge {k : κ} : ∀ {m : List (κ × β)} {i : Nat} {p : κ × β}, Srt m → m[i]? = some p → posK k m ≤ i → lt p.1 k = false
  | p :: m, i, q, hs, h, hi => by
    unfold posK at hi
    cases i with
    | zero =>
      cases h
      split at hi
      · omega
      · rename_i hp; simpa using hp
    | succ i =>
      simp only [List.getElem?_cons_succ] at h
      have hs' := List.pairwise_cons.1 hs
      split at hi
      · exact posK_ge hs'.2 h (by omega)
      · rename_i hp
        have h1 := hs'.1 q (List.mem_of_getElem? h)
        cases hq : lt q.1 k
        · rfl
        · have := tr h1 hq; simp [this] at hp
theorem posK_iff {k : κ} {m : List (κ × β)} {i : Nat} {p : κ × β} (hs : Srt m) (h : m[i]? = some p) : lt p.1 k = true ↔ i < posK k m :=
  ⟨fun hl => (Nat.lt_or_ge i (posK k m)).elim id fun h' => by
    have := posK_ge hs h h'
    simp [this] at hl, posK_lt h⟩
/-- k is there just where it stands at its place -/
theorem mem_pos {k : κ} {v : β} {m : List (κ × β)} (hs : Srt m) (h : (k, v) ∈ m) : m[posK k m]? = some (k, v) := by
  obtain ⟨i, hi, he⟩ := List.getElem_of_mem h
  have hg : m[i]? = some (k, v) := by rw [List.getElem?_eq_getElem hi, he]
  have h1 : ¬ i < posK k m := fun hlt => by have := posK_lt hg hlt; rw [irr] at this; cases this
  rcases Nat.lt_or_ge (posK k m) i with h2 | h2
  · have hp : posK k m < m.length := by omega
    have h3 := posK_ge hs (List.getElem?_eq_getElem hp) (Nat.le_refl _)
    have h4 := List.pairwise_iff_getElem.1 hs (posK k m) i hp hi h2
    rw [he] at h4
    rw [h3] at h4; cases h4
  · obtain rfl : i = posK k m := by omega
    exact hg
/-- is k there? -/
def hasK [DecidableEq κ] (k : κ) (m : List (κ × β)) : Bool := match m[posK k m]? with
  | some p => decide (p.1 = k)
  | none => false
def putK [DecidableEq κ] (k : κ) (v : β) (m : List (κ × β)) : List (κ × β) := if hasK k m then m.set (posK k m) (k, v) else m.take (posK k m) ++ (k, v) :: m.drop (posK k m)
/-- k's value -/
def getK [DecidableEq κ] (k : κ) : List (κ × β) → Option β
  | [] => none
  | p :: m => if p.1 = k then some p.2 else getK k m
end
section
variable {κ β : Type} [DecidableEq κ]
theorem getK_mem : ∀ {k : κ} {v : β} {m : List (κ × β)}, getK k m = some v → (k, v) ∈ m
  | k, v, p :: m, h => by
    unfold getK at h
    split at h
    · rename_i hp; cases h; rw [← hp]; exact List.mem_cons_self
    · exact List.mem_cons_of_mem _ (getK_mem h)
theorem getK_none : ∀ {k : κ} {m : List (κ × β)}, getK k m = none → ∀ v, (k, v) ∉ m
  | k, [], _, v, h => by cases h
  | k, p :: m, h, v, hm => by
    unfold getK at h
    split at h
    · cases h
    · rename_i hp
      rcases List.mem_cons.1 hm with rfl | hm
      · exact hp rfl
      · exact getK_none h v hm
end
section
variable {κ β : Type} [OKey κ]
open OKey
variable [DecidableEq κ]
theorem hasK_spec {k : κ} {m : List (κ × β)} : hasK k m = true ↔ ∃ v, m[posK k m]? = some (k, v) := by
  unfold hasK
  split
  · rename_i p hp
    rw [hp]
    constructor
    · intro h
      have := of_decide_eq_true h
      exact ⟨p.2, by rw [← this]⟩
    · rintro ⟨v, hv⟩
      cases hv
      simp
  · rename_i hp
    rw [hp]; simp
theorem getK_pos {k : κ} {m : List (κ × β)} (hs : Srt m) : getK k m = if hasK k m then (m[posK k m]?).map Prod.snd else none := by
  cases hg : getK k m with
  | none =>
    split
    · rename_i hh
      obtain ⟨v, hv⟩ := hasK_spec.1 hh
      exact absurd (List.mem_of_getElem? hv) (getK_none hg v)
    · rfl
  | some v =>
    have := mem_pos hs (getK_mem hg)
    rw [if_pos (hasK_spec.2 ⟨v, this⟩), this]; rfl
theorem mem_iff_get {k : κ} {v : β} {m : List (κ × β)} (hs : Srt m) : (k, v) ∈ m ↔ getK k m = some v := by
  refine ⟨fun h => ?_, getK_mem⟩
  have hp := mem_pos hs h
  rw [getK_pos hs, if_pos (hasK_spec.2 ⟨v, hp⟩), hp]; rfl
theorem hasK_get {k : κ} {m : List (κ × β)} (hs : Srt m) : hasK k m = (getK k m).isSome := by
  rw [getK_pos hs]
  cases h : hasK k m
  · rfl
  · obtain ⟨v, hv⟩ := hasK_spec.1 h
    rw [if_pos rfl, hv]; rfl
theorem srt_ins {k : κ} {v : β} {m : List (κ × β)} (hs : Srt m) (hn : hasK k m = false) : Srt (m.take (posK k m) ++ (k, v) :: m.drop (posK k m)) := by
  have hl : ∀ p ∈ m.take (posK k m), lt p.1 k = true := by
    intro p hp
    obtain ⟨i, hi, he⟩ := List.getElem_of_mem hp
    rw [List.length_take] at hi
    rw [List.getElem_take] at he
    exact posK_lt (k := k) (m := m) (i := i) (by rw [List.getElem?_eq_getElem (by omega), he]) (by omega)
  have hr : ∀ p ∈ m.drop (posK k m), lt k p.1 = true := by
    intro p hp
    obtain ⟨i, hi, he⟩ := List.getElem_of_mem hp
    rw [List.length_drop] at hi
    rw [List.getElem_drop] at he
    have hg : m[posK k m + i]? = some p := by rw [List.getElem?_eq_getElem (by omega), he]
    have h1 := posK_ge (k := k) hs hg (by omega)
    cases h2 : lt k p.1 with
    | true => rfl
    | false =>
      have := tot h1 h2
      have h3 := mem_pos hs (k := k) (v := p.2) (by rw [← this]; exact List.mem_of_getElem? hg)
      rw [hasK_spec.2 ⟨_, h3⟩] at hn; cases hn
  have hsplit : Srt (m.take (posK k m) ++ m.drop (posK k m)) := by rw [List.take_append_drop]; exact hs
  have h3 := List.pairwise_append.1 hsplit
  refine List.pairwise_append.2 ⟨h3.1, List.pairwise_cons.2 ⟨hr, h3.2.1⟩, fun p hp q hq => ?_⟩
  rcases List.mem_cons.1 hq with rfl | hq
  · exact hl p hp
  · exact tr (hl p hp) (hr q hq)
theorem srt_set {k : κ} {v : β} {m : List (κ × β)} (hs : Srt m) (hh : hasK k m = true) : Srt (m.set (posK k m) (k, v)) := by
  obtain ⟨u, hu⟩ := hasK_spec.1 hh
  unfold Srt
  have e : (m.set (posK k m) (k, v)).map Prod.fst = m.map Prod.fst := by
    rw [List.map_set]
    refine List.ext_getElem? fun i => ?_
    by_cases hi : posK k m = i
    · subst hi
      rw [List.getElem?_set_self (by rw [List.length_map]; exact (List.getElem?_eq_some_iff.1 hu).1), List.getElem?_map, hu]; rfl
    · rw [List.getElem?_set_ne hi]
  have h1 : (m.map Prod.fst).Pairwise (fun a b => lt a b = true) := List.pairwise_map.2 hs
  rw [← e] at h1
  exact List.pairwise_map.1 h1
theorem srt_put {k : κ} {v : β} {m : List (κ × β)} (hs : Srt m) : Srt (putK k v m) := by
  unfold putK
  split
  · rename_i h; exact srt_set hs h
  · rename_i h; exact srt_ins hs (by simpa using h)
theorem get_put {k j : κ} {v : β} {m : List (κ × β)} (hs : Srt m) : getK j (putK k v m) = if j = k then some v else getK j m := by
  have hp := srt_put (k := k) (v := v) hs
  by_cases hjk : j = k
  · subst hjk
    rw [if_pos rfl, ← mem_iff_get hp]
    unfold putK
    split
    · rename_i h
      obtain ⟨u, hu⟩ := hasK_spec.1 h
      exact List.mem_of_getElem? (List.getElem?_set_self (List.getElem?_eq_some_iff.1 hu).1)
    · simp
  · rw [if_neg hjk]
    refine Option.ext fun u => ?_
    rw [← mem_iff_get hp, ← mem_iff_get hs]
    unfold putK
    split
    · rename_i h
      obtain ⟨x, hx⟩ := hasK_spec.1 h
      have hx' := List.getElem?_eq_some_iff.1 hx
      constructor
      · intro hm
        obtain ⟨i, hi, he⟩ := List.getElem_of_mem hm
        rw [List.length_set] at hi
        rw [List.getElem_set] at he
        split at he
        · cases he; exact absurd rfl hjk
        · rw [← he]; exact List.getElem_mem _
      · intro hm
        obtain ⟨i, hi, he⟩ := List.getElem_of_mem hm
        have hne : posK k m ≠ i := fun hpi => by subst hpi; rw [hx'.2] at he; cases he; exact hjk rfl
        have hm' : (m.set (posK k m) (k, v))[i]? = some (j, u) := by rw [List.getElem?_set_ne hne, List.getElem?_eq_getElem hi, he]
        exact List.mem_of_getElem? hm'
    · have e : ∀ x, x ∈ m ↔ x ∈ m.take (posK k m) ++ m.drop (posK k m) := fun x => by rw [List.take_append_drop]
      have e1 := e (j, u)
      rw [List.mem_append] at e1
      rw [e1]
      simp [hjk]
end
end Go.Ez
namespace Go.Ez
open Go
set_option linter.unusedSimpArgs false
set_option linter.unusedVariables false
structure XAt where
  space : Txt
  name : Txt
  value : Txt
  deriving DecidableEq, Inhabited
structure XTk where
  kind : Int
  space : Txt
  name : Txt
  text : Txt
  attrs : List XAt
  deriving DecidableEq, Inhabited
/-- an attribute as it is written -/
structure XPr where
  pre : Txt
  name : Txt
  value : Txt
  deriving DecidableEq, Inhabited
/-- an open element: its name, what its prefixes stand for -/
structure XFr where
  pre : Txt
  name : Txt
  spaces : List (Txt × Txt)
  deriving DecidableEq, Inhabited
structure XRd where
  s : Txt
  at_ : Nat
  e : Int
  out : List XTk
  op : List XFr
  run : Txt
  deriving DecidableEq, Inhabited
namespace XRd
def fail (r : XRd) (e : Int) : XRd := if r.e = 0 then { r with e := e } else r
def failIf (r : XRd) (b : Bool) (e : Int) : XRd := if b then r.fail e else r
def on (r : XRd) (n : Nat) : XRd := { r with at_ := r.at_ + n }
def rest (r : XRd) : Txt := r.s.drop r.at_
def see (r : XRd) (n : Nat) : UInt8 × XRd := match r.s[r.at_ + n]? with
  | some c => (c, r)
  | none => (0, r.fail 2)
def wants : Txt → XRd → XRd
  | [], r => r
  | c :: p, r => if r.e = 0 then wants p (((r.see 0).2.failIf (decide ((r.see 0).2.e = 0 ∧ (r.see 0).1 ≠ c)) 4).on 1) else r
def isBl (c : UInt8) : Bool := c == 32 || c == 9 || c == 10 || c == 13
def blanks (r : XRd) : Bool × XRd := (decide (0 < (r.rest.takeWhile isBl).length), r.on (r.rest.takeWhile isBl).length)
def good (c : Int) : Bool := decide (32 ≤ c ∨ c = 9 ∨ c = 10 ∨ c = 13)
/-- the reader's sign -/
def sign (dec : Txt → Int × Nat) (r : XRd) : Txt × XRd :=
  if (r.see 0).2.e ≠ 0 then ([], (r.see 0).2) else
  if good (dec r.rest).1 = false ∨ ((dec r.rest).1 = 65533 ∧ (dec r.rest).2 < 2) then ([], r.fail 4) else
  (r.rest.take (dec r.rest).2, r.on (dec r.rest).2)
def isPre (p s : Txt) : Bool := decide (s.take p.length = p)
/-- signs up to a text; fuel: the text's length -/
def signs (dec : Txt → Int × Nat) (p : Txt) : Nat → XRd → XRd
  | 0, r => r
  | f + 1, r => if r.e = 0 ∧ isPre p r.rest = false then signs dec p f (r.sign dec).2 else r
def til (dec : Txt → Int × Nat) (p : Txt) (r : XRd) : Txt × XRd :=
  if (signs dec p (r.s.length + 2) r).e ≠ 0 then ([], signs dec p (r.s.length + 2) r) else
  ((r.s.drop r.at_).take ((signs dec p (r.s.length + 2) r).at_ - r.at_), (signs dec p (r.s.length + 2) r).on p.length)
def begs (c : UInt8) : Bool := decide (97 ≤ c.toNat ∧ c.toNat ≤ 122) || decide (65 ≤ c.toNat ∧ c.toNat ≤ 90) || c == 95
def goes (c : UInt8) : Bool := begs c || decide (48 ≤ c.toNat ∧ c.toNat ≤ 57) || c == 45 || c == 46
def nameOf (r : XRd) : Txt × XRd :=
  let q := (r.see 0).2.failIf (decide ((r.see 0).2.e = 0) && !begs (r.see 0).1) 4
  (r.rest.takeWhile goes, q.on (r.rest.takeWhile goes).length)
def full (r : XRd) : (Txt × Txt) × XRd :=
  let n := r.nameOf
  if n.2.e ≠ 0 ∨ n.2.s[n.2.at_]? ≠ some 58 then (([], n.1), n.2) else ((n.1, (n.2.on 1).nameOf.1), (n.2.on 1).nameOf.2)
/-- a digit of a base -/
def digB (base : Nat) (c : UInt8) : Option Nat :=
  let d := if 48 ≤ c.toNat ∧ c.toNat ≤ 57 then some (c.toNat - 48) else if 97 ≤ c.toNat ∧ c.toNat ≤ 122 then some (c.toNat - 87) else if 65 ≤ c.toNat ∧ c.toNat ≤ 90 then some (c.toNat - 55) else none
  match d with
  | some d => if d < base then some d else none
  | none => none
def numB (base : Nat) : Txt → Nat → Nat
  | [], n => n
  | c :: l, n => numB base l (n * base + (digB base c).getD 0)
/-- digits up to a ;: fuel: one more than the most -/
def digitsGo (base most from_ : Nat) : Nat → XRd → XRd
  | 0, r => r
  | f + 1, r =>
    if r.e = 0 then
      (match r.s[r.at_]? with
       | none => r.fail 2
       | some c => if c = 59 then r else if (digB base c).isNone || decide (most ≤ r.at_ - from_) then r.fail 4 else digitsGo base most from_ f (r.on 1))
    else r
def digits (base most : Nat) (r : XRd) : Int × XRd :=
  let q := digitsGo base most r.at_ (most + 2) r
  let l := (r.s.drop r.at_).take (q.at_ - r.at_)
  ((numB base l 0 : Nat), (q.failIf (decide (l = [])) 4).on 1)
def number (sgn : Int → Txt × Bool) (r : XRd) : Txt × XRd :=
  let x := r.see 0
  let d := if x.1 = 120 then digits 16 6 (x.2.on 1) else digits 10 7 x.2
  ((sgn d.1).1, d.2.failIf (!(sgn d.1).2 || !good d.1) 4)
def refNames : List (Txt × Txt) := [([108, 116, 59], [60]), ([103, 116, 59], [62]), ([97, 109, 112, 59], [38]), ([113, 117, 111, 116, 59], [34]), ([97, 112, 111, 115, 59], [39])]
def refGo (rest : Txt) : List (Txt × Txt) → Bool → XRd → Txt × XRd
  | [], short, r => ([], (r.failIf short 2).fail 4)
  | n :: l, short, r => if isPre n.1 rest then (n.2, r.on n.1.length) else refGo rest l (short || isPre rest n.1) r
def reference (sgn : Int → Txt × Bool) (r : XRd) : Txt × XRd := if isPre [35] r.rest then number sgn (r.on 1) else refGo r.rest refNames false r
def part (dec : Txt → Int × Nat) (sgn : Int → Txt × Bool) (r : XRd) : Txt × XRd :=
  if (r.see 0).1 = 38 then reference sgn ((r.see 0).2.on 1) else (r.see 0).2.sign dec
/-- a value's parts; fuel: the text's length -/
def valGo (dec : Txt → Int × Nat) (sgn : Int → Txt × Bool) (quote : UInt8) : Nat → Txt → XRd → Txt × XRd
  | 0, _, r => ([], r)
  | f + 1, b, r =>
    if r.e ≠ 0 then ([], r) else
    let x := r.see 0
    if x.2.e ≠ 0 then valGo dec sgn quote f b x.2 else
    if x.1 = quote then (b, (x.2.on 1).failIf (decide (8000 < b.length)) 3) else
    if x.1 = 60 then valGo dec sgn quote f b (x.2.fail 4) else
    valGo dec sgn quote f (b ++ (part dec sgn x.2).1) (part dec sgn x.2).2
def value (dec : Txt → Int × Nat) (sgn : Int → Txt × Bool) (r : XRd) : Txt × XRd :=
  let x := r.see 0
  valGo dec sgn x.1 (r.s.length + 3) [] ((x.2.failIf (decide (x.2.e = 0 ∧ x.1 ≠ 34 ∧ x.1 ≠ 39)) 4).on 1)
def attr (dec : Txt → Int × Nat) (sgn : Int → Txt × Bool) (l : List XPr) (r : XRd) : XPr × XRd :=
  let f := r.full
  let q := f.2.failIf (decide (f.2.e = 0) && l.any fun p => decide (p.pre = f.1.1 ∧ p.name = f.1.2)) 4
  let q := (wants [61] q.blanks.2).blanks.2
  if q.e = 0 then (⟨f.1.1, f.1.2, (value dec sgn q).1⟩, (value dec sgn q).2) else (⟨f.1.1, f.1.2, []⟩, q)
def attrsGo (dec : Txt → Int × Nat) (sgn : Int → Txt × Bool) : Nat → List XPr → XRd → List XPr × XRd
  | 0, l, r => (l, r)
  | f + 1, l, r =>
    if r.e ≠ 0 then (l, r) else
    let x := r.blanks.2.see 0
    if x.2.e ≠ 0 ∨ x.1 = 47 ∨ x.1 = 62 then (l, x.2) else
    if r.blanks.1 = false then attrsGo dec sgn f l (x.2.fail 4) else
    attrsGo dec sgn f (l ++ [(attr dec sgn l x.2).1]) (attr dec sgn l x.2).2
def attrs (dec : Txt → Int × Nat) (sgn : Int → Txt × Bool) (r : XRd) : List XPr × XRd := attrsGo dec sgn (r.s.length + 3) [] r
def told : Txt := [120, 109, 108, 110, 115]
def own : Txt := [120, 109, 108]
/-- does an attribute tell a prefix? Which one? -/
def tells (p : XPr) : Txt × Bool := if p.pre = [] ∧ p.name = told then ([], true) else (p.name, decide (p.pre = told))
def lookS (k : Txt) : List (Txt × Txt) → Option Txt
  | [] => none
  | p :: l => if p.1 = k then some p.2 else lookS k l
/-- what the nearest of open elements says -/
def near (k : Txt) : List XFr → Option Txt
  | [] => none
  | f :: l => match lookS k f.spaces with
    | some s => some s
    | none => near k l
def space (f : XFr) (pre : Txt) (r : XRd) : Txt × XRd :=
  if pre = own then (own, r) else
  match lookS pre f.spaces with
  | some s => (s, r)
  | none => match near pre r.op.reverse with
    | some s => (s, r)
    | none => ([], r.failIf (decide (pre ≠ [])) 4)
def putS (m : List (Txt × Txt)) (k v : Txt) : List (Txt × Txt) := (k, v) :: m.filter fun p => decide (p.1 ≠ k)
def spacesOf : List XPr → List (Txt × Txt) → List (Txt × Txt)
  | [], m => m
  | p :: l, m => spacesOf l (if (tells p).2 then putS m (tells p).1 p.value else m)
def attsOf (f : XFr) : List XPr → List XAt → XRd → List XAt × XRd
  | [], o, r => (o, r)
  | p :: l, o, r => if (tells p).2 then attsOf f l o r else
    if p.pre ≠ [] then attsOf f l (o ++ [⟨(space f p.pre r).1, p.name, p.value⟩]) (space f p.pre r).2 else attsOf f l (o ++ [⟨[], p.name, p.value⟩]) r
def begin_ (name : Txt × Txt) (l : List XPr) (r : XRd) : XFr × XRd :=
  let f : XFr := ⟨name.1, name.2, spacesOf l []⟩
  let x := space f name.1 r
  let a := attsOf f l [] x.2
  (f, { a.2 with out := a.2.out ++ [⟨1, x.1, name.2, [], a.1⟩] })
def flush (r : XRd) : XRd :=
  if 8000 < r.run.length then ({ r with run := [] } : XRd).fail 3 else if r.run ≠ [] then { r with run := [], out := r.out ++ [⟨3, [], [], r.run, []⟩] } else { r with run := [] }
def close (f : XFr) (r : XRd) : XRd := { (space f f.pre r).2 with out := (space f f.pre r).2.out ++ [⟨2, (space f f.pre r).1, f.name, [], []⟩] }
def element (dec : Txt → Int × Nat) (sgn : Int → Txt × Bool) (r : XRd) : XRd :=
  let r := r.on 1
  if 64 ≤ r.op.length then r.fail 10 else
  let n := r.full
  let a := attrs dec sgn n.2
  if a.2.e ≠ 0 then a.2 else
  let x := a.2.see 0
  let q := wants [62] (if x.1 = 47 then x.2.on 1 else x.2)
  if q.e ≠ 0 then q else
  let f := begin_ n.1 a.1 q
  if x.1 = 47 then close f.1 f.2 else { f.2 with op := f.2.op ++ [f.1] }
def end_ (r : XRd) : XRd :=
  let r := r.on 2
  let f := r.op.getLastD default
  let n := r.full
  let q := n.2.failIf (decide (n.2.e = 0 ∧ ¬ (n.1.1 = f.pre ∧ n.1.2 = f.name))) 4
  let q := wants [62] q.blanks.2
  if q.e = 0 then { close f q with op := (close f q).op.dropLast } else q
def comment (dec : Txt → Int × Nat) (r : XRd) : XRd := wants [62] (til dec [45, 45] (wants [60, 33, 45, 45] r)).2
def content (dec : Txt → Int × Nat) (sgn : Int → Txt × Bool) (r : XRd) : XRd :=
  let x := r.see 0
  if x.1 ≠ 60 then { (part dec sgn x.2).2 with run := (part dec sgn x.2).2.run ++ (part dec sgn x.2).1 } else
  let y := x.2.see 1
  if y.2.e ≠ 0 then y.2 else
  if y.1 = 33 ∧ (y.2.see 2).1 = 91 then
    (let t := til dec [93, 93, 62] (wants [60, 33, 91, 67, 68, 65, 84, 65, 91] (y.2.see 2).2)
     { t.2 with run := t.2.run ++ t.1 })
  else if y.1 = 33 then comment dec (y.2.see 2).2
  else if y.1 = 47 then end_ y.2.flush
  else if begs y.1 then element dec sgn y.2.flush
  else y.2.fail 4
def misc (dec : Txt → Int × Nat) : Nat → XRd → XRd
  | 0, r => r
  | f + 1, r => if r.e ≠ 0 then r else if isPre [60, 33] r.blanks.2.rest = false then r.blanks.2 else misc dec f (comment dec r.blanks.2)
def front (dec : Txt → Int × Nat) (r : XRd) : XRd :=
  let r := if isPre [239, 187, 191] r.rest then r.on 3 else r
  let q := if isPre [60, 63] r.rest then
    (let w := wants [60, 63, 120, 109, 108] r
     let x := (w.see 0).2
     let y := if x.e = 0 then x.blanks.2.failIf (!x.blanks.1) 4 else x
     (til dec [63, 62] y).2) else r
  misc dec (q.s.length + 2) q
def contents (dec : Txt → Int × Nat) (sgn : Int → Txt × Bool) : Nat → XRd → XRd
  | 0, r => r
  | f + 1, r => if r.e = 0 ∧ r.op ≠ [] then contents dec sgn f (content dec sgn r) else r
/-- a document's tokens, and an error -/
def tokens (dec : Txt → Int × Nat) (sgn : Int → Txt × Bool) (b : Txt) : List XTk × Int :=
  if 20000 < b.length then ([], 3) else
  let r := front dec ⟨b, 0, 0, [], [], []⟩
  let x := r.see 0
  let q := x.2.failIf (decide (x.2.e = 0 ∧ x.1 ≠ 60)) 4
  let y := q.see 1
  let q := y.2.failIf (decide (y.2.e = 0) && !begs y.1) 4
  let q := if q.e = 0 then element dec sgn q else q
  let q := contents dec sgn (b.length + 2) q
  let q := misc dec (b.length + 2) q
  let q := q.failIf (decide (q.e = 0 ∧ q.at_ < q.s.length)) 4
  if q.e ≠ 0 then ([], q.e) else (q.out, 0)
end XRd
end Go.Ez
namespace Go.Ez.XRd
open Go Go.Ez
set_option linter.unusedSimpArgs false
set_option linter.unusedVariables false
structure Ok (r : XRd) : Prop where
  lt : r.at_ ≤ r.s.length + 1
  le : r.e = 0 → r.at_ ≤ r.s.length
/-- what a method that makes no token does -/
structure Stp (r r' : XRd) : Prop where
  s : r'.s = r.s
  out : r'.out = r.out
  op : r'.op = r.op
  run : r'.run = r.run
  up : r.at_ ≤ r'.at_
  e : r.e ≠ 0 → r'.e = r.e
  ok : Ok r'
/-- it goes on, or fails -/
def Adv (r r' : XRd) : Prop := r'.e = 0 → r.at_ < r'.at_
structure DecOk (dec : Txt → Int × Nat) : Prop where
  pos : ∀ t, t ≠ [] → 1 ≤ (dec t).2
  le : ∀ t, t ≠ [] → (dec t).2 ≤ t.length
variable {r r' r'' : XRd} {n : Nat} {p : Txt} {dec : Txt → Int × Nat} {sgn : Int → Txt × Bool}
theorem Ok.of_le (h : r.at_ ≤ r.s.length) : Ok r := ⟨by omega, fun _ => h⟩
theorem Stp.refl (h : Ok r) : Stp r r := ⟨rfl, rfl, rfl, rfl, Nat.le_refl _, fun _ => rfl, h⟩
theorem Stp.trans (h : Stp r r') (h' : Stp r' r'') : Stp r r'' :=
  ⟨h'.s.trans h.s, h'.out.trans h.out, h'.op.trans h.op, h'.run.trans h.run, Nat.le_trans h.up h'.up, fun he => (h'.e (by rw [h.e he]; exact he)).trans (h.e he), h'.ok⟩
theorem Stp.e0 (h : Stp r r') (he : r'.e = 0) : r.e = 0 := Classical.byContradiction fun hn => hn ((h.e hn).symm.trans he)
theorem Stp.adv (h : Stp r r') (h' : Adv r' r'') : Adv r r'' := fun he => Nat.lt_of_le_of_lt h.up (h' he)
theorem Adv.stp (h : Adv r r') (h' : Stp r' r'') : Adv r r'' := fun he => Nat.lt_of_lt_of_le (h (h'.e0 he)) h'.up
theorem fail_ne {c : Int} (hc : c ≠ 0) : (r.fail c).e ≠ 0 := by unfold fail; split <;> simp_all
theorem fail_at {c : Int} : (r.fail c).at_ = r.at_ := by unfold fail; split <;> rfl
theorem fail_s {c : Int} : (r.fail c).s = r.s := by unfold fail; split <;> rfl
theorem stp_fail {c : Int} (hc : c ≠ 0) (h : r.at_ ≤ r.s.length + 1) : Stp r (r.fail c) := by
  have h1 := fail_ne (r := r) hc
  refine ⟨fail_s, ?_, ?_, ?_, by rw [fail_at]; exact Nat.le_refl _, fun he => ?_, ⟨by rw [fail_at, fail_s]; exact h, fun he => absurd he h1⟩⟩
  · unfold fail; split <;> rfl
  · unfold fail; split <;> rfl
  · unfold fail; split <;> rfl
  · unfold fail; rw [if_neg he]
theorem stp_failIf {c : Int} {b : Bool} (hc : c ≠ 0) (h : Ok r) : Stp r (r.failIf b c) := by
  unfold failIf; split
  · exact stp_fail hc h.lt
  · exact Stp.refl h
theorem failIf_e {c : Int} {b : Bool} (hc : c ≠ 0) (h : (r.failIf b c).e = 0) : b = false ∧ r.failIf b c = r := by
  unfold failIf at h ⊢
  cases b
  · exact ⟨rfl, rfl⟩
  · exact absurd h (fail_ne hc)
theorem failIf_at {c : Int} {b : Bool} : (r.failIf b c).at_ = r.at_ := by unfold failIf; split; exact fail_at; rfl
theorem failIf_s {c : Int} {b : Bool} : (r.failIf b c).s = r.s := by unfold failIf; split; exact fail_s; rfl
theorem see_some {c : UInt8} (h : r.s[r.at_ + n]? = some c) : r.see n = (c, r) := by unfold see; rw [h]
theorem see_none (h : r.s[r.at_ + n]? = none) : r.see n = (0, r.fail 2) := by unfold see; rw [h]
theorem see_at : (r.see n).2.at_ = r.at_ := by unfold see; split; rfl; exact fail_at
theorem see_s : (r.see n).2.s = r.s := by unfold see; split; rfl; exact fail_s
theorem stp_see (h : Ok r) : Stp r (r.see n).2 := by
  unfold see; split
  · exact Stp.refl h
  · exact stp_fail (by decide) h.lt
theorem see_e (h : (r.see n).2.e = 0) : ∃ c, r.s[r.at_ + n]? = some c ∧ r.see n = (c, r) := by
  cases hx : r.s[r.at_ + n]? with
  | some c => exact ⟨c, rfl, see_some hx⟩
  | none => rw [see_none hx] at h; exact absurd h (fail_ne (by decide))
theorem see_c (h : (r.see n).1 ≠ 0) : ∃ c, r.s[r.at_ + n]? = some c ∧ r.see n = (c, r) := by
  cases hx : r.s[r.at_ + n]? with
  | some c => exact ⟨c, rfl, see_some hx⟩
  | none => rw [see_none hx] at h; exact absurd rfl h
theorem lt_of_at {c : UInt8} (h : r.s[r.at_ + n]? = some c) : r.at_ + n < r.s.length := (List.getElem?_eq_some_iff.1 h).1
theorem stp_on (h : r.at_ + n ≤ r.s.length) : Stp r (r.on n) := ⟨rfl, rfl, rfl, rfl, Nat.le_add_right _ _, fun _ => rfl, .of_le h⟩
theorem stp_on1 (h : r.at_ ≤ r.s.length) (he : r.e ≠ 0) : Stp r (r.on 1) := ⟨rfl, rfl, rfl, rfl, Nat.le_add_right _ _, fun _ => rfl, ⟨Nat.succ_le_succ h, fun h => absurd h he⟩⟩
theorem wants_no {p : Txt} (he : r.e ≠ 0) : wants p r = r := by cases p; rfl; unfold wants; rw [if_neg he]
theorem stp_wants : ∀ {p : Txt} {r : XRd}, Ok r → Stp r (wants p r)
  | [], r, h => Stp.refl h
  | c :: p, r, h => by
    unfold wants
    split
    · rename_i he
      have h1 := stp_see (n := 0) h
      generalize hb : decide ((r.see 0).2.e = 0 ∧ (r.see 0).1 ≠ c) = b
      have h2 := h1.trans (stp_failIf (b := b) (c := 4) (by decide) h1.ok)
      have hat : ((r.see 0).2.failIf b 4).at_ = r.at_ := by rw [failIf_at, see_at]
      have h3 : Stp ((r.see 0).2.failIf b 4) (((r.see 0).2.failIf b 4).on 1) := by
        by_cases hq : ((r.see 0).2.failIf b 4).e = 0
        · have h4 := (stp_failIf (b := b) (c := 4) (by decide) h1.ok).e0 hq
          obtain ⟨x, hx, _⟩ := see_e h4
          refine stp_on ?_
          rw [hat, failIf_s, see_s]
          exact lt_of_at hx
        · refine stp_on1 ?_ hq
          rw [hat, failIf_s, see_s]
          exact h.le he
      exact (h2.trans h3).trans (stp_wants h3.ok)
    · exact Stp.refl h
theorem adv_wants {c : UInt8} (h : Ok r) : Adv r (wants (c :: p) r) := fun he => by
  have h0 := (stp_wants h).e0 he
  have e1 : wants (c :: p) r = wants p (((r.see 0).2.failIf (decide ((r.see 0).2.e = 0 ∧ (r.see 0).1 ≠ c)) 4).on 1) := by
    conv => lhs; unfold wants
    rw [if_pos h0]
  rw [e1] at he ⊢
  generalize decide ((r.see 0).2.e = 0 ∧ (r.see 0).1 ≠ c) = b at *
  by_cases hq : ((r.see 0).2.failIf b 4).e = 0
  · have h1 := stp_see (n := 0) h
    have h4 := (stp_failIf (b := b) (c := 4) (by decide) h1.ok).e0 hq
    obtain ⟨x, hx, _⟩ := see_e h4
    have hok : Ok (((r.see 0).2.failIf b 4).on 1) := .of_le (by show ((r.see 0).2.failIf b 4).at_ + 1 ≤ ((r.see 0).2.failIf b 4).s.length; rw [failIf_at, see_at, failIf_s, see_s]; exact lt_of_at hx)
    have := (stp_wants (p := p) hok).up
    have e2 : (((r.see 0).2.failIf b 4).on 1).at_ = r.at_ + 1 := by show ((r.see 0).2.failIf b 4).at_ + 1 = _; rw [failIf_at, see_at]
    omega
  · rw [wants_no (r := ((r.see 0).2.failIf b 4).on 1) hq] at he
    exact absurd he hq
theorem tw_le (f : UInt8 → Bool) (l : Txt) : (l.takeWhile f).length ≤ l.length := by
  have := (List.takeWhile_sublist f (l := l)).length_le
  exact this
theorem rest_len : r.rest.length = r.s.length - r.at_ := by unfold rest; rw [List.length_drop]
theorem stp_pass (f : UInt8 → Bool) (h : Ok r) : Stp r (r.on (r.rest.takeWhile f).length) := by
  have h1 := tw_le f r.rest
  rw [rest_len] at h1
  have h2 := h.lt
  refine ⟨rfl, rfl, rfl, rfl, Nat.le_add_right _ _, fun _ => rfl, ⟨?_, fun he => ?_⟩⟩
  · show r.at_ + _ ≤ r.s.length + 1; omega
  · have := h.le he
    show r.at_ + _ ≤ r.s.length; omega
theorem stp_blanks (h : Ok r) : Stp r r.blanks.2 := stp_pass isBl h
theorem stp_sign (hd : DecOk dec) (h : Ok r) : Stp r (r.sign dec).2 := by
  unfold sign
  split
  · exact stp_see h
  · rename_i h1
    obtain ⟨c, hc, _⟩ := see_e (Classical.not_not.1 h1)
    have hlt := lt_of_at hc
    split
    · exact stp_fail (by decide) h.lt
    · have hne : r.rest ≠ [] := fun e => by have := congrArg List.length e; rw [rest_len] at this; simp at this; omega
      have := hd.le _ hne
      rw [rest_len] at this
      exact stp_on (by omega)
theorem adv_sign (hd : DecOk dec) : Adv r (r.sign dec).2 := by
  unfold sign
  intro he
  split at he
  · exact absurd he ‹_›
  · rename_i h1
    obtain ⟨c, hc, _⟩ := see_e (Classical.not_not.1 h1)
    have hlt := lt_of_at hc
    split at he
    · exact absurd he (fail_ne (by decide))
    · rename_i h2
      rw [if_neg h1, if_neg h2]
      have hne : r.rest ≠ [] := fun e => by have := congrArg List.length e; rw [rest_len] at this; simp at this; omega
      have := hd.pos _ hne
      show r.at_ < r.at_ + _
      omega
theorem signs_no {f : Nat} (he : r.e ≠ 0) : signs dec p f r = r := by cases f; rfl; unfold signs; rw [if_neg (fun h => he h.1)]
theorem stp_signs (hd : DecOk dec) : ∀ {f : Nat} {r : XRd}, Ok r → Stp r (signs dec p f r)
  | 0, r, h => Stp.refl h
  | f + 1, r, h => by
    unfold signs
    split
    · exact (stp_sign hd h).trans (stp_signs hd (stp_sign hd h).ok)
    · exact Stp.refl h
theorem signs_end (hd : DecOk dec) : ∀ {f : Nat} {r : XRd}, Ok r → r.s.length < f + r.at_ → (signs dec p f r).e = 0 → isPre p (signs dec p f r).rest = true
  | 0, r, h, hf, he => by
    have := h.le he
    omega
  | f + 1, r, h, hf, he => by
    unfold signs at he ⊢
    split at he
    · rename_i hc
      rw [if_pos hc]
      have h1 := stp_sign (dec := dec) hd h
      have h2 := (stp_signs (p := p) (f := f) hd h1.ok).e0 he
      have h3 := adv_sign (r := r) hd h2
      refine signs_end hd h1.ok ?_ he
      rw [h1.s]; omega
    · rename_i hc
      rw [if_neg hc]
      cases hp : isPre p r.rest
      · exact absurd ⟨he, hp⟩ hc
      · rfl
theorem isPre_len {s : Txt} (h : isPre p s = true) : p.length ≤ s.length := by
  have := congrArg List.length (of_decide_eq_true h)
  rw [List.length_take] at this
  omega
theorem stp_til (hd : DecOk dec) (h : Ok r) : Stp r (r.til dec p).2 := by
  have h1 := stp_signs (p := p) (f := r.s.length + 2) hd h
  unfold til
  split
  · exact h1
  · rename_i he
    have h2 := isPre_len (signs_end (p := p) (f := r.s.length + 2) hd h (by omega) (Classical.not_not.1 he))
    rw [rest_len] at h2
    have h3 := h1.ok.le (Classical.not_not.1 he)
    exact h1.trans (stp_on (by omega))
/-- a name's place: within the text -/
theorem name_le (h : r.at_ ≤ r.s.length) : r.nameOf.2.at_ ≤ r.s.length := by
  have h1 := tw_le goes r.rest
  rw [rest_len] at h1
  show (XRd.failIf _ _ _).at_ + _ ≤ _
  rw [failIf_at, see_at]
  omega
theorem stp_name (h : r.at_ ≤ r.s.length) : Stp r r.nameOf.2 := by
  have h1 := stp_see (n := 0) (Ok.of_le h)
  have h2 := h1.trans (stp_failIf (b := decide ((r.see 0).2.e = 0) && !begs (r.see 0).1) (c := 4) (by decide) h1.ok)
  have h3 := tw_le goes r.rest
  rw [rest_len] at h3
  refine h2.trans (stp_on ?_)
  rw [failIf_at, see_at, failIf_s, see_s]
  omega
theorem full_le (h : r.at_ ≤ r.s.length) : r.full.2.at_ ≤ r.s.length := by
  have h1 := name_le h
  have h2 := stp_name h
  unfold full
  dsimp only
  split
  · exact h1
  · rename_i hc
    have hs : r.nameOf.2.s[r.nameOf.2.at_ + 0]? = some 58 := Classical.byContradiction fun hn => hc (.inr hn)
    have h3 := lt_of_at hs
    have h4 : (r.nameOf.2.on 1).at_ ≤ (r.nameOf.2.on 1).s.length := by show r.nameOf.2.at_ + 1 ≤ r.nameOf.2.s.length; omega
    have h5 := name_le h4
    have : (r.nameOf.2.on 1).s.length = r.s.length := by show r.nameOf.2.s.length = _; rw [h2.s]
    show (r.nameOf.2.on 1).nameOf.2.at_ ≤ _
    omega
theorem stp_full (h : r.at_ ≤ r.s.length) : Stp r r.full.2 := by
  have h2 := stp_name h
  unfold full
  dsimp only
  split
  · exact h2
  · rename_i hc
    have hs : r.nameOf.2.s[r.nameOf.2.at_ + 0]? = some 58 := Classical.byContradiction fun hn => hc (.inr hn)
    have h3 := lt_of_at hs
    have h4 := stp_on (r := r.nameOf.2) (n := 1) (by omega)
    exact h2.trans (h4.trans (stp_name (by show r.nameOf.2.at_ + 1 ≤ r.nameOf.2.s.length; omega)))
theorem digitsGo_le {base most fr : Nat} : ∀ {f : Nat} {r : XRd}, r.at_ ≤ r.s.length → Stp r (digitsGo base most fr f r) ∧ (digitsGo base most fr f r).at_ ≤ r.s.length
  | 0, r, h => ⟨Stp.refl (.of_le h), h⟩
  | f + 1, r, h => by
    unfold digitsGo
    split
    · split
      · exact ⟨stp_fail (by decide) (by omega), by rw [fail_at]; exact h⟩
      · rename_i c hc
        split
        · exact ⟨Stp.refl (.of_le h), h⟩
        · split
          · exact ⟨stp_fail (by decide) (by omega), by rw [fail_at]; exact h⟩
          · have h1 := lt_of_at (n := 0) hc
            have h2 := stp_on (r := r) (n := 1) (by omega)
            have h3 : (r.on 1).at_ ≤ (r.on 1).s.length := by show r.at_ + 1 ≤ r.s.length; omega
            obtain ⟨h4, h5⟩ := digitsGo_le (base := base) (most := most) (fr := fr) (f := f) h3
            exact ⟨h2.trans h4, h5⟩
    · exact ⟨Stp.refl (.of_le h), h⟩
/-- at its end a ; stands, or it failed -/
theorem digitsGo_end {base most fr : Nat} : ∀ {f : Nat} {r : XRd}, r.at_ ≤ fr + most → fr + most < f + r.at_ → (digitsGo base most fr f r).e = 0 → (digitsGo base most fr f r).s[(digitsGo base most fr f r).at_]? = some 59
  | 0, r, h1, hf, he => by omega
  | f + 1, r, h1, hf, he => by
    unfold digitsGo at he ⊢
    split at he
    · rename_i he0
      rw [if_pos he0]
      split at he
      · exact absurd he (fail_ne (by decide))
      · rename_i c hc
        split at he
        · rename_i h59
          rw [if_pos h59]
          subst h59
          exact hc
        · rename_i h59
          split at he
          · exact absurd he (fail_ne (by decide))
          · rename_i hd
            rw [if_neg h59, if_neg hd]
            have hm : ¬ (most ≤ r.at_ - fr) := fun hm => hd (by simp [hm])
            exact digitsGo_end (by show r.at_ + 1 ≤ _; omega) (by show _ < f + (r.at_ + 1); omega) he
    · rename_i he0
      exact absurd he he0
theorem stp_digits {base most : Nat} (h : r.at_ ≤ r.s.length) : Stp r (digits base most r).2 := by
  obtain ⟨h1, h2⟩ := digitsGo_le (base := base) (most := most) (fr := r.at_) (f := most + 2) h
  have h3 := @digitsGo_end base most r.at_ (most + 2) r (by omega) (by omega)
  unfold digits
  dsimp only
  generalize digitsGo base most r.at_ (most + 2) r = q at *
  generalize decide ((r.s.drop r.at_).take (q.at_ - r.at_) = []) = b
  refine (h1.trans (stp_failIf (b := b) (c := 4) (by decide) h1.ok)).trans ?_
  by_cases he : (q.failIf b 4).e = 0
  · obtain ⟨_, e2⟩ := failIf_e (by decide) he
    rw [e2] at he ⊢
    have := lt_of_at (r := q) (n := 0) (h3 he)
    exact stp_on (by omega)
  · refine stp_on1 ?_ he
    rw [failIf_at, failIf_s, h1.s]; exact h2
theorem stp_number (h : r.at_ ≤ r.s.length) : Stp r (number sgn r).2 := by
  have h1 := stp_see (n := 0) (Ok.of_le h)
  unfold number
  dsimp only
  have h2 : Stp r (if (r.see 0).1 = 120 then digits 16 6 ((r.see 0).2.on 1) else digits 10 7 (r.see 0).2).2 := by
    split
    · rename_i hc
      obtain ⟨c, hs, hx⟩ := see_c (r := r) (n := 0) (by rw [hc]; decide)
      have := lt_of_at hs
      rw [hx]
      exact (stp_on (r := r) (n := 1) (by omega)).trans (stp_digits (r := r.on 1) (by show r.at_ + 1 ≤ r.s.length; omega))
    · exact h1.trans (stp_digits (by rw [see_at, see_s]; exact h))
  exact h2.trans (stp_failIf (by decide) h2.ok)
theorem stp_refGo : ∀ {l : List (Txt × Txt)} {b : Bool} {r : XRd}, (∀ n ∈ l, n.1 ≠ []) → r.at_ ≤ r.s.length → Stp r (refGo r.rest l b r).2
  | [], b, r, _, h => by
    unfold refGo
    have h1 := stp_failIf (b := b) (c := 2) (by decide) (Ok.of_le h)
    exact h1.trans (stp_fail (by decide) h1.ok.lt)
  | n :: l, b, r, hn, h => by
    unfold refGo
    split
    · rename_i hp
      have := isPre_len hp
      rw [rest_len] at this
      exact stp_on (by omega)
    · exact stp_refGo (fun m hm => hn m (List.mem_cons_of_mem _ hm)) h
theorem refNames_ne : ∀ n ∈ refNames, n.1 ≠ [] := by decide
theorem stp_reference (h : r.at_ ≤ r.s.length) : Stp r (reference sgn r).2 := by
  unfold reference
  split
  · rename_i hp
    have := isPre_len hp
    rw [rest_len] at this
    have h1 : ([35] : Txt).length = 1 := rfl
    have hle : r.at_ + 1 ≤ r.s.length := by omega
    exact (stp_on (r := r) (n := 1) hle).trans (stp_number (r := r.on 1) hle)
  · exact stp_refGo refNames_ne h
theorem stp_part (hd : DecOk dec) (h : Ok r) : Stp r (part dec sgn r).2 := by
  unfold part
  split
  · rename_i hc
    obtain ⟨c, hs, hx⟩ := see_c (r := r) (n := 0) (by rw [hc]; decide)
    have := lt_of_at hs
    have hle : r.at_ + 1 ≤ r.s.length := by omega
    rw [hx]
    exact (stp_on (r := r) (n := 1) hle).trans (stp_reference (r := r.on 1) hle)
  · exact (stp_see h).trans (stp_sign hd (stp_see h).ok)
theorem adv_part (hd : DecOk dec) (h : Ok r) : Adv r (part dec sgn r).2 := by
  unfold part
  split
  · rename_i hc
    obtain ⟨c, hs, hx⟩ := see_c (r := r) (n := 0) (by rw [hc]; decide)
    have := lt_of_at hs
    have hle : r.at_ + 1 ≤ r.s.length := by omega
    rw [hx]
    have h2 := (stp_reference (sgn := sgn) (r := r.on 1) hle).up
    intro _
    show r.at_ < _
    have : (r.on 1).at_ = r.at_ + 1 := rfl
    dsimp only
    omega
  · exact (stp_see h).adv (adv_sign hd)
theorem stp_valGo (hd : DecOk dec) {q : UInt8} : ∀ {f : Nat} {b : Txt} {r : XRd}, Ok r → Stp r (valGo dec sgn q f b r).2
  | 0, b, r, h => Stp.refl h
  | f + 1, b, r, h => by
    unfold valGo
    split
    · exact Stp.refl h
    · have h1 := stp_see (n := 0) h
      dsimp only
      split
      · exact h1.trans (stp_valGo hd h1.ok)
      · rename_i he
        obtain ⟨c, hs, hx⟩ := see_e (Classical.not_not.1 he)
        have := lt_of_at hs
        have hle : r.at_ + 1 ≤ r.s.length := by omega
        rw [hx]
        dsimp only
        split
        · have h2 := stp_on (r := r) (n := 1) hle
          exact h2.trans (stp_failIf (by decide) h2.ok)
        · split
          · have h2 := stp_fail (r := r) (c := 4) (by decide) h.lt
            exact h2.trans (stp_valGo hd h2.ok)
          · have h2 := stp_part (sgn := sgn) hd h
            exact h2.trans (stp_valGo hd h2.ok)
theorem stp_value (hd : DecOk dec) (h : r.at_ ≤ r.s.length) : Stp r (value dec sgn r).2 := by
  have h1 := stp_see (n := 0) (Ok.of_le h)
  unfold value
  dsimp only
  generalize decide ((r.see 0).2.e = 0 ∧ (r.see 0).1 ≠ 34 ∧ (r.see 0).1 ≠ 39) = b
  have h2 := h1.trans (stp_failIf (b := b) (c := 4) (by decide) h1.ok)
  have h3 : Stp ((r.see 0).2.failIf b 4) (((r.see 0).2.failIf b 4).on 1) := by
    by_cases he : ((r.see 0).2.failIf b 4).e = 0
    · obtain ⟨c, hs, hx⟩ := see_e ((stp_failIf (b := b) (c := 4) (by decide) h1.ok).e0 he)
      have := lt_of_at hs
      refine stp_on ?_
      rw [failIf_at, see_at, failIf_s, see_s]; omega
    · refine stp_on1 ?_ he
      rw [failIf_at, see_at, failIf_s, see_s]; exact h
  exact (h2.trans h3).trans (stp_valGo hd h3.ok)
theorem stp_attr (hd : DecOk dec) {l : List XPr} (h : r.at_ ≤ r.s.length) : Stp r (attr dec sgn l r).2 ∧ Adv r (attr dec sgn l r).2 := by
  have h1 := stp_full h
  unfold attr
  dsimp only
  generalize (decide (r.full.2.e = 0) && l.any fun p => decide (p.pre = r.full.1.1 ∧ p.name = r.full.1.2)) = b
  have h2 := h1.trans (stp_failIf (b := b) (c := 4) (by decide) h1.ok)
  have h3 := h2.trans (stp_blanks h2.ok)
  have h4 := h3.trans (stp_wants (p := [61]) h3.ok)
  have h5 := h4.trans (stp_blanks h4.ok)
  have ha : Adv r (wants [61] (r.full.2.failIf b 4).blanks.2).blanks.2 := Adv.stp (h3.adv (adv_wants h3.ok)) (stp_blanks h4.ok)
  split
  · rename_i he
    have h6 := stp_value (sgn := sgn) hd (h5.ok.le he)
    exact ⟨h5.trans h6, ha.stp h6⟩
  · exact ⟨h5, ha⟩
theorem stp_attrsGo (hd : DecOk dec) : ∀ {f : Nat} {l : List XPr} {r : XRd}, Ok r → Stp r (attrsGo dec sgn f l r).2
  | 0, l, r, h => Stp.refl h
  | f + 1, l, r, h => by
    unfold attrsGo
    split
    · exact Stp.refl h
    · have h1 := stp_blanks h
      have h2 := h1.trans (stp_see (n := 0) h1.ok)
      dsimp only
      split
      · exact h2
      · rename_i hc
        have he : (r.blanks.2.see 0).2.e = 0 := Classical.byContradiction fun hn => hc (.inl hn)
        split
        · have h3 := h2.trans (stp_fail (c := 4) (by decide) h2.ok.lt)
          exact h3.trans (stp_attrsGo hd h3.ok)
        · have h3 := h2.trans (stp_attr (sgn := sgn) (l := l) hd (h2.ok.le he)).1
          exact h3.trans (stp_attrsGo hd h3.ok)
theorem stp_attrs (hd : DecOk dec) (h : Ok r) : Stp r (attrs dec sgn r).2 := stp_attrsGo hd h
theorem stp_comment (hd : DecOk dec) (h : Ok r) : Stp r (comment dec r) := by
  unfold comment
  have h1 := stp_wants (p := [60, 33, 45, 45]) h
  have h2 := h1.trans (stp_til (p := [45, 45]) hd h1.ok)
  exact h2.trans (stp_wants h2.ok)
theorem adv_comment (hd : DecOk dec) (h : Ok r) : Adv r (comment dec r) := by
  unfold comment
  have h1 := stp_wants (p := [60, 33, 45, 45]) h
  have h2 := stp_til (p := [45, 45]) hd h1.ok
  exact (adv_wants h).stp (h2.trans (stp_wants h2.ok))
theorem stp_misc (hd : DecOk dec) : ∀ {f : Nat} {r : XRd}, Ok r → Stp r (misc dec f r)
  | 0, r, h => Stp.refl h
  | f + 1, r, h => by
    unfold misc
    split
    · exact Stp.refl h
    · have h1 := stp_blanks h
      split
      · exact h1
      · have h2 := h1.trans (stp_comment hd h1.ok)
        exact h2.trans (stp_misc hd h2.ok)
theorem stp_front (hd : DecOk dec) (h : r.at_ ≤ r.s.length) : Stp r (front dec r) := by
  unfold front
  have h1 : Stp r (if isPre [239, 187, 191] r.rest = true then r.on 3 else r) := by
    split
    · rename_i hp
      have := isPre_len hp
      rw [rest_len] at this
      have h1 : ([239, 187, 191] : Txt).length = 3 := rfl
      exact stp_on (by omega)
    · exact Stp.refl (.of_le h)
  dsimp only
  generalize (if isPre [239, 187, 191] r.rest = true then r.on 3 else r) = q at *
  have h2 : Stp r (if isPre [60, 63] q.rest = true then (til dec [63, 62] (if ((wants [60, 63, 120, 109, 108] q).see 0).2.e = 0 then ((wants [60, 63, 120, 109, 108] q).see 0).2.blanks.2.failIf (!((wants [60, 63, 120, 109, 108] q).see 0).2.blanks.1) 4 else ((wants [60, 63, 120, 109, 108] q).see 0).2)).2 else q) := by
    split
    · have h2 := h1.trans (stp_wants (p := [60, 63, 120, 109, 108]) h1.ok)
      have h3 := h2.trans (stp_see (n := 0) h2.ok)
      generalize ((wants [60, 63, 120, 109, 108] q).see 0).2 = q at *
      split
      · have h4 := h3.trans (stp_blanks h3.ok)
        have h5 := h4.trans (stp_failIf (b := !q.blanks.1) (c := 4) (by decide) h4.ok)
        exact h5.trans (stp_til hd h5.ok)
      · exact h3.trans (stp_til hd h3.ok)
    · exact h1
  exact h2.trans (stp_misc hd h2.ok)
end Go.Ez.XRd
namespace Go.Ez
open Go Go.Proofs Go.RowKit
set_option linter.unusedSimpArgs false
set_option linter.unusedVariables false
/-- nothing at all -/
def emp : As := ⟨fun F _ => ∀ b, ¬ F b, fun h b hb => absurd hb (h b), fun h _ => h⟩
theorem upd_freeze {W : World} {g n : Nat} {F : Nat → Prop} (hF : ∀ k, k = g → F k) : Upd F W (W.freeze ⟨g, 0, none⟩ n) := by
  unfold World.freeze
  split
  · exact ⟨rfl, rfl, rfl, Nat.le_refl _, fun _ _ _ => rfl⟩
  · exact ⟨rfl, rfl, rfl, by simp, fun k _ hk => by
      simp only [Array.getElem?_modify]
      rw [if_neg (fun e => hk (hF k e.symm))]⟩
section
variable {P : Program} {w0 W W' : World} {G : Nat → Prop} {l R : List As} {K : Value → Prop} {KW : Value → World → Prop} {KU : World → Prop}
theorem St.tail {A : As} (h : St w0 G (A :: l) W) : St w0 G l W := by
  obtain ⟨F, ⟨F1, F2, h1, h2, hd, hF⟩, hG⟩ := h.own
  exact { h with own := ⟨F2, h2, fun b hb => hG b ((hF b).2 (.inr hb))⟩ }
/-- 'append(v, s...)', s a text: the row is where it was, or in a new block -/
theorem v_appS2 {t e u ty : TypeId} (hT : ElT P t e 1 1 (.int .u8 0)) (hu : P.underlying u = some .string) {v : Value} {n : Nat} {xs : List Value} (hown : W.ownsRow 0 e 1 v n xs) {s : List UInt8} (hb : n + s.length ≤ 140737488355328)
    (h : ∀ v' w', w'.ownsRow 0 e 1 v' (n + s.length) (xs ++ bytesV s) → W.grownBy w' v.ownBlock → (∀ k, v'.ownBlock = some k → v.ownBlock = some k ∨ W.heap.size ≤ k) → KW v' w') : RunV P (Builtin.append_ #[t, u] ty #[v, .string ⟨s.toArray⟩]) W KW := by
  have hm : n + s.length ≤ maxLen := by unfold maxLen; omega
  rcases own_block_some hown with ⟨rfl, rfl, rfl⟩ | ⟨g, cap, rfl, hnc⟩
  · exact v_appS (base := W.heap.size) hT hu own_nil hm hb (Nat.le_refl _) fun v' w' g1 g2 => h v' w' (own_mono g1 (Nat.zero_le _)) g2 fun k hk => .inr (own_base g1 k hk)
  · obtain ⟨i, hi, hz, hs, hby⟩ := info_parts hT.info
    have hsz : (⟨s.toArray⟩ : ByteArray).size = s.length := by show s.toArray.size = _; simp
    have hc : Lib.strCells ⟨s.toArray⟩ = bytesV s := by simp [Lib.strCells, bytesV, byteV]
    obtain ⟨v', w', hr, h2, h3, h4⟩ := Lib.run_append_own_string (P := P) W 0 t u ty e i hT.und hu hi hz hs hby _ n xs hown ⟨s.toArray⟩ (by rw [hsz]; exact hm) (by rw [hsz]; exact hb) (Nat.zero_le _)
    rw [hsz, hc] at h2
    refine .of hr (h v' w' h2 h3 ?_)
    intro k hk
    have hcur : ∃ cur, W.heap[g]? = some (.cells cur e (0, 0)) ∧ cur.size = cap * 1 := by
      rcases hown.2 with ⟨h0, _⟩ | ⟨g', cap', cur, h0, _, hg, _, _, hcs, _⟩
      · cases h0
      · cases h0; exact ⟨cur, hg, hcs⟩
    obtain ⟨cur, hg, hcs⟩ := hcur
    by_cases hroom : n + s.length ≤ cap
    · have hr2 := Lib.run_append_room_string (P := P) W t u ty e i hT.und hu hi hs g n cap cur hg ⟨s.toArray⟩ (by rw [hsz]; exact hroom) (by rw [hsz]; omega)
      rw [hr] at hr2
      cases hr2
      exact .inl hk
    · have hr2 := Lib.run_append_grow_string (P := P) W t u ty e i (.int .u8 0) hT.und hu hi hz ⟨g, 0, none⟩ n cap xs (by rw [hs]; exact hown.1) (hown.cells (g := g) rfl) ⟨s.toArray⟩ (by rw [hsz]; omega) (by rw [hsz]; omega) (growslice_fits (by rw [hsz]; omega) (by rw [hby, hsz]; omega))
      rw [hr] at hr2
      cases hr2
      cases hk
      exact .inr (Nat.le_refl _)
theorem St.appS {t e u ty : TypeId} {v : Value} {n : Nat} {xs : List Value} [i : Has l v (Ow e 1 n xs) R] [S : SlT P t e 1 1 (.int .u8 0)] [U : Und P u .string] (h : St w0 G l W) {s : List UInt8} (hb : n + s.length ≤ 140737488355328)
    (k : ∀ v' W', Cel1 v' → St w0 G (Ky v' (Ow e 1 (n + s.length) (xs ++ bytesV s)) :: R) W' → KW v' W') : RunV P (Builtin.append_ #[t, u] ty #[v, .string ⟨s.toArray⟩]) W KW :=
  v_appS2 S.el U.eq (h.ow (v := v)) hb fun v' W' g1 g2 g3 => k v' W' (.of_own g1) (h.setOw (v := v) g2 g1 g3)
end
end Go.Ez
namespace Go.Ez
open Go Go.Proofs Go.RowKit
set_option linter.unusedSimpArgs false
set_option linter.unusedVariables false
section
variable (P : Program) (w0 : World) (G : Nat → Prop)
/-- what is asked of a yield: told the i-th, the taker's own goes from C i to C (i + 1); or it stops, at D (i + 1) -/
def Yl (yv : Value) (xs : List (List Value)) (C D : Nat → As) : Prop :=
  ∀ i x, xs[i]? = some x → ∀ (I : List As) (W : World) (K : Value → World → Prop), St w0 G (Ky i C :: I) W →
    (∀ W', St w0 G (Ky (i + 1) C :: I) W' → K (.bool true) W') → (∀ W', St w0 G (Ky (i + 1) D :: I) W' → K (.bool false) W') → CallV P yv x.toArray W K
/-- f tells xs; A is what it stands on -/
def Itr (f : Value) (xs : List (List Value)) (A : Value → As) : Prop :=
  ∃ gf lb, f = .func (.func gf) #[] lb ∧ Enters P gf ∧ ∀ (yv : Value) (C D : Nat → As) (I : List As) (W : World) (R : Value → World → Prop), Cel1 yv → Yl P w0 G yv xs C D → St w0 G (Ky 0 C :: Ky f A :: I) W →
    (∀ W', St w0 G (Ky xs.length C :: Ky f A :: I) W' → R (.tuple #[]) W') → (∀ i W', i ≤ xs.length → St w0 G (Ky i D :: Ky f A :: I) W' → R (.tuple #[]) W') → CallF P gf (#[yv] ++ lb) W R
end
section
variable {P : Program} {w0 W : World} {G : Nat → Prop} {l R : List As}
theorem St.swap {A B : As} (h : St w0 G (A :: B :: l) W) : St w0 G (B :: A :: l) W := by
  obtain ⟨F, hF, hG⟩ := h.own
  exact { h with own := ⟨F, sepL_swap hF, hG⟩ }
theorem St.shut1 {φ : Prop} {X : As} (hφ : φ) (h : St w0 G (X :: l) W) : St w0 G (As.all φ [X] :: l) W := St.shutA hφ h
theorem St.shut2 {φ : Prop} {X Y : As} (hφ : φ) (h : St w0 G (X :: Y :: l) W) : St w0 G (As.all φ [X, Y] :: l) W := St.shutA hφ h
theorem St.shut3 {φ : Prop} {X Y Z : As} (hφ : φ) (h : St w0 G (X :: Y :: Z :: l) W) : St w0 G (As.all φ [X, Y, Z] :: l) W := St.shutA hφ h
theorem St.shut5 {φ : Prop} {X Y Z U V : As} (hφ : φ) (h : St w0 G (X :: Y :: Z :: U :: V :: l) W) : St w0 G (As.all φ [X, Y, Z, U, V] :: l) W := St.shutA hφ h
theorem St.open1 {φ : Prop} {X : As} (h : St w0 G (As.all φ [X] :: l) W) : φ ∧ St w0 G (X :: l) W := h.openA
theorem St.open2 {φ : Prop} {X Y : As} (h : St w0 G (As.all φ [X, Y] :: l) W) : φ ∧ St w0 G (X :: Y :: l) W := h.openA
theorem St.open3 {φ : Prop} {X Y Z : As} (h : St w0 G (As.all φ [X, Y, Z] :: l) W) : φ ∧ St w0 G (X :: Y :: Z :: l) W := h.openA
theorem St.open5 {φ : Prop} {X Y Z U V : As} (h : St w0 G (As.all φ [X, Y, Z, U, V] :: l) W) : φ ∧ St w0 G (X :: Y :: Z :: U :: V :: l) W := h.openA
/-- two, kept together under a key -/
def Two {κ : Type} (A B : As) (_ : κ) : As := As.all True [A, B]
theorem St.two {κ κ1 κ2 : Type} {k : κ} {a : κ1} {b : κ2} {X : κ1 → As} {Y : κ2 → As} {R1 : List As} [i : Has l a X R1] [j : Has R1 b Y R] (h : St w0 G l W) : St w0 G (Ky k (Two (Ky a X) (Ky b Y)) :: R) W := by
  obtain ⟨F, hF, hG⟩ := h.own
  exact St.shutA trivial { h with own := ⟨F, sepL_mono j.to (i.to F W hF), hG⟩ }
theorem St.untwo {κ : Type} {k : κ} {A B : As} [i : Has l k (Two A B) R] (h : St w0 G l W) : St w0 G (A :: B :: R) W := (St.openA (h.find (k := k) (X := Two A B))).2
/-- a range over an iterator -/
theorem rngI {np nl : Nat} {asg : Nat → FnN nl → FnN np} {bdy : Nat → (World → Prop) → (Code → World → Prop) → FnN nl} {f : Value} {kdone : Nat → World → Prop} {kstop : Nat → Code → World → Prop} {xs : List (List Value)} {A : Value → As}
    (C : Nat → As) (Dd : Code → Nat → As) (hI : Itr P w0 G f xs A) (hx : ∀ x ∈ xs, x.length = np) (h : St w0 G (Ky 0 C :: Ky f A :: l) W)
    (hbody : ∀ (i : Nat) (x : List Value), xs[i]? = some x → ∀ (ll : Nat) (rec : LoopState → Option Code → Loop) (I : List As) (W : World) (kn : World → Prop) (ks : Code → World → Prop), St w0 G (Ky ll (Ob (.loop (rec .ready none))) :: Ky i C :: I) W →
      (∀ W', St w0 G (Ky ll (Ob (.loop (rec .busy none))) :: Ky (i + 1) C :: I) W' → kn W') → (∀ c W', St w0 G (Ky ll (Ob (.loop (rec .busy none))) :: Ky (i + 1) (Dd c) :: I) W' → ks c W') →
      appN np (asg ll (lamN nl fun vs W2 => W2.heap[ll]? = some (.loop (rec .ready none)) ∧ appN nl (bdy ll kn ks) vs (W2.putObj ll (.loop (rec .busy none))))) x W)
    (hdone : ∀ D W', St w0 G (Ky D (Ob (.deferred (some []))) :: Ky xs.length C :: Ky f A :: l) W' → kdone D W')
    (hstop : ∀ D c i W', i ≤ xs.length → St w0 G (Ky D (Ob (.deferred (some []))) :: Ky i (Dd c) :: Ky f A :: l) W' → kstop D c W') :
    rngP P none np nl asg bdy f W kdone kstop := by
  obtain ⟨gf, lb, rfl, hen, hrun⟩ := hI
  refine ⟨(fun l0 hl0 => nomatch hl0), gf, lb, rfl, hen, ?_⟩
  intro ll D rec W1 hll hlt hD hW1 hL hDD hround
  obtain ⟨hD1, hD2⟩ := hD rfl
  have hDD := hDD rfl
  -- the two new blocks
  have h1 : St w0 G (As.all True [Ky ll (Ob (.loop (rec .ready none))), Ky D (Ob (.deferred (some [])))] :: Ky 0 C :: Ky (.func (.func gf) #[] lb) A :: l) W1 := by
    refine h.new (F := fun x => x = ll ∨ x = D) hW1 ⟨trivial, fun x => x = ll, fun x => x = D, ⟨fun _ => Iff.rfl, hL⟩, ⟨fun x => x = D, fun _ => False, ⟨fun _ => Iff.rfl, hDD⟩, fun _ h => h, fun _ _ h => h, fun _ => by simp⟩, fun b h1 h2 => by omega, fun _ => Iff.rfl⟩ ?_
    rintro b (rfl | rfl) <;> omega
  have h2 : St w0 G (Ky ll (Ob (.loop (rec .ready none))) :: Ky D (Ob (.deferred (some []))) :: Ky 0 C :: Ky (.func (.func gf) #[] lb) A :: l) W1 := h1.openA.2
  let C' : Nat → As := fun i => As.all True [Ky ll (Ob (.loop (rec .ready none))), Ky i C]
  let D' : Nat → As := fun i => As.ex fun c : Code => As.all True [Ky ll (Ob (.loop (rec .done (some c)))), Ky i (Dd c)]
  have h3 : St w0 G (Ky 0 C' :: Ky (.func (.func gf) #[] lb) A :: Ky D (Ob (.deferred (some []))) :: l) W1 := by
    refine St.shutA trivial (?_ : St w0 G (Ky ll (Ob (.loop (rec .ready none))) :: Ky 0 C :: Ky (.func (.func gf) #[] lb) A :: Ky D (Ob (.deferred (some []))) :: l) W1)
    obtain ⟨F, hF, hG⟩ := h2.own
    exact { h2 with own := ⟨F, sepL_mono (fun F w h => sepL_mono (fun F w h => sepL_swap h) (sepL_swap h)) hF, hG⟩ }
  refine hrun (.func (.yield ll) #[] #[]) C' D' (Ky D (Ob (.deferred (some []))) :: l) W1 _ ⟨rfl⟩ ?_ h3 ?_ ?_
  · intro i x hxi I W K h kt kf
    have h4 : St w0 G (Ky ll (Ob (.loop (rec .ready none))) :: Ky i C :: I) W := (St.openA (show St w0 G (As.all True [Ky ll (Ob (.loop (rec .ready none))), Ky i C] :: I) W from h)).2
    refine hround x W K (hx x (List.mem_of_getElem? hxi)) (h4.ob (b := ll)) ?_
    refine hbody i x hxi ll rec I W _ _ h4 (fun W' h5 => ?_) fun c W' h5 => ?_
    · refine ⟨h5.ob (b := ll), kt _ ?_⟩
      exact St.shutA (L := [Ky ll (Ob (.loop (rec .ready none))), Ky (i + 1) C]) trivial (h5.putO (b := ll) (o := .loop (rec .busy none)) (.loop (rec .ready none)))
    · refine ⟨h5.ob (b := ll), kf _ ?_⟩
      exact St.shutE c (St.shutA (L := [Ky ll (Ob (.loop (rec .done (some c)))), Ky (i + 1) (Dd c)]) trivial (h5.putO (b := ll) (o := .loop (rec .busy none)) (.loop (rec .done (some c)))))
  · intro W' h4
    have h5 : St w0 G (Ky ll (Ob (.loop (rec .ready none))) :: Ky xs.length C :: Ky (.func (.func gf) #[] lb) A :: Ky D (Ob (.deferred (some []))) :: l) W' := (St.openA (show St w0 G (As.all True [Ky ll (Ob (.loop (rec .ready none))), Ky xs.length C] :: _) W' from h4)).2
    refine Or.inl ⟨h5.ob (b := ll), hdone D _ ?_⟩
    exact (h5.putO (b := ll) (o := .loop (rec .ready none)) (.loop (rec .exhausted none))).to
  · intro i W' hi h4
    obtain ⟨c, h4⟩ := St.openE (show St w0 G (As.ex (fun c : Code => As.all True [Ky ll (Ob (.loop (rec .done (some c)))), Ky i (Dd c)]) :: _) W' from h4)
    have h5 : St w0 G (Ky ll (Ob (.loop (rec .done (some c)))) :: Ky i (Dd c) :: Ky (.func (.func gf) #[] lb) A :: Ky D (Ob (.deferred (some []))) :: l) W' := (St.openA h4).2
    refine Or.inr ⟨c, h5.ob (b := ll), hstop D c i _ hi ?_⟩
    exact (h5.putO (b := ll) (o := .loop (rec .done (some c))) (.loop (rec .exhausted (some c)))).to
end
end Go.Ez
namespace Go.Proofs.YtlflpbflpcmckaaGreatDoor
open Go Go.Ez
set_option linter.unusedVariables false
instance : Und Tryz.prog 3 (.int .i64) := ⟨Tryz.underlying3⟩
instance : Ty1 Tryz.prog 3 (.int .i64 0) := ⟨Tryz.isAgg3, Tryz.sizeOf3, Tryz.zeroValue3, rfl⟩
instance : Und Tryz.prog 4 (.bool) := ⟨Tryz.underlying4⟩
instance : Ty1 Tryz.prog 4 (.bool false) := ⟨Tryz.isAgg4, Tryz.sizeOf4, Tryz.zeroValue4, rfl⟩
instance : Und Tryz.prog 5 (.int .u8) := ⟨Tryz.underlying5⟩
instance : Ty1 Tryz.prog 5 (.int .u8 0) := ⟨Tryz.isAgg5, Tryz.sizeOf5, Tryz.zeroValue5, rfl⟩
instance : Und Tryz.prog 9 (.string) := ⟨Tryz.underlying9⟩
instance : Ty1 Tryz.prog 9 (.string ⟨#[]⟩) := ⟨Tryz.isAgg9, Tryz.sizeOf9, Tryz.zeroValue9, rfl⟩
instance : Und Tryz.prog 21 (.int .i32) := ⟨Tryz.underlying21⟩
instance : Und Tryz.prog 22 (.slice 9) := ⟨Tryz.underlying22⟩
instance : SlT Tryz.prog 22 9 1 16 (.string ⟨#[]⟩) := ⟨⟨Tryz.underlying22, by kernel_rfl, rfl, by decide⟩⟩
instance : Und Tryz.prog 25 (.slice 34) := ⟨Tryz.underlying25⟩
instance : Ty1 Tryz.prog 25 (.slice none 0 0) := ⟨Tryz.isAgg25, Tryz.sizeOf25, Tryz.zeroValue25, rfl⟩
instance : SlT Tryz.prog 25 34 5 64 (.agg #[.int .i64 0, .string ⟨#[]⟩, .string ⟨#[]⟩, .string ⟨#[]⟩, .int .i64 0]) := ⟨⟨Tryz.underlying25, by kernel_rfl, rfl, by decide⟩⟩
instance : TyS Tryz.prog 27 2 [.string ⟨#[]⟩, .slice none 0 0] := ⟨Tryz.isAgg27, Tryz.sizeOf27, Tryz.zeroValue27⟩
instance : Fld Tryz.prog 27 0 0 := ⟨fun h => a_field (sz := 1) Tryz.underlying27 rfl Tryz.sizeOf9 (by decide) h⟩
instance : Fld Tryz.prog 27 1 1 := ⟨fun h => a_field (sz := 1) Tryz.underlying27 rfl Tryz.sizeOf25 (by decide) h⟩
instance : Bld Tryz.prog 27 #[(0, 1), (1, 1)] #[.string ⟨#[]⟩, .slice none 0 0] := ⟨Tryz.zeroValue27, ⟨_, Tryz.underlying27, fun w => by kernel_rfl⟩⟩
instance : Ty1 Tryz.prog 28 (.int .i64 0) := ⟨Tryz.isAgg28, Tryz.sizeOf28, Tryz.zeroValue28, rfl⟩
instance : Und Tryz.prog 31 (.slice 5) := ⟨Tryz.underlying31⟩
instance : Ty1 Tryz.prog 31 (.slice none 0 0) := ⟨Tryz.isAgg31, Tryz.sizeOf31, Tryz.zeroValue31, rfl⟩
instance : SlT Tryz.prog 31 5 1 1 (.int .u8 0) := ⟨⟨Tryz.underlying31, by kernel_rfl, rfl, by decide⟩⟩
instance : TyS Tryz.prog 34 5 [.int .i64 0, .string ⟨#[]⟩, .string ⟨#[]⟩, .string ⟨#[]⟩, .int .i64 0] := ⟨Tryz.isAgg34, Tryz.sizeOf34, Tryz.zeroValue34⟩
instance : Fld Tryz.prog 34 0 0 := ⟨fun h => a_field (sz := 1) Tryz.underlying34 rfl Tryz.sizeOf3 (by decide) h⟩
instance : Fld Tryz.prog 34 1 1 := ⟨fun h => a_field (sz := 1) Tryz.underlying34 rfl Tryz.sizeOf9 (by decide) h⟩
instance : Fld Tryz.prog 34 2 2 := ⟨fun h => a_field (sz := 1) Tryz.underlying34 rfl Tryz.sizeOf9 (by decide) h⟩
instance : Fld Tryz.prog 34 3 3 := ⟨fun h => a_field (sz := 1) Tryz.underlying34 rfl Tryz.sizeOf9 (by decide) h⟩
instance : Fld Tryz.prog 34 4 4 := ⟨fun h => a_field (sz := 1) Tryz.underlying34 rfl Tryz.sizeOf3 (by decide) h⟩
instance : Bld Tryz.prog 34 #[(0, 1), (1, 1), (2, 1), (3, 1), (4, 1)] #[.int .i64 0, .string ⟨#[]⟩, .string ⟨#[]⟩, .string ⟨#[]⟩, .int .i64 0] := ⟨Tryz.zeroValue34, ⟨_, Tryz.underlying34, fun w => by kernel_rfl⟩⟩
instance : TyS Tryz.prog 41 2 [.string ⟨#[]⟩, .slice none 0 0] := ⟨Tryz.isAgg41, Tryz.sizeOf41, Tryz.zeroValue41⟩
instance : Fld Tryz.prog 41 0 0 := ⟨fun h => a_field (sz := 1) Tryz.underlying41 rfl Tryz.sizeOf9 (by decide) h⟩
instance : Fld Tryz.prog 41 1 1 := ⟨fun h => a_field (sz := 1) Tryz.underlying41 rfl Tryz.sizeOf25 (by decide) h⟩
instance : Bld Tryz.prog 41 #[(0, 1), (1, 1)] #[.string ⟨#[]⟩, .slice none 0 0] := ⟨Tryz.zeroValue41, ⟨_, Tryz.underlying41, fun w => by kernel_rfl⟩⟩
instance : Und Tryz.prog 54 (.slice 88) := ⟨Tryz.underlying54⟩
instance : Ty1 Tryz.prog 54 (.slice none 0 0) := ⟨Tryz.isAgg54, Tryz.sizeOf54, Tryz.zeroValue54, rfl⟩
instance : SlT Tryz.prog 54 88 5 80 (.agg #[.int .i64 0, .string ⟨#[]⟩, .string ⟨#[]⟩, .string ⟨#[]⟩, .slice none 0 0]) := ⟨⟨Tryz.underlying54, by kernel_rfl, rfl, by decide⟩⟩
instance : Und Tryz.prog 58 (.slice 88) := ⟨Tryz.underlying58⟩
instance : Ty1 Tryz.prog 58 (.slice none 0 0) := ⟨Tryz.isAgg58, Tryz.sizeOf58, Tryz.zeroValue58, rfl⟩
instance : SlT Tryz.prog 58 88 5 80 (.agg #[.int .i64 0, .string ⟨#[]⟩, .string ⟨#[]⟩, .string ⟨#[]⟩, .slice none 0 0]) := ⟨⟨Tryz.underlying58, by kernel_rfl, rfl, by decide⟩⟩
instance : SlT Tryz.prog 68 3 1 8 (.int .i64 0) := ⟨⟨Tryz.underlying68, by kernel_rfl, rfl, by decide⟩⟩
instance : Und Tryz.prog 78 (.slice 124) := ⟨Tryz.underlying78⟩
instance : Ty1 Tryz.prog 78 (.slice none 0 0) := ⟨Tryz.isAgg78, Tryz.sizeOf78, Tryz.zeroValue78, rfl⟩
instance : SlT Tryz.prog 78 124 3 40 (.agg #[.string ⟨#[]⟩, .string ⟨#[]⟩, .map none]) := ⟨⟨Tryz.underlying78, by kernel_rfl, rfl, by decide⟩⟩
instance : Und Tryz.prog 79 (.pointer 81) := ⟨Tryz.underlying79⟩
instance : Ty1 Tryz.prog 79 (.pointer none) := ⟨Tryz.isAgg79, Tryz.sizeOf79, Tryz.zeroValue79, rfl⟩
instance : TyS Tryz.prog 81 2 [.pointer none, .slice none 0 0] := ⟨Tryz.isAgg81, Tryz.sizeOf81, Tryz.zeroValue81⟩
instance : Fld Tryz.prog 81 0 0 := ⟨fun h => a_field (sz := 1) Tryz.underlying81 rfl Tryz.sizeOf79 (by decide) h⟩
instance : Fld Tryz.prog 81 1 1 := ⟨fun h => a_field (sz := 1) Tryz.underlying81 rfl Tryz.sizeOf31 (by decide) h⟩
instance : Fld Tryz.prog 83 0 0 := ⟨fun h => a_field (sz := 1) Tryz.underlying83 rfl Tryz.sizeOf9 (by decide) h⟩
instance : Fld Tryz.prog 83 1 1 := ⟨fun h => a_field (sz := 1) Tryz.underlying83 rfl Tryz.sizeOf3 (by decide) h⟩
instance : Fld Tryz.prog 83 2 2 := ⟨fun h => a_field (sz := 1) Tryz.underlying83 rfl Tryz.sizeOf28 (by decide) h⟩
instance : Fld Tryz.prog 83 3 3 := ⟨fun h => a_field (sz := 1) Tryz.underlying83 rfl Tryz.sizeOf54 (by decide) h⟩
instance : Fld Tryz.prog 83 4 4 := ⟨fun h => a_field (sz := 1) Tryz.underlying83 rfl Tryz.sizeOf78 (by decide) h⟩
instance : Fld Tryz.prog 83 5 5 := ⟨fun h => a_field (sz := 2) Tryz.underlying83 rfl Tryz.sizeOf81 (by decide) h⟩
instance : Bld Tryz.prog 83 #[(0, 1), (1, 1), (2, 1), (3, 1), (4, 1), (5, 2)] #[.string ⟨#[]⟩, .int .i64 0, .int .i64 0, .slice none 0 0, .slice none 0 0, .pointer none, .slice none 0 0] := ⟨Tryz.zeroValue83, ⟨_, Tryz.underlying83, fun w => by kernel_rfl⟩⟩
instance : Und Tryz.prog 86 (.slice 158) := ⟨Tryz.underlying86⟩
instance : Ty1 Tryz.prog 86 (.slice none 0 0) := ⟨Tryz.isAgg86, Tryz.sizeOf86, Tryz.zeroValue86, rfl⟩
instance : SlT Tryz.prog 86 158 3 48 (.agg #[.string ⟨#[]⟩, .string ⟨#[]⟩, .string ⟨#[]⟩]) := ⟨⟨Tryz.underlying86, by kernel_rfl, rfl, by decide⟩⟩
instance : TyS Tryz.prog 88 5 [.int .i64 0, .string ⟨#[]⟩, .string ⟨#[]⟩, .string ⟨#[]⟩, .slice none 0 0] := ⟨Tryz.isAgg88, Tryz.sizeOf88, Tryz.zeroValue88⟩
instance : Fld Tryz.prog 88 0 0 := ⟨fun h => a_field (sz := 1) Tryz.underlying88 rfl Tryz.sizeOf3 (by decide) h⟩
instance : Fld Tryz.prog 88 1 1 := ⟨fun h => a_field (sz := 1) Tryz.underlying88 rfl Tryz.sizeOf9 (by decide) h⟩
instance : Fld Tryz.prog 88 2 2 := ⟨fun h => a_field (sz := 1) Tryz.underlying88 rfl Tryz.sizeOf9 (by decide) h⟩
instance : Fld Tryz.prog 88 3 3 := ⟨fun h => a_field (sz := 1) Tryz.underlying88 rfl Tryz.sizeOf9 (by decide) h⟩
instance : Fld Tryz.prog 88 4 4 := ⟨fun h => a_field (sz := 1) Tryz.underlying88 rfl Tryz.sizeOf86 (by decide) h⟩
instance : Bld Tryz.prog 88 #[(0, 1), (1, 1), (2, 1), (3, 1), (4, 1)] #[.int .i64 0, .string ⟨#[]⟩, .string ⟨#[]⟩, .string ⟨#[]⟩, .slice none 0 0] := ⟨Tryz.zeroValue88, ⟨_, Tryz.underlying88, fun w => by kernel_rfl⟩⟩
instance : TyS Tryz.prog 118 2 [.string ⟨#[]⟩, .string ⟨#[]⟩] := ⟨Tryz.isAgg118, Tryz.sizeOf118, Tryz.zeroValue118⟩
instance : Fld Tryz.prog 118 0 0 := ⟨fun h => a_field (sz := 1) Tryz.underlying118 rfl Tryz.sizeOf9 (by decide) h⟩
instance : Fld Tryz.prog 118 1 1 := ⟨fun h => a_field (sz := 1) Tryz.underlying118 rfl Tryz.sizeOf9 (by decide) h⟩
instance : Bld Tryz.prog 118 #[(0, 1), (1, 1)] #[.string ⟨#[]⟩, .string ⟨#[]⟩] := ⟨Tryz.zeroValue118, ⟨_, Tryz.underlying118, fun w => by kernel_rfl⟩⟩
instance : Und Tryz.prog 120 (.slice 154) := ⟨Tryz.underlying120⟩
instance : SlT Tryz.prog 120 154 3 48 (.agg #[.string ⟨#[]⟩, .string ⟨#[]⟩, .string ⟨#[]⟩]) := ⟨⟨Tryz.underlying120, by kernel_rfl, rfl, by decide⟩⟩
instance : Und Tryz.prog 122 (.map 9 9) := ⟨Tryz.underlying122⟩
instance : Ty1 Tryz.prog 122 (.map none) := ⟨Tryz.isAgg122, Tryz.sizeOf122, Tryz.zeroValue122, rfl⟩
instance : TyS Tryz.prog 124 3 [.string ⟨#[]⟩, .string ⟨#[]⟩, .map none] := ⟨Tryz.isAgg124, Tryz.sizeOf124, Tryz.zeroValue124⟩
instance : Fld Tryz.prog 124 0 0 := ⟨fun h => a_field (sz := 2) Tryz.underlying124 rfl Tryz.sizeOf118 (by decide) h⟩
instance : Fld Tryz.prog 124 1 2 := ⟨fun h => a_field (sz := 1) Tryz.underlying124 rfl Tryz.sizeOf122 (by decide) h⟩
instance : Bld Tryz.prog 124 #[(0, 2), (2, 1)] #[.string ⟨#[]⟩, .string ⟨#[]⟩, .map none] := ⟨Tryz.zeroValue124, ⟨_, Tryz.underlying124, fun w => by kernel_rfl⟩⟩
instance : Und Tryz.prog 128 (.interface #[("Error", 131)]) := ⟨Tryz.underlying128⟩
instance : TyS Tryz.prog 154 3 [.string ⟨#[]⟩, .string ⟨#[]⟩, .string ⟨#[]⟩] := ⟨Tryz.isAgg154, Tryz.sizeOf154, Tryz.zeroValue154⟩
instance : Fld Tryz.prog 154 0 0 := ⟨fun h => a_field (sz := 2) Tryz.underlying154 rfl Tryz.sizeOf118 (by decide) h⟩
instance : Fld Tryz.prog 154 1 2 := ⟨fun h => a_field (sz := 1) Tryz.underlying154 rfl Tryz.sizeOf9 (by decide) h⟩
instance : Bld Tryz.prog 154 #[(0, 2), (2, 1)] #[.string ⟨#[]⟩, .string ⟨#[]⟩, .string ⟨#[]⟩] := ⟨Tryz.zeroValue154, ⟨_, Tryz.underlying154, fun w => by kernel_rfl⟩⟩
instance : TyS Tryz.prog 158 3 [.string ⟨#[]⟩, .string ⟨#[]⟩, .string ⟨#[]⟩] := ⟨Tryz.isAgg158, Tryz.sizeOf158, Tryz.zeroValue158⟩
instance : Fld Tryz.prog 158 0 0 := ⟨fun h => a_field (sz := 1) Tryz.underlying158 rfl Tryz.sizeOf9 (by decide) h⟩
instance : Fld Tryz.prog 158 1 1 := ⟨fun h => a_field (sz := 1) Tryz.underlying158 rfl Tryz.sizeOf9 (by decide) h⟩
instance : Fld Tryz.prog 158 2 2 := ⟨fun h => a_field (sz := 1) Tryz.underlying158 rfl Tryz.sizeOf9 (by decide) h⟩
instance : Bld Tryz.prog 158 #[(0, 1), (1, 1), (2, 1)] #[.string ⟨#[]⟩, .string ⟨#[]⟩, .string ⟨#[]⟩] := ⟨Tryz.zeroValue158, ⟨_, Tryz.underlying158, fun w => by kernel_rfl⟩⟩
instance : Und Tryz.prog 175 (.int .u64) := ⟨Tryz.underlying175⟩
instance : Fld Tryz.prog 197 0 0 := ⟨fun h => a_field (sz := 1) Tryz.underlying197 rfl Tryz.sizeOf9 (by decide) h⟩
instance : Fld Tryz.prog 197 1 1 := ⟨fun h => a_field (sz := 1) Tryz.underlying197 rfl Tryz.sizeOf4 (by decide) h⟩
instance : Bld Tryz.prog 197 #[(0, 1), (1, 1)] #[.string ⟨#[]⟩, .bool false] := ⟨Tryz.zeroValue197, ⟨_, Tryz.underlying197, fun w => by kernel_rfl⟩⟩
instance : TyS Tryz.prog 199 7 [.int .i64 0, .int .i64 0, .int .i64 0, .int .i64 0, .int .i64 0, .int .i64 0, .int .i64 0] := ⟨Tryz.isAgg199, Tryz.sizeOf199, Tryz.zeroValue199⟩
instance : Fld Tryz.prog 199 0 0 := ⟨fun h => a_field (sz := 1) Tryz.underlying199 rfl Tryz.sizeOf3 (by decide) h⟩
instance : Fld Tryz.prog 199 1 1 := ⟨fun h => a_field (sz := 1) Tryz.underlying199 rfl Tryz.sizeOf3 (by decide) h⟩
instance : Fld Tryz.prog 199 2 2 := ⟨fun h => a_field (sz := 1) Tryz.underlying199 rfl Tryz.sizeOf3 (by decide) h⟩
instance : Fld Tryz.prog 199 3 3 := ⟨fun h => a_field (sz := 1) Tryz.underlying199 rfl Tryz.sizeOf3 (by decide) h⟩
instance : Fld Tryz.prog 199 4 4 := ⟨fun h => a_field (sz := 1) Tryz.underlying199 rfl Tryz.sizeOf3 (by decide) h⟩
instance : Fld Tryz.prog 199 5 5 := ⟨fun h => a_field (sz := 1) Tryz.underlying199 rfl Tryz.sizeOf3 (by decide) h⟩
instance : Fld Tryz.prog 199 6 6 := ⟨fun h => a_field (sz := 1) Tryz.underlying199 rfl Tryz.sizeOf3 (by decide) h⟩
instance : Und Tryz.prog 205 (.int .u64) := ⟨Tryz.underlying205⟩
end Go.Proofs.YtlflpbflpcmckaaGreatDoor
