/-
  EZ: a weakest-precondition calculus for function bodies that the kernel computes. No program in sight: it is over any program P.
-/
import Derived.RangeFuncNested
import Derived.RangeFuncBound
import Derived.RangeFuncCalls
import Derived.RangeFuncLeaves
import Derived.OrdersHeld
import Derived.OrdersIn
import Derived.Shelf.Abstract
import Derived.WalkKit
import Derived.KernelRfl
namespace Go.Ez
open Go Go.Proofs
set_option linter.unusedSimpArgs false
set_option linter.unusedVariables false

/-! ### environments: a slot, its value, and, where it is known by sight, its bool (bl), or that its operation was passed over (sk) -/
inductive Kb where
  | bl (b : Bool)
  | sk
def Kb.val : Kb → Value
  | .bl b => .bool b
  | .sk => undef
abbrev Env := List (Nat × Value × Option Kb)

def memN (k : Nat) : List Nat → Bool
  | [] => false
  | t :: r => bif Nat.beq k t then true else memN k r

def Env.get : Env → Nat → Option (Value × Option Kb)
  | [], _ => none
  | (k, v) :: r, t => bif Nat.beq k t then some v else Env.get r t

def Env.keep (e : Env) : List Nat → Env
  | [] => []
  | t :: r => match e.get t with
    | some v => (t, v) :: Env.keep e r
    | none => Env.keep e r

def Env.put (e : Env) (d : Option Nat) (v : Value) (kb : Option Kb) : Env :=
  match d with
  | some d => (d, v, kb) :: e
  | none => e

def Env.zips : List Nat → List Value → Env → Env
  | t :: ts, v :: vs, e => (t, v, none) :: Env.zips ts vs e
  | _, _, e => e

def gets (e : Env) : List Nat → (List Value → Prop) → Prop
  | [], k => k []
  | t :: r, k => match e.get t with
    | some v => gets e r (fun vs => k (v.1 :: vs))
    | none => False

def eqs : List Value → List Value → Prop → Prop
  | v :: vs, u :: us, p => v = u ∧ eqs vs us p
  | [], [], p => p
  | _, _, _ => False

def kbOf : Value → Option Kb
  | .bool b => some (.bl b)
  | _ => none

def opdk (e : Env) (x : Operand) (k : Value → Option Kb → Prop) : Prop :=
  match x with
  | .tmp t => match e.get t with
    | some v => k v.1 v.2
    | none => False
  | .const v => k v (kbOf v)
  | .global g => k (.pointer (some ⟨g, 0, none⟩)) none
  | .func f => k (.func (.func f) #[] #[]) none

def opd (e : Env) (x : Operand) (k : Value → Prop) : Prop := opdk e x fun v _ => k v

def opds (e : Env) : List Operand → (List Value → Prop) → Prop
  | [], k => k []
  | x :: r, k => opd e x fun v => opds e r fun vs => k (v :: vs)

def opdps (e : Env) : List (Nat × Operand) → (List (Nat × Value) → Prop) → Prop
  | [], k => k []
  | (i, x) :: r, k => opd e x fun v => opdps e r fun vs => k ((i, v) :: vs)

def opdo (e : Env) (x : Option Operand) (k : Option Value → Prop) : Prop :=
  match x with
  | some x => opd e x fun v => k (some v)
  | none => k none

/-! ### the forms of which the printed texts are made -/
section
variable (P : Program)

def RunV (m : Sem Value) (w : World) (k : Value → World → Prop) : Prop := ∃ v w', m.run P w = .ok v w' ∧ k v w'
/-- the world is left as it is -/
def RunW (m : Sem Value) (w : World) (k : Value → Prop) : Prop := ∃ v, m.run P w = .ok v w ∧ k v
/-- the same in whatever world -/
def RunA (m : Sem Value) (k : Value → Prop) : Prop := ∃ v, (∀ w, m.run P w = .ok v w) ∧ k v
/-- the same in whatever world that meets S -/
def RunS (S : World → Prop) (m : Sem Value) (k : Value → Prop) : Prop := ∃ v, (∀ w, S w → m.run P w = .ok v w) ∧ k v
def RunU (m : Sem Unit) (w : World) (k : World → Prop) : Prop := ∃ w', m.run P w = .ok () w' ∧ k w'
def RunO (m : Sem Next) (w : World) (k : Value → World → Prop) : Prop := ∃ v w', m.run P w = .ok (.value v) w' ∧ k v w'

def Pick (c a b : Value) (k : Value → Prop) : Prop := ∃ t, c = .bool t ∧ k (bif t then a else b)

def IfB (c : Value) (p q : Prop) : Prop := ∃ t, c = .bool t ∧ (t = true → p) ∧ (t = false → q)

def bin (op : BinOp) (t : TypeId) (X Y : Operand) (x y : Value) : Sem Value := do eqGuard op t X Y x y; binOp op t x y

def nilV (v : Value) : Sem Value :=
  match v with
  | .pointer none | .nilIface | .nilFunc => runtimePanic .nilDeref
  | .func (.method _) _ _ => stuck "a method value"
  | x => pure x

/-- a call of function g -/
def CallF (g : FuncId) (args : Array Value) (w : World) (k : Value → World → Prop) : Prop :=
  Calls P g args w fun e w' => ∃ v, e = .returned v ∧ k v w'

/-- a call of a function value -/
def CallV (f : Value) (args : Array Value) (w : World) (k : Value → World → Prop) : Prop :=
  (∃ g fs lb, f = .func (.func g) fs lb ∧ Enters P g ∧ CallF P g (fs ++ (args ++ lb)) w k) ∨
  (∃ l, f = .func (.yield l) #[] #[] ∧ ∀ n, YieldAt Fence.wide n P l args w fun e w' => ∃ v, e = .returned v ∧ k v w')

/-- a region that draws its order: S is kept from its begin to its end -/
def drw (body : (World → Prop) → World → Prop) (w : World) : Prop := ∃ S : World → Prop, S w.drew ∧ body S w.drew

end

/-! ### functions of n values -/
def FnN : Nat → Type
  | 0 => World → Prop
  | n + 1 => Value → FnN n

def lamN : (n : Nat) → (List Value → World → Prop) → FnN n
  | 0, f => f []
  | n + 1, f => fun v => lamN n (fun vs => f (v :: vs))

def appN : (n : Nat) → FnN n → List Value → World → Prop
  | 0, f, _ => f
  | n + 1, f, v :: vs => appN n (f v) vs
  | _ + 1, _, [] => fun _ => False

theorem appN_lamN : ∀ (n : Nat) (f : List Value → World → Prop) (vs : List Value), vs.length = n → appN n (lamN n f) vs = f vs
  | 0, f, [], _ => rfl
  | n + 1, f, v :: vs, h => by simp only [lamN, appN]; exact appN_lamN n _ vs (by simpa using h)

/-- a place where ways meet: what follows is k -/
def jn (n : Nat) (k : FnN n) (body : FnN n → Prop) : Prop :=
  ∃ M : List Value → World → Prop, (∀ vs w, vs.length = n → M vs w → appN n k vs w) ∧ body (lamN n M)

/-- a loop over n values and the world: d goes down at every round -/
def lp (n : Nat) (body : FnN n → FnN n) (vs : List Value) (w : World) : Prop :=
  ∃ I : Nat → List Value → World → Prop, (∃ d, I d vs w) ∧ ∀ d vs' w', vs'.length = n → I d vs' w' →
    appN n (body (lamN n fun vs'' w'' => ∃ d', d' < d ∧ I d' vs'' w'')) vs' w'

/-- a range over a function: asg: the assignment to the loop's left sides · bdy: a round (kn: it goes on · ks: it leaves by a jump) · kdone: the function has come back · kstop: it has come back behind a round that left. l is the loop's record, D the block for deferred calls; a call of the loop's yield is a round. -/
def rngP (P : Program) (ro : Option Nat) (np nl : Nat) (asg : Nat → FnN nl → FnN np) (bdy : Nat → (World → Prop) → (Code → World → Prop) → FnN nl) (vg : Value) (w : World)
    (kdone : Nat → World → Prop) (kstop : Nat → Code → World → Prop) : Prop :=
  (∀ l0, ro = some l0 → ∃ r, w.heap[l0]? = some (.loop r)) ∧
  ∃ (gf : Nat) (lb : Array Value), vg = .func (.func gf) #[] lb ∧ Enters P gf ∧
    ∀ (l D : Nat) (rec : LoopState → Option Code → Loop) (W1 : World),
      w.heap.size ≤ l → l < W1.heap.size → (ro = none → w.heap.size ≤ D ∧ D < l) → RowKit.Below w.heap.size w W1 →
      W1.heap[l]? = some (.loop (rec .ready none)) → (ro = none → W1.heap[D]? = some (.deferred (some []))) →
      (∀ (args : List Value) (W : World) (R : Value → World → Prop), args.length = np → W.heap[l]? = some (.loop (rec .ready none)) →
        appN np (asg l (lamN nl fun vs W2 => W2.heap[l]? = some (.loop (rec .ready none)) ∧
          appN nl (bdy l (fun W4 => W4.heap[l]? = some (.loop (rec .busy none)) ∧ R (.bool true) (W4.putObj l (.loop (rec .ready none))))
            (fun c W4 => W4.heap[l]? = some (.loop (rec .busy none)) ∧ R (.bool false) (W4.putObj l (.loop (rec .done (some c)))))) vs (W2.putObj l (.loop (rec .busy none))))) args W →
        CallV P (.func (.yield l) #[] #[]) args.toArray W R) →
      CallF P gf (#[.func (.yield l) #[] #[]] ++ lb) W1 fun _ W' =>
        (W'.heap[l]? = some (.loop (rec .ready none)) ∧ kdone D (W'.putObj l (.loop (rec .exhausted none)))) ∨
        (∃ c, W'.heap[l]? = some (.loop (rec .done (some c))) ∧ kstop D c (W'.putObj l (.loop (rec .exhausted (some c)))))

/-! ### one operation -/
section
variable (P : Program) (ent : List Nat) (e : Env)

/-- the classes: 0: the same in whatever world · 1: the world is left as it is · 2: all others -/
def cls : Op → Nat
  | .binOp .eql _ _ _ _ | .binOp .neq _ _ _ _ => 1
  | .binOp .. | .unOp .. | .fieldAddr .. | .field .. | .indexAddr .. | .index .. | .slice .. | .extract .. | .nilCheck .. => 0
  | .load .. => 1
  | .call ⟨.builtin .len, _, _⟩ | .call ⟨.builtin .cap, _, _⟩ | .call ⟨.builtin .min, _, _⟩ | .call ⟨.builtin .max, _, _⟩ => 1
  | _ => 2

/-- an operation that hands back a value: what is run -/
def semOp (op : Op) (type : TypeId) (k : Sem Value → Prop) : Prop :=
  match op with
  | .alloc elem => k (Instr.alloc elem true (.tuple #[]))
  | .box elem x => opd e x fun v => k (Instr.box elem v)
  | .build t parts => opdps e parts.toList fun l => k (Instr.build t l.toArray)
  | .buildSlice t len parts => opdps e parts.toList fun l => k (Instr.buildSlice t len l.toArray)
  | .load t a => opd e a fun v => k (Instr.loadAt t v)
  | .nilCheck x => opd e x fun v => k (nilV v)
  | .binOp op t x y _ => opd e x fun vx => opd e y fun vy => k (bin op t x y vx vy)
  | .unOp op _ x => opd e x fun v => k (Op.unary op v)
  | .convert src dst x => opd e x fun v => k (convert src dst v)
  | .makeInterface t x => opd e x fun v => k (Instr.makeInterface t v)
  | .makeFunc fn first captured => opds e first.toList fun fs => opds e captured.toList fun cs => k (Instr.makeFunc fn fs.toArray cs.toArray)
  | .makeMap t r => opdo e r fun vr => k (Instr.makeMap t vr)
  | .makeSlice t l c => opd e l fun vl => opd e c fun vc => k (Instr.makeSlice t vl vc)
  | .slice t x lo hi mx => opd e x fun v => opdo e lo fun vlo => opdo e hi fun vhi => opdo e mx fun vmx => k (Instr.sliceAt t v vlo vhi vmx)
  | .fieldAddr s x f => opd e x fun v => k (Instr.fieldAt s v f)
  | .field t x f => opd e x fun v => k (Instr.field t v f)
  | .indexAddr t x i => opd e x fun v => opd e i fun vi => k (Instr.indexAt t v vi)
  | .index t x i => opd e x fun v => opd e i fun vi => k (Instr.index t v vi)
  | .lookup t x i ok => opd e x fun v => opd e i fun vi => k (Instr.lookup t v vi ok)
  | .mapEntry t m i => opd e m fun vm => opd e i fun vi => k (Instr.mapEntry t vm vi)
  | .range t x => opd e x fun v => k (Instr.range t v)
  | .next it isString => opd e it fun v => k (Instr.next v isString type)
  | .entry it => opd e it fun v => k (Instr.entry v)
  | .typeAssert x t asserted ok => opd e x fun v => k (Instr.typeAssert v t asserted ok)
  | .extract t i => opd e t fun v => k (Instr.extract v i)
  | .call ⟨.builtin b, args, argTypes⟩ => opds e args.toList fun vs =>
    match b with
    | .append => k (Builtin.append_ argTypes type vs.toArray)
    | .len => k (Builtin.len_ argTypes type vs.toArray)
    | .cap => k (Builtin.cap_ argTypes type vs.toArray)
    | .copy => k (Builtin.copy_ argTypes type vs.toArray)
    | .min => k (Builtin.min_ argTypes type vs.toArray)
    | .max => k (Builtin.max_ argTypes type vs.toArray)
    | .clear => k (Builtin.clear_ argTypes type vs.toArray)
    | .delete => k (Builtin.delete_ argTypes type vs.toArray)
    | .unsafeSliceData => k (Builtin.unsafeSliceData_ argTypes type vs.toArray)
    | .unsafeString => k (Builtin.unsafeString_ argTypes type vs.toArray)
    | _ => False
  | _ => False

/-- an operation whose value is at hand without a run; the others go to r -/
def pureOp (op : Op) (k : Value → Option Kb → Prop) (r : Prop) : Prop :=
  match op with
  | .move x | .assign x => opdk e x k
  | .pick c a b => opdk e c fun vc kc =>
    match kc with
    | some (.bl t) => bif t then opdk e a k else opdk e b k
    | some .sk => False
    | none => opd e a fun va => opd e b fun vb => Pick vc va vb fun v => k v none
  | _ => r

/-- an operation that hands back no value -/
def unitOp (op : Op) (k : Sem Unit → Prop) (r : Prop) : Prop :=
  match op with
  | .store t a x => opd e a fun va => opd e x fun vx => k (Instr.storeAt t va vx)
  | .mapUpdate t m i x | .insert t m i x => opd e m fun vm => opd e i fun vi => opd e x fun vx => k (Instr.mapUpdate t vm vi vx)
  | .entryStore t m s x => opd e m fun vm => opd e s fun vs => opd e x fun vx => k (Instr.entryStore t vm vs vx)
  | _ => r

def callOp (op : Op) (w : World) (k : Value → World → Prop) (r : Prop) : Prop :=
  match op with
  | .call ⟨.value (.func g), args, _⟩ => opds e args.toList fun vs => bif memN g ent then CallF P g vs.toArray w k else RunO P (callFunc g vs.toArray) w k
  | .call ⟨.value x, args, _⟩ => opd e x fun f => opds e args.toList fun vs => CallV P f vs.toArray w k
  | _ => r

def denOp (op : Op) (type : TypeId) (w : World) (k : Value → Option Kb → World → Prop) : Prop :=
  pureOp e op (fun v kb => k v kb w) <| unitOp e op (fun m => RunU P m w fun w' => k undef none w') <| callOp P ent e op w (fun v w' => k v none w') <|
    semOp e op type fun m =>
      match cls op with
      | 0 => RunA P m fun v => k v none w
      | 1 => RunW P m w fun v => k v none w
      | _ => RunV P m w fun v w' => k v none w'

/-- an operation that is taken first in a region that draws its order -/
def denQ (S : World → Prop) (op : Op) (type : TypeId) (k : Value → Option Kb → Prop) : Prop :=
  pureOp e op k <| semOp e op type fun m =>
    match cls op with
    | 0 => RunA P m fun v => k v none
    | _ => RunS P S m fun v => k v none

end

/-! ### a region -/
def beqB : Bool → Bool → Bool
  | true, b => b
  | false, b => !b

def dstOk (nt : Nat) (d : Option Nat) : Bool :=
  match d with
  | none => true
  | some d => Nat.blt d nt

def nthO : List Oper → Nat → Option Oper
  | [], _ => none
  | o :: _, 0 => some o
  | _ :: r, n + 1 => nthO r n

def dstAt (all : List Oper) (j : Nat) : Option Nat :=
  match nthO all j with
  | some o => o.dst
  | none => none

/-- what an operation's guard says: run it (yes), pass over it (no) -/
def guarded (all : List Oper) (g : Option (Nat × Bool)) (e : Env) (yes no : Env → Prop) : Prop :=
  match g with
  | none => yes e
  | some (j, want) =>
    match dstAt all j with
    | none => False
    | some s =>
      match e.get s with
      | none => False
      | some (v, kb) =>
        match kb with
        | some (.bl b) => bif beqB want b then yes e else no e
        | some .sk => no e
        | none => IfB v (bif want then yes ((s, .bool true, some (.bl true)) :: e) else no ((s, .bool true, some (.bl true)) :: e))
            (bif want then no ((s, .bool false, some (.bl false)) :: e) else yes ((s, .bool false, some (.bl false)) :: e))

/-- operations in the text's order -/
def denL (P : Program) (nt : Nat) (ent : List Nat) (all : List Oper) : List Oper → Env → World → (Env → World → Prop) → Prop
  | [], e, w, K => K e w
  | o :: r, e, w, K => bif dstOk nt o.dst then
      guarded all o.guard e (fun e => denOp P ent e o.op o.type w (fun v kb w' => denL P nt ent all r (e.put o.dst v kb) w' K))
        (fun e => denL P nt ent all r (e.put o.dst undef (some .sk)) w K)
    else False

/-- the orders of a region: q: number i is taken first · one: number i alone can come · alt: number i, or what stands behind · re: what is kept is chosen anew, and tells more · fin: all have come, or no other can -/
inductive VS where
  | q (i : Nat) (r : VS)
  | sp (i : Nat) (t f : VS)
  | one (i : Nat) (r : VS)
  | alt (i : Nat) (r o : VS)
  | re (r : VS)
  | fin

def eqNs : List Nat → List Nat → Bool
  | [], [] => true
  | a :: l, b :: m => Nat.beq a b && eqNs l m
  | _, _ => false

def subNs : List Nat → List Nat → Bool
  | [], _ => true
  | a :: l, m => memN a m && subNs l m

/-- the guard of an operation, known by sight -/
def known (all : List Oper) (g : Option (Nat × Bool)) (e : Env) (yes no : Prop) : Prop :=
  match g with
  | none => yes
  | some (j, want) =>
    match dstAt all j with
    | none => False
    | some s =>
      match e.get s with
      | none => False
      | some (_, kb) =>
        match kb with
        | some (.bl b) => bif beqB want b then yes else no
        | some .sk => no
        | none => False

def splitG (all : List Oper) (g : Option (Nat × Bool)) (e : Env) (t f : Env → Prop) : Prop :=
  match g with
  | none => False
  | some (j, _) =>
    match dstAt all j with
    | none => False
    | some s =>
      match e.get s with
      | none => False
      | some (v, _) => IfB v (t ((s, .bool true, some (.bl true)) :: e)) (f ((s, .bool false, some (.bl false)) :: e))

/-- the numbers that are taken first -/
def qsOf : VS → List Nat
  | .q i r => i :: qsOf r
  | .sp _ t f => qsOf t ++ qsOf f
  | .one _ r => qsOf r
  | .alt _ r o => qsOf r ++ qsOf o
  | .re r => qsOf r
  | .fin => []

def anyN (p : Nat → Bool) : List Nat → Bool
  | [] => false
  | a :: l => bif p a then true else anyN p l
def allN (p : Nat → Bool) : List Nat → Bool
  | [] => true
  | a :: l => bif p a then allN p l else false

/-- number d waits for number i -/
def waitsN (ops : Array Oper) (d i : Nat) : Bool :=
  match nthO ops.toList d with
  | none => false
  | some o => o.after.any fun e => Region.binds .any e && Nat.beq e.on i

/-- likewise, through others -/
def waitsT (ops : Array Oper) (qs : List Nat) : Nat → Nat → Nat → Bool
  | 0, d, i => waitsN ops d i
  | f + 1, d, i => waitsN ops d i || anyN (fun m => waitsN ops d m && waitsT ops qs f m i) qs

/-- does an operation look at the world? -/
def needS (op : Op) : Bool :=
  match op with
  | .move _ | .assign _ | .pick .. => false
  | op => !(Nat.beq (cls op) 0)
def needAt (ops : Array Oper) (i : Nat) : Bool :=
  match nthO ops.toList i with
  | none => false
  | some o => needS o.op

/-- have all that may be taken first, and look at the world, surely come? -/
def doneB (ops : Array Oper) (qs : List Nat) (listed : Array Bool) : Bool :=
  allN (fun i => !(needAt ops i) || anyN (fun d => Nat.blt d ops.size && (listed.getD d false && (!(memN d qs) && waitsT ops qs 4 d i))) (List.range ops.size)) qs

def hld (ops : Array Oper) (qs : List Nat) (S : World → Prop) (listed : Array Bool) (w : World) (p : Prop) : Prop :=
  bif doneB ops qs listed then p else S w ∧ p

/-- a list of truths, told out -/
def told : List Bool → (List Bool → Prop) → Prop
  | [], k => k []
  | true :: l, k => told l fun m => k (true :: m)
  | false :: l, k => told l fun m => k (false :: m)
theorem told_eq : ∀ (l : List Bool) (k : List Bool → Prop), told l k = k l
  | [], _ => rfl
  | true :: l, k => told_eq l _
  | false :: l, k => told_eq l _

def denV (P : Program) (nt : Nat) (ent : List Nat) (ops : Array Oper) (qs : List Nat) : (World → Prop) → VS → List Nat → Array Bool → Env → World → (Env → World → Prop) → Prop
  | S, .q i r, _, listed, e, w, K =>
    match nthO ops.toList i with
    | none => False
    | some o => bif dstOk nt o.dst && (memN i qs && (Region.free .any ops listed i && (Region.ready .any ops listed).contains i)) then
        told (listed.setIfInBounds i true).toList fun m => known ops.toList o.guard e (denQ P e S o.op o.type fun v kb => denV P nt ent ops qs S r [] m.toArray (e.put o.dst v kb) w K)
          (denV P nt ent ops qs S r [] m.toArray (e.put o.dst undef (some .sk)) w K)
      else False
  | S, .sp i t f, acc, listed, e, w, K =>
    match nthO ops.toList i with
    | none => False
    | some o => splitG ops.toList o.guard e (fun e' => denV P nt ent ops qs S t acc listed e' w K) (fun e' => denV P nt ent ops qs S f acc listed e' w K)
  | S, .one i r, _, listed, e, w, K =>
    match nthO ops.toList i with
    | none => False
    | some o => bif dstOk nt o.dst && eqNs (Region.ready .any ops listed) [i] then
        told (listed.setIfInBounds i true).toList fun m => known ops.toList o.guard e (denOp P ent e o.op o.type w fun v kb w' => hld ops qs S m.toArray w' (denV P nt ent ops qs S r [] m.toArray (e.put o.dst v kb) w' K)) False
      else False
  | S, .alt i r o', acc, listed, e, w, K =>
    match nthO ops.toList i with
    | none => False
    | some o => bif dstOk nt o.dst && (Region.ready .any ops listed).contains i then
        told (listed.setIfInBounds i true).toList fun m => known ops.toList o.guard e (denOp P ent e o.op o.type w fun v kb w' => hld ops qs S m.toArray w' (denV P nt ent ops qs S r [] m.toArray (e.put o.dst v kb) w' K)) False ∧
        denV P nt ent ops qs S o' (i :: acc) listed e w K
      else False
  | S, .re r, acc, listed, e, w, K => ∃ S' : World → Prop, S' w ∧ (∀ w, S' w → S w) ∧ denV P nt ent ops qs S' r acc listed e w K
  | S, .fin, acc, listed, e, w, K =>
    match acc with
    | [] => bif eqNs (Region.ready .any ops listed) [] then K e w else False
    | acc => bif subNs (Region.ready .any ops listed) acc then True else False

def Region.noDefer (ops : Array Oper) : Bool := ops.all fun o => match o.op with | .defer _ => false | _ => true

/-! ### code -/
inductive Ann where
  | leaf
  | ops (keep : List Nat)
  | draw (vs : VS) (keep : List Nat)
  | seq (a b : Ann)
  | cond (a b : Ann)
  | blk (a : Ann)
  | loop (cst chg : List Nat) (a : Ann)
  | join (live : List Nat) (a : Ann)
  | rng (la : List Nat) (a b : Ann)

def Env.puts : List Nat → List Value → Env → Env
  | t :: ts, v :: vs, e => Env.puts ts vs ((t, v, none) :: e)
  | _, _, e => e

def allLt (nt : Nat) : List Nat → Bool
  | [] => true
  | t :: r => Nat.blt t nt && allLt nt r

def dsOf (ro : Option Nat) (D : Nat) (ds : List Nat) : List Nat :=
  match ro with
  | none => D :: ds
  | some _ => ds

def jumpK (Kx : Nat → World → Prop) (Kr : World → Prop) (c : Code) (w : World) : Prop :=
  match c with
  | .ret => Kr w
  | .exit i => Kx i w
  | _ => False

abbrev Kont := Env → List Nat → World → Prop

def chk (mk : Bool) (ds' ds : List Nat) (p : Prop) : Prop := bif mk then ds' = ds ∧ p else p

def den (P : Program) (nt : Nat) (ent : List Nat) : Bool → Option Nat → Ann → Code → Env → List Nat → World → (Kn : Kont) → (Kx : Nat → Kont) → (Kr : Kont) → Prop
  | mk, ro, .leaf, .skip, e, ds, w, Kn, _, _ => Kn e ds w
  | mk, ro, .leaf, .exit id, e, ds, w, _, Kx, _ => Kx id e ds w
  | mk, ro, .leaf, .ret, e, ds, w, _, _, Kr => Kr e ds w
  | mk, ro, .ops keep, .region _ ops false, e, ds, w, Kn, _, _ => denL P nt ent ops.toList ops.toList e w fun e' w' => Kn (e'.keep keep) ds w'
  | mk, ro, .draw vs keep, .region _ ops true, e, ds, w, Kn, _, _ =>
    bif P.follows .mixedOrders && (Region.noSelect ops && Region.noDefer ops) then
      drw (fun S w' => denV P nt ent ops (qsOf vs) S vs [] (Array.replicate ops.size false) e w' fun e' w'' => Kn (e'.keep keep) ds w'') w
    else False
  | mk, ro, .seq a b, .seq x y, e, ds, w, Kn, Kx, Kr => den P nt ent mk ro a x e ds w (fun e' ds' w' => den P nt ent mk ro b y e' ds' w' Kn Kx Kr) Kx Kr
  | mk, ro, .cond a b, .cond c x y, e, ds, w, Kn, Kx, Kr => opdk e c fun v kb =>
    match kb with
    | some .sk => False
    | some (.bl t) => bif t then den P nt ent mk ro a x e ds w Kn Kx Kr else den P nt ent mk ro b y e ds w Kn Kx Kr
    | none => IfB v (den P nt ent mk ro a x e ds w Kn Kx Kr) (den P nt ent mk ro b y e ds w Kn Kx Kr)
  | mk, ro, .blk a, .block id x, e, ds, w, Kn, Kx, Kr => den P nt ent mk ro a x e ds w Kn (fun i e' ds' w' => bif Nat.beq i id then Kn e' ds' w' else Kx i e' ds' w') Kr
  | mk, ro, .loop cst chg a, .loop x, e, ds, w, _, Kx, Kr =>
    gets e cst fun cv => gets e chg fun hv =>
      lp chg.length (fun next => lamN chg.length fun vs w' => den P nt ent mk ro a x (Env.zips chg vs (Env.zips cst cv [])) ds w'
        (fun e' ds' w'' => gets e' cst fun cv' => gets e' chg fun vs' => eqs cv' cv (chk mk ds' ds (appN chg.length next vs' w''))) Kx Kr) hv w
  | mk, ro, .join live a, x, e, ds, w, Kn, Kx, Kr =>
    jn live.length (lamN live.length fun vs w' => Kn (Env.zips live vs []) ds w') fun J =>
      den P nt ent mk ro a x e ds w (fun e' ds' w' => gets e' live fun vs => chk mk ds' ds (appN live.length J vs w')) Kx Kr
  | mk, ro, .rng la a b, .rangeFunc g ps assign body, e, ds, w, Kn, Kx, Kr =>
    bif (mk || ro.isSome) && allLt nt ps.toList then
      opd e g fun vg => rngP P ro ps.toList.length la.length
        (fun l K => lamN ps.toList.length fun args W => den P nt ent false (some l) a assign (Env.puts ps.toList args e) [] W (fun e1 _ W1 => gets e1 la fun vs => appN la.length K vs W1) (fun _ _ _ _ => False) (fun _ _ _ => False))
        (fun l kn ks => lamN la.length fun vs W => den P nt ent false (some l) b body (Env.zips la vs []) [] W (fun _ _ W' => kn W') (fun i _ _ W' => ks (.exit i) W') (fun _ _ W' => ks .ret W'))
        vg w (fun D W => Kn e (dsOf ro D ds) W) (fun D c W => jumpK (fun i W' => Kx i e (dsOf ro D ds) W') (fun W' => Kr e (dsOf ro D ds) W') c W)
    else False
  | _, _, _, _, _, _, _, _, _, _ => False

/-! ### a function -/
def pack : List Value → Value
  | [v] => v
  | vs => .tuple vs.toArray

/-- the results, one by one -/
def retV (P : Program) (e : Env) (w : World) : List ResultVar → (List Value → Prop) → Prop
  | [], k => k []
  | .tmp t :: r, k => opd e (.tmp t) fun v => retV P e w r fun vs => k (v :: vs)
  | .cell a t :: r, k => opd e (.tmp a) fun va => RunW P (Instr.loadAt t va) w fun v => retV P e w r fun vs => k (v :: vs)

def retK (P : Program) (rs : List ResultVar) (R : Value → World → Prop) (e : Env) : List Nat → World → Prop
  | [], w => retV P e w rs fun vs => R (pack vs) w
  | D :: ds, w => w.heap[D]? = some (.deferred (some [])) ∧ retK P rs R e ds (w.putObj D (.deferred none))

def params : Nat → List Value → Env
  | i, v :: vs => (i, v, none) :: params (i + 1) vs
  | _, [] => []

/-- a function's contract out of the calculus -/
def denF (P : Program) (ent : List Nat) (mk : Bool) (fn : Func) (an : Ann) (c : Code) (args : List Value) (w : World) (R : Value → World → Prop) : Prop :=
  den P fn.ntmps ent mk none an c (params 0 args) [] w (retK P fn.results.toList R) (fun _ _ _ _ => False) (retK P fn.results.toList R)

end Go.Ez
