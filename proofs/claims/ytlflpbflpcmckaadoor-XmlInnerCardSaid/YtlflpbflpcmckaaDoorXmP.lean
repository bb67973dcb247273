/-
  XML, plainly: what a reader is, and what each of its methods makes of it. No program in sight.
  'dec': the sign that begins a text (its number, its length) · 'sgn': a number's sign, is there one?
-/
import Derived.Test.YtlflpbflpcmckaaDoorOmP
namespace Go.Ez
open Go
set_option linter.unusedSimpArgs false
set_option linter.unusedVariables false
structure XAt where
  space : Txt
  name : Txt
  value : Txt
  deriving DecidableEq, Inhabited
structure XTk where
  kind : Int
  space : Txt
  name : Txt
  text : Txt
  attrs : List XAt
  deriving DecidableEq, Inhabited
/-- an attribute as it is written -/
structure XPr where
  pre : Txt
  name : Txt
  value : Txt
  deriving DecidableEq, Inhabited
/-- an open element: its name, what its prefixes stand for -/
structure XFr where
  pre : Txt
  name : Txt
  spaces : List (Txt × Txt)
  deriving DecidableEq, Inhabited
structure XRd where
  s : Txt
  at_ : Nat
  e : Int
  out : List XTk
  op : List XFr
  run : Txt
  deriving DecidableEq, Inhabited
namespace XRd
def fail (r : XRd) (e : Int) : XRd := if r.e = 0 then { r with e := e } else r
def failIf (r : XRd) (b : Bool) (e : Int) : XRd := if b then r.fail e else r
def on (r : XRd) (n : Nat) : XRd := { r with at_ := r.at_ + n }
def rest (r : XRd) : Txt := r.s.drop r.at_
def see (r : XRd) (n : Nat) : UInt8 × XRd := match r.s[r.at_ + n]? with
  | some c => (c, r)
  | none => (0, r.fail 2)
def wants : Txt → XRd → XRd
  | [], r => r
  | c :: p, r => if r.e = 0 then wants p (((r.see 0).2.failIf (decide ((r.see 0).2.e = 0 ∧ (r.see 0).1 ≠ c)) 4).on 1) else r
def isBl (c : UInt8) : Bool := c == 32 || c == 9 || c == 10 || c == 13
def blanks (r : XRd) : Bool × XRd := (decide (0 < (r.rest.takeWhile isBl).length), r.on (r.rest.takeWhile isBl).length)
def good (c : Int) : Bool := decide (32 ≤ c ∨ c = 9 ∨ c = 10 ∨ c = 13)
/-- the reader's sign -/
def sign (dec : Txt → Int × Nat) (r : XRd) : Txt × XRd :=
  if (r.see 0).2.e ≠ 0 then ([], (r.see 0).2) else
  if good (dec r.rest).1 = false ∨ ((dec r.rest).1 = 65533 ∧ (dec r.rest).2 < 2) then ([], r.fail 4) else
  (r.rest.take (dec r.rest).2, r.on (dec r.rest).2)
def isPre (p s : Txt) : Bool := decide (s.take p.length = p)
/-- signs up to a text; fuel: the text's length -/
def signs (dec : Txt → Int × Nat) (p : Txt) : Nat → XRd → XRd
  | 0, r => r
  | f + 1, r => if r.e = 0 ∧ isPre p r.rest = false then signs dec p f (r.sign dec).2 else r
def til (dec : Txt → Int × Nat) (p : Txt) (r : XRd) : Txt × XRd :=
  if (signs dec p (r.s.length + 2) r).e ≠ 0 then ([], signs dec p (r.s.length + 2) r) else
  ((r.s.drop r.at_).take ((signs dec p (r.s.length + 2) r).at_ - r.at_), (signs dec p (r.s.length + 2) r).on p.length)
def begs (c : UInt8) : Bool := decide (97 ≤ c.toNat ∧ c.toNat ≤ 122) || decide (65 ≤ c.toNat ∧ c.toNat ≤ 90) || c == 95
def goes (c : UInt8) : Bool := begs c || decide (48 ≤ c.toNat ∧ c.toNat ≤ 57) || c == 45 || c == 46
def nameOf (r : XRd) : Txt × XRd :=
  let q := (r.see 0).2.failIf (decide ((r.see 0).2.e = 0) && !begs (r.see 0).1) 4
  (r.rest.takeWhile goes, q.on (r.rest.takeWhile goes).length)
def full (r : XRd) : (Txt × Txt) × XRd :=
  let n := r.nameOf
  if n.2.e ≠ 0 ∨ n.2.s[n.2.at_]? ≠ some 58 then (([], n.1), n.2) else ((n.1, (n.2.on 1).nameOf.1), (n.2.on 1).nameOf.2)
/-- a digit of a base -/
def digB (base : Nat) (c : UInt8) : Option Nat :=
  let d := if 48 ≤ c.toNat ∧ c.toNat ≤ 57 then some (c.toNat - 48) else if 97 ≤ c.toNat ∧ c.toNat ≤ 122 then some (c.toNat - 87) else if 65 ≤ c.toNat ∧ c.toNat ≤ 90 then some (c.toNat - 55) else none
  match d with
  | some d => if d < base then some d else none
  | none => none
def numB (base : Nat) : Txt → Nat → Nat
  | [], n => n
  | c :: l, n => numB base l (n * base + (digB base c).getD 0)
/-- digits up to a ;: fuel: one more than the most -/
def digitsGo (base most from_ : Nat) : Nat → XRd → XRd
  | 0, r => r
  | f + 1, r =>
    if r.e = 0 then
      (match r.s[r.at_]? with
       | none => r.fail 2
       | some c => if c = 59 then r else if (digB base c).isNone || decide (most ≤ r.at_ - from_) then r.fail 4 else digitsGo base most from_ f (r.on 1))
    else r
def digits (base most : Nat) (r : XRd) : Int × XRd :=
  let q := digitsGo base most r.at_ (most + 2) r
  let l := (r.s.drop r.at_).take (q.at_ - r.at_)
  ((numB base l 0 : Nat), (q.failIf (decide (l = [])) 4).on 1)
def number (sgn : Int → Txt × Bool) (r : XRd) : Txt × XRd :=
  let x := r.see 0
  let d := if x.1 = 120 then digits 16 6 (x.2.on 1) else digits 10 7 x.2
  ((sgn d.1).1, d.2.failIf (!(sgn d.1).2 || !good d.1) 4)
def refNames : List (Txt × Txt) := [([108, 116, 59], [60]), ([103, 116, 59], [62]), ([97, 109, 112, 59], [38]), ([113, 117, 111, 116, 59], [34]), ([97, 112, 111, 115, 59], [39])]
def refGo (rest : Txt) : List (Txt × Txt) → Bool → XRd → Txt × XRd
  | [], short, r => ([], (r.failIf short 2).fail 4)
  | n :: l, short, r => if isPre n.1 rest then (n.2, r.on n.1.length) else refGo rest l (short || isPre rest n.1) r
def reference (sgn : Int → Txt × Bool) (r : XRd) : Txt × XRd := if isPre [35] r.rest then number sgn (r.on 1) else refGo r.rest refNames false r
def part (dec : Txt → Int × Nat) (sgn : Int → Txt × Bool) (r : XRd) : Txt × XRd :=
  if (r.see 0).1 = 38 then reference sgn ((r.see 0).2.on 1) else (r.see 0).2.sign dec
/-- a value's parts; fuel: the text's length -/
def valGo (dec : Txt → Int × Nat) (sgn : Int → Txt × Bool) (quote : UInt8) : Nat → Txt → XRd → Txt × XRd
  | 0, _, r => ([], r)
  | f + 1, b, r =>
    if r.e ≠ 0 then ([], r) else
    let x := r.see 0
    if x.2.e ≠ 0 then valGo dec sgn quote f b x.2 else
    if x.1 = quote then (b, (x.2.on 1).failIf (decide (8000 < b.length)) 3) else
    if x.1 = 60 then valGo dec sgn quote f b (x.2.fail 4) else
    valGo dec sgn quote f (b ++ (part dec sgn x.2).1) (part dec sgn x.2).2
def value (dec : Txt → Int × Nat) (sgn : Int → Txt × Bool) (r : XRd) : Txt × XRd :=
  let x := r.see 0
  valGo dec sgn x.1 (r.s.length + 3) [] ((x.2.failIf (decide (x.2.e = 0 ∧ x.1 ≠ 34 ∧ x.1 ≠ 39)) 4).on 1)
def attr (dec : Txt → Int × Nat) (sgn : Int → Txt × Bool) (l : List XPr) (r : XRd) : XPr × XRd :=
  let f := r.full
  let q := f.2.failIf (decide (f.2.e = 0) && l.any fun p => decide (p.pre = f.1.1 ∧ p.name = f.1.2)) 4
  let q := (wants [61] q.blanks.2).blanks.2
  if q.e = 0 then (⟨f.1.1, f.1.2, (value dec sgn q).1⟩, (value dec sgn q).2) else (⟨f.1.1, f.1.2, []⟩, q)
def attrsGo (dec : Txt → Int × Nat) (sgn : Int → Txt × Bool) : Nat → List XPr → XRd → List XPr × XRd
  | 0, l, r => (l, r)
  | f + 1, l, r =>
    if r.e ≠ 0 then (l, r) else
    let x := r.blanks.2.see 0
    if x.2.e ≠ 0 ∨ x.1 = 47 ∨ x.1 = 62 then (l, x.2) else
    if r.blanks.1 = false then attrsGo dec sgn f l (x.2.fail 4) else
    attrsGo dec sgn f (l ++ [(attr dec sgn l x.2).1]) (attr dec sgn l x.2).2
def attrs (dec : Txt → Int × Nat) (sgn : Int → Txt × Bool) (r : XRd) : List XPr × XRd := attrsGo dec sgn (r.s.length + 3) [] r
def told : Txt := [120, 109, 108, 110, 115]
def own : Txt := [120, 109, 108]
/-- does an attribute tell a prefix? Which one? -/
def tells (p : XPr) : Txt × Bool := if p.pre = [] ∧ p.name = told then ([], true) else (p.name, decide (p.pre = told))
def lookS (k : Txt) : List (Txt × Txt) → Option Txt
  | [] => none
  | p :: l => if p.1 = k then some p.2 else lookS k l
/-- what the nearest of open elements says -/
def near (k : Txt) : List XFr → Option Txt
  | [] => none
  | f :: l => match lookS k f.spaces with
    | some s => some s
    | none => near k l
def space (f : XFr) (pre : Txt) (r : XRd) : Txt × XRd :=
  if pre = own then (own, r) else
  match lookS pre f.spaces with
  | some s => (s, r)
  | none => match near pre r.op.reverse with
    | some s => (s, r)
    | none => ([], r.failIf (decide (pre ≠ [])) 4)
def putS (m : List (Txt × Txt)) (k v : Txt) : List (Txt × Txt) := (k, v) :: m.filter fun p => decide (p.1 ≠ k)
def spacesOf : List XPr → List (Txt × Txt) → List (Txt × Txt)
  | [], m => m
  | p :: l, m => spacesOf l (if (tells p).2 then putS m (tells p).1 p.value else m)
def attsOf (f : XFr) : List XPr → List XAt → XRd → List XAt × XRd
  | [], o, r => (o, r)
  | p :: l, o, r => if (tells p).2 then attsOf f l o r else
    if p.pre ≠ [] then attsOf f l (o ++ [⟨(space f p.pre r).1, p.name, p.value⟩]) (space f p.pre r).2 else attsOf f l (o ++ [⟨[], p.name, p.value⟩]) r
def begin_ (name : Txt × Txt) (l : List XPr) (r : XRd) : XFr × XRd :=
  let f : XFr := ⟨name.1, name.2, spacesOf l []⟩
  let x := space f name.1 r
  let a := attsOf f l [] x.2
  (f, { a.2 with out := a.2.out ++ [⟨1, x.1, name.2, [], a.1⟩] })
def flush (r : XRd) : XRd :=
  if 8000 < r.run.length then ({ r with run := [] } : XRd).fail 3 else if r.run ≠ [] then { r with run := [], out := r.out ++ [⟨3, [], [], r.run, []⟩] } else { r with run := [] }
def close (f : XFr) (r : XRd) : XRd := { (space f f.pre r).2 with out := (space f f.pre r).2.out ++ [⟨2, (space f f.pre r).1, f.name, [], []⟩] }
def element (dec : Txt → Int × Nat) (sgn : Int → Txt × Bool) (r : XRd) : XRd :=
  let r := r.on 1
  if 64 ≤ r.op.length then r.fail 10 else
  let n := r.full
  let a := attrs dec sgn n.2
  if a.2.e ≠ 0 then a.2 else
  let x := a.2.see 0
  let q := wants [62] (if x.1 = 47 then x.2.on 1 else x.2)
  if q.e ≠ 0 then q else
  let f := begin_ n.1 a.1 q
  if x.1 = 47 then close f.1 f.2 else { f.2 with op := f.2.op ++ [f.1] }
def end_ (r : XRd) : XRd :=
  let r := r.on 2
  let f := r.op.getLastD default
  let n := r.full
  let q := n.2.failIf (decide (n.2.e = 0 ∧ ¬ (n.1.1 = f.pre ∧ n.1.2 = f.name))) 4
  let q := wants [62] q.blanks.2
  if q.e = 0 then { close f q with op := (close f q).op.dropLast } else q
def comment (dec : Txt → Int × Nat) (r : XRd) : XRd := wants [62] (til dec [45, 45] (wants [60, 33, 45, 45] r)).2
def content (dec : Txt → Int × Nat) (sgn : Int → Txt × Bool) (r : XRd) : XRd :=
  let x := r.see 0
  if x.1 ≠ 60 then { (part dec sgn x.2).2 with run := (part dec sgn x.2).2.run ++ (part dec sgn x.2).1 } else
  let y := x.2.see 1
  if y.2.e ≠ 0 then y.2 else
  if y.1 = 33 ∧ (y.2.see 2).1 = 91 then
    (let t := til dec [93, 93, 62] (wants [60, 33, 91, 67, 68, 65, 84, 65, 91] (y.2.see 2).2)
     { t.2 with run := t.2.run ++ t.1 })
  else if y.1 = 33 then comment dec (y.2.see 2).2
  else if y.1 = 47 then end_ y.2.flush
  else if begs y.1 then element dec sgn y.2.flush
  else y.2.fail 4
def misc (dec : Txt → Int × Nat) : Nat → XRd → XRd
  | 0, r => r
  | f + 1, r => if r.e ≠ 0 then r else if isPre [60, 33] r.blanks.2.rest = false then r.blanks.2 else misc dec f (comment dec r.blanks.2)
def front (dec : Txt → Int × Nat) (r : XRd) : XRd :=
  let r := if isPre [239, 187, 191] r.rest then r.on 3 else r
  let q := if isPre [60, 63] r.rest then
    (let w := wants [60, 63, 120, 109, 108] r
     let x := (w.see 0).2
     let y := if x.e = 0 then x.blanks.2.failIf (!x.blanks.1) 4 else x
     (til dec [63, 62] y).2) else r
  misc dec (q.s.length + 2) q
def contents (dec : Txt → Int × Nat) (sgn : Int → Txt × Bool) : Nat → XRd → XRd
  | 0, r => r
  | f + 1, r => if r.e = 0 ∧ r.op ≠ [] then contents dec sgn f (content dec sgn r) else r
/-- a document's tokens, and an error -/
def tokens (dec : Txt → Int × Nat) (sgn : Int → Txt × Bool) (b : Txt) : List XTk × Int :=
  if 20000 < b.length then ([], 3) else
  let r := front dec ⟨b, 0, 0, [], [], []⟩
  let x := r.see 0
  let q := x.2.failIf (decide (x.2.e = 0 ∧ x.1 ≠ 60)) 4
  let y := q.see 1
  let q := y.2.failIf (decide (y.2.e = 0) && !begs y.1) 4
  let q := if q.e = 0 then element dec sgn q else q
  let q := contents dec sgn (b.length + 2) q
  let q := misc dec (b.length + 2) q
  let q := q.failIf (decide (q.e = 0 ∧ q.at_ < q.s.length)) 4
  if q.e ≠ 0 then ([], q.e) else (q.out, 0)
end XRd
end Go.Ez
