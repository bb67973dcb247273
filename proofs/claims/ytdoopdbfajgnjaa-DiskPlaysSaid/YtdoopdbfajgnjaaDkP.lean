/-
  FILES THAT FALL, plainly: maps of names to bytes, changes, disks, and what a call makes of one.
-/
import Derived.Test.YtdoopdbfajgnjaaOmP
namespace Go.Ez
open Go
set_option linter.unusedSimpArgs false
set_option linter.unusedVariables false

abbrev Fm := List (Txt × Txt)
def gt (k : Txt) (m : Fm) : Txt := (getK k m).getD []
def tot (m : Fm) : Nat := (m.map fun p => p.2.length).sum
/-- a change of files -/
inductive Chg where
  | puts (k d : Txt)
  | cuts (k : Txt) (n : Nat)
  | names (k t : Txt)
  | takes (k : Txt)
def Chg.app : Chg → Fm → Fm
  | .puts k d, m => putK k (gt k m ++ d) m
  | .cuts k n, m => putK k ((gt k m).take n) m
  | .names k t, m => putK t (gt k m) (delK k m)
  | .takes k, m => delK k m
def Chg.ok : Chg → Fm → Prop
  | .puts k d, m => tot m + d.length ≤ 1073741824
  | .cuts k n, m => n ≤ (gt k m).length
  | _, _ => True
def apps : List Chg → Fm → Fm
  | [], m => m
  | c :: l, m => apps l (c.app m)
def oks : List Chg → Fm → Prop
  | [], _ => True
  | c :: l, m => c.ok m ∧ oks l (c.app m)
/-- a good map -/
structure Gm (m : Fm) : Prop where
  srt : Srt m
  tot : tot m ≤ 1073741824
theorem apps_append : ∀ (a b : List Chg) (m : Fm), apps (a ++ b) m = apps b (apps a m)
  | [], _, _ => rfl
  | c :: a, b, m => apps_append a b (c.app m)
theorem oks_append : ∀ (a b : List Chg) (m : Fm), oks (a ++ b) m ↔ oks a m ∧ oks b (apps a m)
  | [], _, _ => by simp [oks, apps]
  | c :: a, b, m => by
    simp only [List.cons_append, oks, apps, oks_append a b]
    exact and_assoc.symm
theorem apps_snoc (a : List Chg) (c : Chg) (m : Fm) : apps (a ++ [c]) m = c.app (apps a m) := by rw [apps_append]; rfl
theorem oks_snoc {a : List Chg} {c : Chg} {m : Fm} (h : oks a m) (hc : c.ok (apps a m)) : oks (a ++ [c]) m := (oks_append _ _ _).2 ⟨h, hc, trivial⟩
theorem oks_take {a : List Chg} {m : Fm} (h : oks a m) (n : Nat) : oks (a.take n) m := by
  rw [← List.take_append_drop n a] at h
  exact ((oks_append _ _ _).1 h).1
theorem oks_get {a : List Chg} {m : Fm} (h : oks a m) {n : Nat} {c : Chg} (hc : a[n]? = some c) : c.ok (apps (a.take n) m) := by
  have hl := (List.getElem?_eq_some_iff.1 hc)
  rw [← List.take_append_drop n a, List.drop_eq_getElem_cons hl.1, hl.2] at h
  exact ((oks_append _ _ _).1 h).2.1
theorem apps_take_succ {a : List Chg} {m : Fm} {n : Nat} {c : Chg} (hc : a[n]? = some c) : apps (a.take (n + 1)) m = c.app (apps (a.take n) m) := by
  rw [List.take_add_one, hc]
  exact apps_snoc _ _ _

theorem tot_nil : tot [] = 0 := rfl
theorem tot_append (a b : Fm) : tot (a ++ b) = tot a + tot b := by simp [tot]
theorem tot_cons (p : Txt × Txt) (b : Fm) : tot (p :: b) = p.2.length + tot b := by simp [tot]
theorem gt_pos {k : Txt} {m : Fm} (hs : Srt m) : gt k m = if hasK k m then ((m[posK k m]?).map Prod.snd).getD [] else [] := by
  unfold gt
  rw [getK_pos hs]
  split <;> rfl
theorem tot_put {k v : Txt} {m : Fm} (hs : Srt m) : tot (putK k v m) + (gt k m).length = tot m + v.length := by
  rw [gt_pos hs]
  unfold putK
  split
  · rename_i h
    obtain ⟨u, hu⟩ := hasK_spec.1 h
    have hx := List.getElem?_eq_some_iff.1 hu
    rw [hu]
    have e : m = m.take (posK k m) ++ (k, u) :: m.drop (posK k m + 1) := by
      conv => lhs; rw [← List.take_append_drop (posK k m) m]
      rw [List.drop_eq_getElem_cons hx.1, hx.2]
    have e1 : m.set (posK k m) (k, v) = m.take (posK k m) ++ (k, v) :: m.drop (posK k m + 1) := List.set_eq_take_append_cons_drop.trans (if_pos hx.1)
    rw [e1]
    conv => rhs; rw [e]
    simp only [tot_append, tot_cons, Option.map_some, Option.getD_some]
    omega
  · simp only [tot_append, tot_cons, List.length_nil]
    have : tot m = tot (m.take (posK k m)) + tot (m.drop (posK k m)) := by rw [← tot_append, List.take_append_drop]
    omega
theorem tot_del {k : Txt} {m : Fm} (hs : Srt m) : tot (delK k m) + (gt k m).length = tot m := by
  rw [gt_pos hs]
  unfold delK
  split
  · rename_i h
    obtain ⟨u, hu⟩ := hasK_spec.1 h
    have hx := List.getElem?_eq_some_iff.1 hu
    rw [hu]
    have e : m = m.take (posK k m) ++ (k, u) :: m.drop (posK k m + 1) := by
      conv => lhs; rw [← List.take_append_drop (posK k m) m]
      rw [List.drop_eq_getElem_cons hx.1, hx.2]
    conv => rhs; rw [e]
    simp only [tot_append, tot_cons, Option.map_some, Option.getD_some]
    omega
  · simp
theorem gt_le {k : Txt} {m : Fm} (hs : Srt m) : (gt k m).length ≤ tot m := by have := tot_del (k := k) hs; omega
theorem len_put (k v : Txt) (m : Fm) : (putK k v m).length ≤ m.length + 1 := by
  unfold putK
  split
  · simp
  · have := posK_le k m
    simp only [List.length_append, List.length_take, List.length_cons, List.length_drop]; omega
theorem len_del (k : Txt) (m : Fm) : (delK k m).length ≤ m.length := by
  unfold delK
  split
  · simp only [List.length_append, List.length_take, List.length_drop]; omega
  · exact Nat.le_refl _
theorem Chg.len (c : Chg) (m : Fm) : (c.app m).length ≤ m.length + 1 := by
  cases c with
  | puts k d => exact len_put ..
  | cuts k n => exact len_put ..
  | names k t => exact Nat.le_trans (len_put ..) (by have := len_del k m; omega)
  | takes k => exact Nat.le_trans (len_del ..) (by omega)
theorem apps_len : ∀ (l : List Chg) (m : Fm), (apps l m).length ≤ m.length + l.length
  | [], m => by simp [apps]
  | c :: l, m => by
    have h1 := apps_len l (c.app m)
    have h2 := c.len m
    simp only [apps, List.length_cons]; omega
theorem Gm.app {c : Chg} {m : Fm} (h : Gm m) (hc : c.ok m) : Gm (c.app m) := by
  cases c with
  | puts k d =>
    refine ⟨srt_put h.srt, ?_⟩
    have := tot_put (k := k) (v := gt k m ++ d) h.srt
    rw [List.length_append] at this
    have h2 : Ez.tot m + d.length ≤ 1073741824 := hc
    show Ez.tot (putK k (gt k m ++ d) m) ≤ _
    omega
  | cuts k n =>
    refine ⟨srt_put h.srt, ?_⟩
    have := tot_put (k := k) (v := (gt k m).take n) h.srt
    rw [List.length_take] at this
    have := h.tot
    show Ez.tot (putK k ((gt k m).take n) m) ≤ _
    omega
  | names k t =>
    refine ⟨srt_put (srt_del h.srt), ?_⟩
    have h1 := tot_put (k := t) (v := gt k m) (srt_del (k := k) h.srt)
    have h2 := tot_del (k := k) h.srt
    have := h.tot
    show Ez.tot (putK t (gt k m) (delK k m)) ≤ _
    omega
  | takes k =>
    refine ⟨srt_del h.srt, ?_⟩
    have h2 := tot_del (k := k) h.srt
    have := h.tot
    show Ez.tot (delK k m) ≤ _
    omega
theorem Gm.apps : ∀ {l : List Chg} {m : Fm}, Gm m → oks l m → Gm (apps l m)
  | [], _, h, _ => h
  | c :: l, m, h, ho => Gm.apps (l := l) (h.app ho.1) ho.2
theorem gt_app {k j : Txt} {v : Txt} {m : Fm} (hs : Srt m) : gt j (putK k v m) = if j = k then v else gt j m := by
  unfold gt
  rw [get_put hs]
  split <;> rfl

/-! ### disks -/
abbrev Ev := Int × Int × Int × Int
structure Dd where
  room : Int
  dur : Fm
  pend : List Chg
  plan : List Ev
  calls : Nat
  down : Bool
def Dd.now (d : Dd) : Fm := apps d.pend d.dur
structure Dd.V (d : Dd) : Prop where
  gm : Gm d.dur
  ok : oks d.pend d.dur
  room0 : 0 ≤ d.room
  room1 : d.room ≤ 1073741824
  len : d.dur.length + d.pend.length ≤ d.calls
  plan : d.plan.length ≤ 1000000
theorem Dd.V.now {d : Dd} (h : d.V) : Gm d.now := h.gm.apps h.ok
theorem Dd.V.lenN {d : Dd} (h : d.V) : d.now.length ≤ d.calls := Nat.le_trans (apps_len _ _) h.len
def newD (room : Int) : Dd := ⟨room, [], [], [], 0, false⟩
theorem newD_V {room : Int} (h0 : 0 ≤ room) (h1 : room ≤ 1073741824) : (newD room).V := ⟨⟨List.Pairwise.nil, Nat.zero_le _⟩, trivial, h0, h1, by simp [newD], by simp [newD]⟩
/-- a part of the next change -/
def tornM (o : Option Chg) (torn : Int) (m : Fm) : Fm := match o with
  | some (.puts k x) => if 0 ≤ torn ∧ torn < x.length then (Chg.puts k (x.take torn.toNat)).app m else m
  | _ => m
def keepN (keep : Int) (n : Nat) : Nat := (min (max keep 0) n).toNat
theorem keepN_le (keep : Int) (n : Nat) : keepN keep n ≤ n := by unfold keepN; omega
def Dd.crash (d : Dd) (keep torn : Int) : Dd :=
  if d.down then d else { d with dur := tornM d.pend[keepN keep d.pend.length]? torn (apps (d.pend.take (keepN keep d.pend.length)) d.dur), pend := [], down := true }
theorem tornM_gm {l : List Chg} {m : Fm} {n : Nat} (torn : Int) (h : Gm m) (ho : oks l m) : Gm (tornM l[n]? torn (apps (l.take n) m)) := by
  have h1 : Gm (apps (l.take n) m) := h.apps (oks_take ho n)
  unfold tornM
  split
  · rename_i k x hx
    split
    · refine h1.app ?_
      have := oks_get ho hx
      have h2 : tot (apps (l.take n) m) + x.length ≤ 1073741824 := this
      show tot (apps (l.take n) m) + (x.take torn.toNat).length ≤ 1073741824
      rw [List.length_take]; omega
    · exact h1
  · exact h1
theorem tornM_len {l : List Chg} {m : Fm} {n : Nat} (torn : Int) : (tornM l[n]? torn (apps (l.take n) m)).length ≤ m.length + l.length := by
  have h1 := apps_len (l.take n) m
  rw [List.length_take] at h1
  unfold tornM
  split
  · rename_i k x hx
    have hl := (List.getElem?_eq_some_iff.1 hx).1
    split
    · have h2 := (Chg.puts k (x.take torn.toNat)).len (apps (l.take n) m)
      omega
    · omega
  · omega
theorem Dd.V.crash {d : Dd} (h : d.V) (keep torn : Int) : (d.crash keep torn).V := by
  unfold Dd.crash
  split
  · exact h
  · have := tornM_len (l := d.pend) (m := d.dur) (n := keepN keep d.pend.length) torn
    have := h.len
    exact ⟨tornM_gm _ h.gm h.ok, trivial, h.room0, h.room1, by simp only [List.length_nil]; omega, h.plan⟩
/-- the events of a call -/
def evs : List Ev → Dd → Bool → Dd × Bool
  | [], d, f => (d, f)
  | e :: l, d, f => if e.1 ≠ d.calls then evs l d f else if e.2.1 = 1 then evs l (d.crash e.2.2.1 e.2.2.2) f else if e.2.1 = 2 then evs l d true else evs l d f
theorem crash_calls (d : Dd) (k t : Int) : (d.crash k t).calls = d.calls ∧ (d.crash k t).plan = d.plan ∧ (d.crash k t).room = d.room := by
  unfold Dd.crash
  split <;> exact ⟨rfl, rfl, rfl⟩
theorem evs_V : ∀ (l : List Ev) {d : Dd} (f : Bool), d.V → (evs l d f).1.V
  | [], _, _, h => h
  | e :: l, d, f, h => by
    unfold evs
    split
    · exact evs_V l f h
    · split
      · exact evs_V l f (h.crash _ _)
      · split <;> exact evs_V l _ h
theorem evs_calls : ∀ (l : List Ev) (d : Dd) (f : Bool), (evs l d f).1.calls = d.calls ∧ (evs l d f).1.plan = d.plan ∧ (evs l d f).1.room = d.room
  | [], _, _ => ⟨rfl, rfl, rfl⟩
  | e :: l, d, f => by
    unfold evs
    split
    · exact evs_calls l d f
    · split
      · have h1 := evs_calls l (d.crash e.2.2.1 e.2.2.2) f
        have h2 := crash_calls d e.2.2.1 e.2.2.2
        exact ⟨h1.1.trans h2.1, h1.2.1.trans h2.2.1, h1.2.2.trans h2.2.2⟩
      · split <;> exact evs_calls l d _
/-- may it be a sign of a name? -/
def okC (c : UInt8) : Bool := (decide (97 ≤ c.toNat) && decide (c.toNat ≤ 122)) || (decide (48 ≤ c.toNat) && decide (c.toNat ≤ 57)) || c == 46 || c == 45
def okN (s : Txt) : Bool := s.all okC && decide (s ≠ []) && decide (s.length ≤ 40)
/-- a call begins -/
def Dd.call (d : Dd) (l : List Txt) : Dd × Bool × Int :=
  let r := evs d.plan { d with calls := d.calls + 1 } false
  (r.1, r.2, if r.1.down then 9 else if l.all okN then 0 else 11)
theorem Dd.V.call {d : Dd} (h : d.V) (l : List Txt) : (d.call l).1.V := evs_V _ _ ⟨h.gm, h.ok, h.room0, h.room1, by have := h.len; show _ ≤ d.calls + 1; simp only; omega, h.plan⟩
theorem call_calls (d : Dd) (l : List Txt) : (d.call l).1.calls = d.calls + 1 ∧ (d.call l).1.plan = d.plan ∧ (d.call l).1.room = d.room := evs_calls d.plan { d with calls := d.calls + 1 } false
theorem call_len {d : Dd} (h : d.V) (l : List Txt) : (d.call l).1.dur.length + (d.call l).1.pend.length ≤ d.calls := by
  have key : ∀ (l : List Ev) (d : Dd) (f : Bool) (n : Nat), d.dur.length + d.pend.length ≤ n → (evs l d f).1.dur.length + (evs l d f).1.pend.length ≤ n := by
    intro l
    induction l with
    | nil => intro d f n h; exact h
    | cons e l ih =>
      intro d f n h
      unfold evs
      split
      · exact ih d f n h
      · split
        · refine ih _ f n ?_
          unfold Dd.crash
          split
          · exact h
          · have := tornM_len (l := d.pend) (m := d.dur) (n := keepN e.2.2.1 d.pend.length) e.2.2.2
            simp only [List.length_nil]; omega
        · split <;> exact ih d _ n h
  exact key _ _ _ _ h.len
/-- a change is made, and is pending -/
def Dd.does (d : Dd) (c : Chg) : Dd := { d with pend := d.pend ++ [c] }
theorem does_now (d : Dd) (c : Chg) : (d.does c).now = c.app d.now := apps_snoc _ _ _
def Dd.appendP (d : Dd) (s b : Txt) : Dd × Int :=
  let r := d.call [s]
  if r.2.2 ≠ 0 then (r.1, r.2.2) else if r.2.1 = true ∨ r.1.room - tot r.1.now < b.length then (r.1, 8) else if b = [] ∧ (getK s r.1.now).isSome then (r.1, 0) else (r.1.does (.puts s b), 0)
def Dd.cutP (d : Dd) (s : Txt) (n : Int) : Dd × Int :=
  let r := d.call [s]
  if r.2.2 ≠ 0 then (r.1, r.2.2) else if getK s r.1.now = none then (r.1, 6) else if n < 0 ∨ (gt s r.1.now).length < n then (r.1, 1) else if n = (gt s r.1.now).length then (r.1, 0) else (r.1.does (.cuts s n.toNat), 0)
def Dd.renameP (d : Dd) (s t : Txt) : Dd × Int :=
  let r := d.call [s, t]
  if r.2.2 ≠ 0 then (r.1, r.2.2) else if getK s r.1.now = none then (r.1, 6) else if s = t then (r.1, 0) else (r.1.does (.names s t), 0)
def Dd.deleteP (d : Dd) (s : Txt) : Dd × Int :=
  let r := d.call [s]
  if r.2.2 ≠ 0 then (r.1, r.2.2) else if getK s r.1.now = none then (r.1, 6) else (r.1.does (.takes s), 0)
def Dd.syncP (d : Dd) : Dd × Int :=
  let r := d.call []
  if r.2.2 ≠ 0 then (r.1, r.2.2) else ({ r.1 with dur := r.1.now, pend := [] }, 0)
def Dd.readP (d : Dd) (s : Txt) : Dd × Txt × Int :=
  let r := d.call [s]
  if r.2.2 ≠ 0 then (r.1, [], r.2.2) else if getK s r.1.now = none then (r.1, [], 6) else (r.1, gt s r.1.now, 0)
def Dd.listP (d : Dd) : Dd × List Txt × Int :=
  let r := d.call []
  if r.2.2 ≠ 0 then (r.1, [], r.2.2) else (r.1, r.1.now.map Prod.fst, 0)
theorem Dd.V.does {d : Dd} (h : d.V) {c : Chg} (hc : c.ok d.now) (hl : d.dur.length + d.pend.length + 1 ≤ d.calls) : (d.does c).V := ⟨h.gm, oks_snoc h.ok hc, h.room0, h.room1, by show d.dur.length + (d.pend ++ [c]).length ≤ d.calls; rw [List.length_append]; simp; omega, h.plan⟩
theorem call_V1 {d : Dd} (h : d.V) (l : List Txt) : (d.call l).1.dur.length + (d.call l).1.pend.length + 1 ≤ (d.call l).1.calls := by
  have := call_len h l
  rw [(call_calls d l).1]; omega
theorem Dd.V.appendP {d : Dd} (h : d.V) (s b : Txt) : (d.appendP s b).1.V := by
  unfold Dd.appendP
  have hv := h.call [s]
  simp only
  split
  · exact hv
  · split
    · exact hv
    · rename_i hr
      split
      · exact hv
      · refine hv.does ?_ (call_V1 h [s])
        have := hv.room1
        show tot (d.call [s]).1.now + b.length ≤ 1073741824
        have h2 : ¬ (d.call [s]).1.room - tot (d.call [s]).1.now < b.length := fun hx => hr (.inr hx)
        omega
theorem Dd.V.cutP {d : Dd} (h : d.V) (s : Txt) (n : Int) : (d.cutP s n).1.V := by
  unfold Dd.cutP
  have hv := h.call [s]
  simp only
  split
  · exact hv
  · split
    · exact hv
    · split
      · exact hv
      · rename_i hr
        split
        · exact hv
        · refine hv.does ?_ (call_V1 h [s])
          show n.toNat ≤ _
          omega
theorem Dd.V.renameP {d : Dd} (h : d.V) (s t : Txt) : (d.renameP s t).1.V := by
  unfold Dd.renameP
  have hv := h.call [s, t]
  simp only
  split
  · exact hv
  · split
    · exact hv
    · split
      · exact hv
      · exact hv.does trivial (call_V1 h [s, t])
theorem Dd.V.deleteP {d : Dd} (h : d.V) (s : Txt) : (d.deleteP s).1.V := by
  unfold Dd.deleteP
  have hv := h.call [s]
  simp only
  split
  · exact hv
  · split
    · exact hv
    · exact hv.does trivial (call_V1 h [s])
theorem Dd.V.syncP {d : Dd} (h : d.V) : d.syncP.1.V := by
  unfold Dd.syncP
  have hv := h.call []
  simp only
  split
  · exact hv
  · exact ⟨hv.now, trivial, hv.room0, hv.room1, by have := hv.lenN; simp only [List.length_nil]; omega, hv.plan⟩
end Go.Ez
