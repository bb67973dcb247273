/-
  FILES THAT FALL: a disk in memory; made, crashed, called.
-/
import Derived.Test.YtdoopdbfajgnjaaDkA
namespace Go.Ez
open Go Go.Proofs Go.RowKit
set_option linter.unusedSimpArgs false
set_option linter.unusedVariables false
theorem evs_append : ∀ (a b : List Ev) (d : Dd) (f : Bool), evs (a ++ b) d f = evs b (evs a d f).1 (evs a d f).2
  | [], _, _, _ => rfl
  | e :: a, b, d, f => by
    simp only [List.cons_append, evs]
    split
    · exact evs_append a b d f
    · split
      · exact evs_append a b _ f
      · split <;> exact evs_append a b d _
theorem evs_succ {l : List Ev} {i : Nat} {e : Ev} (h : l[i]? = some e) (d : Dd) (f : Bool) : evs (l.take (i + 1)) d f = evs [e] (evs (l.take i) d f).1 (evs (l.take i) d f).2 := by
  rw [List.take_add_one, h, evs_append]; rfl
section
variable {w0 W : World} {G : Nat → Prop} {l R : List As}
theorem St.arr1 {A : As} {l' : List As} (h : St w0 G (A :: l) W) (k : ∀ F w, sepL l F w → sepL l' F w) : St w0 G (A :: l') W := by
  obtain ⟨F, hF, hG⟩ := h.own
  exact { h with own := ⟨F, sepL_mono k hF, hG⟩ }
end
end Go.Ez
namespace Go.Proofs.Ytdoopdbfajgnjaa
open Go Go.Ez Go.RowKit
set_option linter.unusedSimpArgs false
set_option linter.unusedVariables false

/-- v points to a disk, whose plan is the slice ev -/
def DkE (zs : Zs) (d : Dd) (ev : Value) (v : Value) : As := As.ex fun p : Nat × Nat × Nat × Value × List (Chg × Sv) => As.all (v = .pointer (some ⟨p.1, 0, none⟩) ∧ d.V ∧ p.2.2.2.2.map Prod.fst = d.pend ∧ (∀ x ∈ p.2.2.2.2, ChK zs x) ∧ Cel1 p.2.2.2.1 ∧ Cel1 ev)
  [Ky p.1 (Ob (.cells [.int .i64 d.room, .map (some p.2.1), .map (some p.2.2.1), p.2.2.2.1, ev, .int .i64 (d.calls : Int), .bool d.down].toArray 69 (0, 0))), Ky p.2.1 (Mg zs d.now), Ky p.2.2.1 (Mg zs d.dur),
   Ky p.2.2.2.1 (Ow 73 5 p.2.2.2.2.length (rcells chC p.2.2.2.2)), Ky ev (Ow 76 4 d.plan.length (rcells evC d.plan))]
def Dk (zs : Zs) (d : Dd) (v : Value) : As := As.ex fun ev : Value => DkE zs d ev v

section
variable {w0 W : World} {G : Nat → Prop} {l R R1 R2 R3 R4 R5 : List As} {zs zs' : Zs} {d : Dd} {v ev : Value} {RR : Value → World → Prop}
theorem openE' [i : Has l v (DkE zs d ev) R] (h : St w0 G l W) : ∃ (b nb db : Nat) (pv : Value) (ps : List (Chg × Sv)), v = .pointer (some ⟨b, 0, none⟩) ∧ d.V ∧ ps.map Prod.fst = d.pend ∧ (∀ x ∈ ps, ChK zs x) ∧ Cel1 pv ∧ Cel1 ev ∧
    St w0 G (Ky b (Ob (.cells [.int .i64 d.room, .map (some nb), .map (some db), pv, ev, .int .i64 (d.calls : Int), .bool d.down].toArray 69 (0, 0))) :: Ky nb (Mg zs d.now) :: Ky db (Mg zs d.dur) ::
      Ky pv (Ow 73 5 ps.length (rcells chC ps)) :: Ky ev (Ow 76 4 d.plan.length (rcells evC d.plan)) :: R) W := by
  have h1 : St w0 G (DkE zs d ev v :: R) W := h.find (k := v) (X := DkE zs d ev)
  obtain ⟨⟨b, nb, db, pv, ps⟩, h2⟩ := h1.openE
  obtain ⟨⟨h3, h4, h5, h6, h7, h8⟩, h9⟩ := h2.open5
  exact ⟨b, nb, db, pv, ps, h3, h4, h5, h6, h7, h8, h9⟩
theorem openD [i : Has l v (Dk zs d) R] (h : St w0 G l W) : ∃ ev, Cel1 ev ∧ St w0 G (Ky v (DkE zs d ev) :: R) W := by
  have h1 : St w0 G (Dk zs d v :: R) W := h.find (k := v) (X := Dk zs d)
  obtain ⟨ev, h2⟩ := h1.openE
  replace h2 : St w0 G (Ky v (DkE zs d ev) :: R) W := h2
  obtain ⟨_, _, _, _, _, _, _, _, _, _, h8, _⟩ := openE' (v := v) h2
  exact ⟨ev, h8, h2⟩
theorem shutE' {b nb db n1 n2 : Nat} {pv : Value} {ps : List (Chg × Sv)} {cs xs1 xs2 : List Value} {m1 m2 : Fm} [i1 : Has l b (Ob (.cells cs.toArray 69 (0, 0))) R1] [i2 : Has R1 nb (Mg zs m1) R2] [i3 : Has R2 db (Mg zs m2) R3] [i4 : Has R3 pv (Ow 73 5 n1 xs1) R4] [i5 : Has R4 ev (Ow 76 4 n2 xs2) R5]
    (d : Dd) (h : St w0 G l W) (hV : d.V) (hp : ps.map Prod.fst = d.pend) (hk : ∀ x ∈ ps, ChK zs x) (hcs : cs = [.int .i64 d.room, .map (some nb), .map (some db), pv, ev, .int .i64 (d.calls : Int), .bool d.down]) (hm1 : m1 = d.now) (hm2 : m2 = d.dur) (hn1 : n1 = ps.length) (hx1 : xs1 = rcells chC ps) (hn2 : n2 = d.plan.length) (hx2 : xs2 = rcells evC d.plan) :
    St w0 G (Ky (.pointer (some ⟨b, 0, none⟩)) (DkE zs d ev) :: R5) W := by
  subst hcs hm1 hm2 hn1 hx1 hn2 hx2
  have o1 : Cel1 pv := by
    obtain ⟨F, ⟨_, F2, _, h2, _⟩, _⟩ := (h.find (k := b) (X := Ob (.cells [Value.int .i64 d.room, .map (some nb), .map (some db), pv, ev, .int .i64 (d.calls : Int), .bool d.down].toArray 69 (0, 0)))).own
    obtain ⟨_, F4, _, h4, _⟩ := i2.to F2 W h2
    obtain ⟨_, F6, _, h6, _⟩ := i3.to F4 W h4
    obtain ⟨_, F8, h8, _⟩ := i4.to F6 W h6
    exact .of_own (e := 73) (sz := 5) (n := ps.length) (xs := rcells chC ps) h8.2
  have o2 : Cel1 ev := by
    obtain ⟨F, ⟨_, F2, _, h2, _⟩, _⟩ := (h.find (k := b) (X := Ob (.cells [Value.int .i64 d.room, .map (some nb), .map (some db), pv, ev, .int .i64 (d.calls : Int), .bool d.down].toArray 69 (0, 0)))).own
    obtain ⟨_, F4, _, h4, _⟩ := i2.to F2 W h2
    obtain ⟨_, F6, _, h6, _⟩ := i3.to F4 W h4
    obtain ⟨_, F8, _, h8, _⟩ := i4.to F6 W h6
    obtain ⟨_, F10, h10, _⟩ := i5.to F8 W h8
    exact .of_own (e := 76) (sz := 4) (n := d.plan.length) (xs := rcells evC d.plan) h10.2
  refine St.shutE (f := fun p : Nat × Nat × Nat × Value × List (Chg × Sv) => As.all (Value.pointer (some ⟨b, 0, none⟩) = Value.pointer (some ⟨p.1, 0, none⟩) ∧ d.V ∧ p.2.2.2.2.map Prod.fst = d.pend ∧ (∀ x ∈ p.2.2.2.2, ChK zs x) ∧ Cel1 p.2.2.2.1 ∧ Cel1 ev)
  [Ky p.1 (Ob (.cells [.int .i64 d.room, .map (some p.2.1), .map (some p.2.2.1), p.2.2.2.1, ev, .int .i64 (d.calls : Int), .bool d.down].toArray 69 (0, 0))), Ky p.2.1 (Mg zs d.now), Ky p.2.2.1 (Mg zs d.dur),
   Ky p.2.2.2.1 (Ow 73 5 p.2.2.2.2.length (rcells chC p.2.2.2.2)), Ky ev (Ow 76 4 d.plan.length (rcells evC d.plan))]) (b, nb, db, pv, ps) (St.shut5 ⟨rfl, hV, hp, hk, o1, o2⟩ ?_)
  obtain ⟨F, hF, hG⟩ := h.own
  exact { h with own := ⟨F, sepL_mono (fun F w h => sepL_mono (fun F w h => sepL_mono (fun F w h => sepL_mono i5.to (i4.to F w h)) (i3.to F w h)) (i2.to F w h)) (i1.to F W hF), hG⟩ }
theorem shutD [i : Has l v (DkE zs d ev) R] (h : St w0 G l W) : St w0 G (Ky v (Dk zs d) :: R) W := St.shutE ev (h.find (k := v) (X := DkE zs d ev))
theorem upE [i : Has l v (DkE zs d ev) R] (h : St w0 G l W) (hz : ∀ z ∈ zs, z ∈ zs') : St w0 G (Ky v (DkE zs' d ev) :: R) W := by
  obtain ⟨b, nb, db, pv, ps, rfl, hV, hp, hk, o1, o2, h⟩ := openE' (v := v) h
  replace h := h.upG (b := nb) hz
  replace h := h.upG (b := db) hz
  exact shutE' (b := b) (nb := nb) (db := db) (pv := pv) (ev := ev) d h hV hp (fun x hx => (hk x hx).sub hz) rfl rfl rfl rfl rfl rfl rfl
theorem upD [i : Has l v (Dk zs d) R] (h : St w0 G l W) (hz : ∀ z ∈ zs, z ∈ zs') : St w0 G (Ky v (Dk zs' d) :: R) W := by
  obtain ⟨ev, o, h⟩ := openD (v := v) h
  exact shutD (v := v) (upE (v := v) h hz)
theorem dkV [i : Has l v (Dk zs d) R] (h : St w0 G l W) : d.V ∧ ∃ b, v = .pointer (some ⟨b, 0, none⟩) := by
  obtain ⟨ev, o, h⟩ := openD (v := v) h
  obtain ⟨b, nb, db, pv, ps, rfl, hV, _⟩ := openE' (v := v) h
  exact ⟨hV, b, rfl⟩
theorem has2 {κ κ' : Type} {k : κ} {k' : κ'} {X : κ → As} {Y : κ' → As} [i : Has l k X R1] [j : Has R1 k' Y R] (h : St w0 G l W) : St w0 G (Ky k X :: Ky k' Y :: R) W := by
  obtain ⟨F, hF, hG⟩ := h.own
  exact { h with own := ⟨F, sepL_mono j.to (i.to F W hF), hG⟩ }

/-- fits -/
theorem fits_spec {n : Int} (k : RR (.bool (decide (0 ≤ n ∧ n ≤ 1073741824))) W) : CallF Try.prog 35 #[.int .i64 n] W RR := by
  refine sh35_calls ?_
  unfold sh35
  refine a_geq (ifd (fun h0 => a_leq ?_) fun h0 => ?_)
  · have : decide (n ≤ 1073741824) = decide (0 ≤ n ∧ n ≤ 1073741824) := decide_eq_decide.2 ⟨fun h => ⟨h0, h⟩, fun h => h.2⟩
    rw [this]; exact k
  · rw [decide_eq_false (by omega)] at k; exact k
/-- New -/
theorem newd_spec {n : Int} (zs : Zs) (h : St w0 G l W) (k0 : ¬ (0 ≤ n ∧ n ≤ 1073741824) → RR (.tuple #[.pointer none, .int .i64 1]) W)
    (k1 : 0 ≤ n → n ≤ 1073741824 → ∀ b W', St w0 G (Ky (.pointer (some ⟨b, 0, none⟩) : Value) (Dk zs (newD n)) :: l) W' → RR (.tuple #[.pointer (some ⟨b, 0, none⟩), .int .i64 0]) W') : CallF Try.prog 10 #[.int .i64 n] W RR := by
  refine sh10_calls ?_
  unfold sh10
  refine fits_spec ?_
  refine a_notd (ifd (fun hc => k0 hc) fun hc => ?_)
  have hc' : 0 ≤ n ∧ n ≤ 1073741824 := by omega
  refine h.mapNew zs fun nb W h => ?_
  refine h.mapNew zs fun db W h => ?_
  refine x_bld (cells := #[.int .i64 n, .map (some nb), .map (some db), .slice none 0 0, .slice none 0 0, .int .i64 0, .bool false]) rfl ?_
  refine St.boxS (cs := [.int .i64 n, .map (some nb), .map (some db), .slice none 0 0, .slice none 0 0, .int .i64 0, .bool false]) h fun b W h => ?_
  refine k1 hc'.1 hc'.2 b W ?_
  have h1 : St w0 G (Ky (.slice none 0 0 : Value) (Ow 76 4 0 []) :: _) W := h.nilOw
  have h2 : St w0 G (Ky (.slice none 0 0 : Value) (Ow 73 5 0 []) :: _) W := h1.nilOw
  have h3 := shutE' (b := b) (nb := nb) (db := db) (pv := .slice none 0 0) (ev := .slice none 0 0) (ps := []) (zs := zs) (newD n) h2 (newD_V hc'.1 hc'.2) rfl (by simp) rfl rfl rfl rfl rfl rfl rfl
  exact shutD (v := .pointer (some ⟨b, 0, none⟩)) h3
end
end Go.Proofs.Ytdoopdbfajgnjaa
