/-
  VERSIONS: in whatever order: VersOrder: plainly, and the walk.
-/
import Derived.Test.YtffnabbchghokaaVerT
namespace Go.Ez
open Go
theorem mod2 {x n : Nat} (h : x < 2 * n) : x % n = if x < n then x else x - n := by
  split
  · rename_i h1; exact Nat.mod_eq_of_lt h1
  · rename_i h1
    rw [Nat.mod_eq_sub_mod (by omega)]
    exact Nat.mod_eq_of_lt (by omega)
end Go.Ez
namespace Go.Proofs.Ytffnabbchghokaa
open Go Go.Ez Go.RowKit
set_option linter.unusedSimpArgs false
set_option linter.unusedVariables false

/-- what an operation puts -/
def VOp.ver (o : VOp) : Ver Txt := if o.kind = 0 then (o.at_, o.v, false) else (o.at_, [], true)
/-- may it be put? -/
def VOp.ok (o : VOp) : Prop := 1 ≤ o.at_ ∧ o.at_ ≤ 1099511627776
/-- the rows of operations of unlike keys -/
def Sto (Q : VOp → Prop) (rows : VRows Txt) : Prop := Srt rows ∧ ∀ k c, getK k rows = some c ↔ ∃ o, Q o ∧ o.key = k ∧ o.ok ∧ c = [o.ver]
theorem Sto.nil {Q : VOp → Prop} (h : ∀ o, ¬ Q o) : Sto Q [] := ⟨List.Pairwise.nil, fun k c => ⟨fun h => (by cases h), fun ⟨o, ho, _⟩ => absurd ho (h o)⟩⟩
theorem Sto.put {Q Q' : VOp → Prop} {rows : VRows Txt} (h : Sto Q rows) {o : VOp} (hk : o.kind = 0 ∨ o.kind = 1) (hn : ∀ x, Q x → x.key ≠ o.key) (hQ : ∀ x, Q' x ↔ Q x ∨ x = o) : Sto Q' (putR rows 0 o) := by
  have e : putR rows 0 o = (addR rows 0 o.key o.ver).2 := by
    unfold putR VOp.ver
    rcases hk with hk | hk
    · rw [if_pos hk, if_pos hk]
    · rw [if_neg (by omega), if_pos hk, if_neg (by omega)]
  have hat : o.ver.1 = o.at_ := by unfold VOp.ver; split <;> rfl
  have hc : getK o.key rows = none := by
    cases hg : getK o.key rows with
    | none => rfl
    | some c =>
      obtain ⟨x, hx, hxk, _⟩ := (h.2 _ _).1 hg
      exact absurd hxk (hn x hx)
  rw [e]
  by_cases hok : o.ok
  · have e2 : (addR rows 0 o.key o.ver).2 = putK o.key [o.ver] rows := by
      have hch : chainR rows o.key = [] := by unfold chainR; rw [hc]; rfl
      unfold addR
      obtain ⟨h1, h2⟩ := hok
      rw [hch, if_neg (by rw [hat]; omega), if_neg (by rw [hat]; show ¬ (o.at_ ≤ 0 ∨ o.at_ < 0); omega)]
      rfl
    rw [e2]
    refine ⟨srt_put h.1, fun k c => ?_⟩
    rw [get_put h.1]
    split
    · rename_i hk
      subst hk
      constructor
      · intro hx
        cases hx
        exact ⟨o, (hQ o).2 (.inr rfl), rfl, hok, rfl⟩
      · rintro ⟨x, hx, hxk, hxo, rfl⟩
        rcases (hQ x).1 hx with hx | rfl
        · exact absurd hxk (hn x hx)
        · rfl
    · rename_i hk
      rw [h.2]
      constructor
      · rintro ⟨x, hx, r⟩
        exact ⟨x, (hQ x).2 (.inl hx), r⟩
      · rintro ⟨x, hx, hxk, r⟩
        rcases (hQ x).1 hx with hx | rfl
        · exact ⟨x, hx, hxk, r⟩
        · exact absurd hxk.symm hk
  · have e2 : (addR rows 0 o.key o.ver).2 = rows := by
      unfold addR
      have : o.ver.1 < 1 ∨ o.ver.1 > 1099511627776 := by
        rw [hat]
        unfold VOp.ok at hok
        omega
      rw [if_pos this]
    rw [e2]
    refine ⟨h.1, fun k c => ?_⟩
    rw [h.2]
    constructor
    · rintro ⟨x, hx, r⟩
      exact ⟨x, (hQ x).2 (.inl hx), r⟩
    · rintro ⟨x, hx, hxk, hxo, r⟩
      rcases (hQ x).1 hx with hx | rfl
      · exact ⟨x, hx, hxk, hxo, r⟩
      · exact absurd hxo hok
theorem Sto.ext {Q Q' : VOp → Prop} {rows rows' : VRows Txt} (h : Sto Q rows) (h' : Sto Q' rows') (hQ : ∀ o, Q o ↔ Q' o) : rows = rows' := by
  refine srt_ext h.1 h'.1 fun k => Option.ext fun c => ?_
  rw [h.2, h'.2]
  exact ⟨fun ⟨o, ho, r⟩ => ⟨o, (hQ o).1 ho, r⟩, fun ⟨o, ho, r⟩ => ⟨o, (hQ o).2 ho, r⟩⟩
theorem Sto.chain {Q : VOp → Prop} {rows : VRows Txt} (h : Sto Q rows) (k : Txt) : (chainR rows k).length ≤ 1 := by
  unfold chainR
  cases hg : getK k rows with
  | none => exact Nat.zero_le _
  | some c =>
    obtain ⟨o, _, _, _, rfl⟩ := (h.2 _ _).1 hg
    exact Nat.le_refl _

section
variable {w0 W W' : World} {l R : List As} {ra rb : VRows Txt} {va vb : Value} {RR : Value → World → Prop} {L : List As}
/-- two stores -/
def Vs2 (w0 : World) (va : Value) (ra : VRows Txt) (vb : Value) (rb : VRows Txt) (L : List As) (W : World) : Prop := ∃ kp rs, Invs kp rs ∧ rwvs rs = rb ∧ VsI w0 va ra 0 (Ky vb (Vsvs rs 0) :: Ky PoolK.b (Plvs kp) :: L) W
theorem Vs2.symm (h : Vs2 w0 va ra vb rb L W) : Vs2 w0 vb rb va ra L W := by
  obtain ⟨kpb, rsb, h1, h2, kpa, rsa, h3, h4, h⟩ := h
  have h' : St w0 G0 (Ky vb (Vsvs rsb 0) :: Ky PoolK.b (Plvs kpb) :: Ky va (Vsvs rsa 0) :: Ky PoolK.a (Plvs kpa) :: L) W := h.to
  exact ⟨kpa, rsa, h3, h4, kpb, rsb, h1, h2, h'⟩
theorem Vs2.low (h : Vs2 w0 va ra vb rb L W) : Below w0.heap.size w0 W := by
  obtain ⟨_, _, _, _, h⟩ := h
  exact h.low'
theorem Vs2.ext (h : Vs2 w0 va ra vb rb L W) (hb : Below W.heap.size W W') : Vs2 w0 va ra vb rb L W' := by
  obtain ⟨kp, rs, h1, h2, h⟩ := h
  exact ⟨kp, rs, h1, h2, h.ext hb⟩
theorem Vs2.sl {v' : Value} {e : TypeId} {sz n : Nat} {cs : List Value} {L' : List As} [i : Has L v' (Ow e sz n cs) L'] (h : Vs2 w0 va ra vb rb L W) : Sl W sz v' n cs := by
  obtain ⟨kp, rs, h1, h2, h⟩ := h
  exact h.sl (v' := v')
theorem Vs2.put_spec {n : Nat} {o : VOp} (h : Vs2 w0 va ra vb rb L W) (hb : Bd n ra) (hn : n ≤ 500000) (k : ∀ W', Vs2 w0 va (putR ra 0 o) vb rb L W' → RR (.tuple #[]) W') : CallF Try.prog 22 #[va, .agg (VOp.cells o).toArray] W RR := by
  obtain ⟨kp, rs, h1, h2, h⟩ := h
  exact h.put_spec hb hn fun W' h => k W' ⟨kp, rs, h1, h2, h⟩
theorem Vs2.one {P : Prop} (h : Vs2 w0 va ra vb rb L W) (k : ∀ L', VsI w0 va ra 0 L' W → (∀ W', VsI w0 va ra 0 L' W' → Vs2 w0 va ra vb rb L W') → P) : P := by
  obtain ⟨kp, rs, h1, h2, h⟩ := h
  exact k _ h fun W' h => ⟨kp, rs, h1, h2, h⟩

theorem Vs2.frame {A : As} (h : Vs2 w0 va ra vb rb L W) (h' : St W G0 [A] W') : Vs2 w0 va ra vb rb (A :: L) W' := by
  obtain ⟨kp, rs, h1, h2, kp2, rs2, h3, h4, h⟩ := h
  have h5 : St w0 G0 ([] ++ A :: (Ky va (Vsvs rs2 0) :: Ky PoolK.a (Plvs kp2) :: Ky vb (Vsvs rs 0) :: Ky PoolK.b (Plvs kp) :: L)) W' := h.frame1 h'
  exact ⟨kp, rs, h1, h2, kp2, rs2, h3, h4, (St.behind (L := [Ky va (Vsvs rs2 0), Ky PoolK.a (Plvs kp2), Ky vb (Vsvs rs 0), Ky PoolK.b (Plvs kp)]) h5)⟩
theorem Vs2.to {L' : List As} [i : Arr L L'] (h : Vs2 w0 va ra vb rb L W) : Vs2 w0 va ra vb rb L' W := by
  obtain ⟨kp, rs, h1, h2, kp2, rs2, h3, h4, h⟩ := h
  exact ⟨kp, rs, h1, h2, kp2, rs2, h3, h4, h.to⟩
theorem Vs2.z (h : Vs2 w0 va ra vb rb L W) : ∃ rs, rwvs rs = ra ∧ VsZvs rs 0 W va := by
  obtain ⟨kp, rs, h1, h2, h⟩ := h
  exact h.z
theorem scanTake_spec {rs : Rsvs} {low : Int} {v : Value} {n : Nat} {lo hi : Txt} {t q : Int} (hz : VsZvs rs low W v) (hb : Bd n (rwvs rs)) (hn : n ≤ 500000)
    (k : ∀ v' W', Cel1 v' → St W G0 [Ky v' (Ow 50 2 ((scanR (rwvs rs) lo hi t).take q.toNat).length (pcells ((scanR (rwvs rs) lo hi t).take q.toNat)))] W' → RR v' W') :
    CallF Try.prog 25 #[v, strV lo, strV hi, .int .i64 t] W fun f w => CallF Try.prog 24 #[f, .int .i64 q] w RR := by
  refine scan_specZ hz hb (by omega) (St.start W) fun f A W1 hI of h1 => ?_
  have hsl := scanR_len (rows := rwvs rs) lo hi t
  have := hb.1
  refine vpairs_spec hI h1 (by omega) fun v' W2 o h2 => ?_
  exact k v' W2 o h2.to
theorem putR_bd0 {rows : VRows Txt} {n : Nat} (h : Bd n rows) (o : VOp) : Bd (n + 1) (putR rows 0 o) := putR_bd h 0 o

/-- hbllaw11.VersOrder -/
theorem order_spec {Wz : World} {a : List VOp} {av : Value} {na : Nat} {turn t : Int} (ha : Sl Wz 5 av na (vopsC a)) (hna : na = a.length) (ht1 : turn ≤ 9223372036854775807) (k : ∀ W', Below Wz.heap.size Wz W' → RR (.bool true) W') :
    CallF Try.prog 6 #[av, .int .i64 turn, .int .i64 t] Wz RR := by
  refine sh6_calls ?_
  unfold sh6
  subst hna
  refine vfirst_spec fun W1 hb1 => ?_
  refine a_not (iff' ?_)
  refine vnewvs_spec ((St.start Wz).ext hb1) fun va W2 h _ => ?_
  refine vnewvs_spec h fun vb W3 h _ => ?_
  obtain ⟨b1, mv1, hva, _⟩ := h.openVvs (v := va)
  obtain ⟨b2, mv2, hvb, _⟩ := h.openVvs (v := vb)
  refine jni (fun vs W' => ∃ q, vs = [av, .int .i64 turn, .int .i64 t, va, vb, .bool q] ∧ (q = false → a.length ≤ 100 ∧ 0 ≤ turn) ∧ St Wz G0 [Ky vb (Vsvs [] 0), Ky va (Vsvs [] 0)] W') ?_ ?_
  · rintro vs W4 _ ⟨q, rfl, hq, h⟩
    refine app6 ?_
    refine ifb (fun _ => ?_) fun hf => ?_
    · rw [hva, hvb]
      refine x_nilPn (ift (x_nilPn (ift ?_)))
      exact vfirst_spec fun W5 hb5 => k W5 (h.ext hb5).low
    obtain ⟨hal, ht0⟩ := hq hf
    have h0 : St Wz G0 [Ky (.slice none 0 0 : Value) (Ow 40 5 0 (vopsC [])), Ky vb (Vsvs [] 0), Ky va (Vsvs [] 0)] W4 := h.nilOw
    refine lpx (α := Value × Nat) (fun x => [x.1, nV .i64 x.2]) (fun x W' => x.2 ≤ a.length ∧ Cel1 x.1 ∧ ∃ os : List VOp, os.length ≤ x.2 ∧ os.Pairwise (fun p q => p.key ≠ q.key) ∧ (∀ o ∈ os, o.kind = 0 ∨ o.kind = 1) ∧ St Wz G0 [Ky x.1 (Ow 40 5 os.length (vopsC os)), Ky vb (Vsvs [] 0), Ky va (Vsvs [] 0)] W') (fun x => a.length - x.2) (.slice none 0 0, 0) (fun _ => rfl) rfl ⟨Nat.zero_le _, ⟨rfl⟩, [], Nat.le_refl _, List.Pairwise.nil, (fun o ho => by cases ho), h0⟩ ?_
    clear h h0
    rintro next ⟨sl, i⟩ W5 hnext ⟨hi, osl, os, hol, hpw, hkd, h⟩
    simp only at hi osl hol hpw hkd h ⊢
    refine app2 ?_
    have ha5 := ha.below h.low
    refine x_lenS ha5 ?_
    refine a_lss (ifd (fun hc => ?_) fun hc => ?_)
    · obtain ⟨o, ho⟩ : ∃ d, a[i]? = some d := ⟨_, List.getElem?_eq_getElem (by omega)⟩
      refine x_idx ha5 (by omega) fun bb oo hcell => ?_
      refine x_lds (cs := VOp.cells o) rfl (fun j u hu => hcell j u (List.getElem?_eq_some_iff.1 hu).1 ((vops_get ho (List.getElem?_eq_some_iff.1 hu).1).trans hu)) ?_
      refine h.allocS fun bo W h => ?_
      refine h.storeS (cs' := [.int .i64 o.kind, .int .i64 o.at_, strV o.key, strV o.v, strV o.hi]) fun W h => ?_
      have hsame : St Wz G0 (Ky bo (Ob (.cells [.int .i64 o.kind, .int .i64 o.at_, strV o.key, strV o.v, strV o.hi].toArray 40 (0, 0))) :: [Ky sl (Ow 40 5 os.length (vopsC os)), Ky vb (Vsvs [] 0), Ky va (Vsvs [] 0)]) W := h
      refine lpx (α := Bool × Nat) (fun x => [.bool x.1, nV .i64 x.2]) (fun x W' => x.2 ≤ os.length ∧ (x.1 = true ↔ ∃ y ∈ os.take x.2, y.key = o.key) ∧ St Wz G0 (Ky bo (Ob (.cells [.int .i64 o.kind, .int .i64 o.at_, strV o.key, strV o.v, strV o.hi].toArray 40 (0, 0))) :: [Ky sl (Ow 40 5 os.length (vopsC os)), Ky vb (Vsvs [] 0), Ky va (Vsvs [] 0)]) W') (fun x => os.length - x.2) (false, 0) (fun _ => rfl) rfl ⟨Nat.zero_le _, by simp, hsame⟩ ?_
      clear h hsame
      rintro next2 ⟨has, q⟩ W6 hnext2 ⟨hq, hhas, h⟩
      simp only at hq hhas h ⊢
      refine app2 ?_
      refine x_lenS (h.osl (v := sl)) ?_
      refine a_lss (ifd (fun hc2 => ?_) fun hc2 => ?_)
      · obtain ⟨y, hy⟩ : ∃ d, os[q]? = some d := ⟨_, List.getElem?_eq_getElem (by omega)⟩
        replace h := h.drew
        refine jni (fun vs W' => ∃ b, vs = [av, .int .i64 turn, .int .i64 t, va, vb, sl, nV .i64 i, .pointer (some ⟨bo, 0, none⟩), .bool b, nV .i64 q] ∧ (b = true ↔ ∃ y ∈ os.take (q + 1), y.key = o.key) ∧ W' = W6.drew) ?_ ?_
        · rintro vs W7 _ ⟨b, rfl, hb, rfl⟩
          refine app10 ?_
          refine a_add64 (by omega) (by omega) ⟨rfl, rfl, rfl, rfl, rfl, rfl, rfl, rfl, ?_⟩
          rw [show ((q : Int) + 1) = ((q + 1 : Nat) : Int) by push_cast; rfl]
          exact hnext2 (b, q + 1) _ (by show os.length - (q + 1) < os.length - q; omega) ⟨by show q + 1 ≤ _; omega, hb, h⟩
        have htk : os.take (q + 1) = os.take q ++ [y] := by rw [List.take_add_one, hy]; rfl
        refine ⟨fun W' => W' = W6.drew, rfl, ?_⟩
        refine ifb (fun hb => ?_) fun hb => ?_
        · refine ⟨true, rfl, ⟨fun _ => ?_, fun _ => rfl⟩, rfl⟩
          obtain ⟨z, hz, hzk⟩ := hhas.1 hb
          exact ⟨z, by rw [htk]; exact List.mem_append_left _ hz, hzk⟩
        · refine x_sfld (h.osl (v := sl)) (fun _ e => by subst e; exact h.osl (v := sl)) (by omega) (by decide) ((vops_get hy (j := 2) (by decide)).trans rfl) ?_
          refine a_fld0 ?_
          refine s_ld (t := 40) (cs := [.int .i64 o.kind, .int .i64 o.at_, strV o.key, strV o.v, strV o.hi]) (fun w e => by subst e; exact h.rc) rfl ?_
          refine s_eqlL ?_
          refine ⟨_, rfl, ?_, rfl⟩
          rw [htk]
          constructor
          · intro hd
            exact ⟨y, by simp, of_decide_eq_true hd⟩
          · rintro ⟨z, hz, hzk⟩
            rcases List.mem_append.1 hz with hz | hz
            · have := hhas.2 ⟨z, hz, hzk⟩
              rw [hb] at this; cases this
            · obtain rfl : z = y := by simpa using hz
              exact decide_eq_true hzk
      · have hqe : q = os.length := by omega
        subst hqe
        rw [List.take_length] at hhas
        refine jni (fun vs W' => ∃ sl' os', vs = [av, .int .i64 turn, .int .i64 t, va, vb, sl', nV .i64 i] ∧ Cel1 sl' ∧ os'.length ≤ i + 1 ∧ os'.Pairwise (fun p q => p.key ≠ q.key) ∧ (∀ o ∈ os', o.kind = 0 ∨ o.kind = 1) ∧ St Wz G0 [Ky sl' (Ow 40 5 os'.length (vopsC os')), Ky vb (Vsvs [] 0), Ky va (Vsvs [] 0)] W') ?_ ?_
        · rintro vs W7 _ ⟨sl', os', rfl, o', h1, h2, h3, h⟩
          refine app7 ?_
          refine a_add64 (by omega) (by omega) ⟨rfl, rfl, rfl, rfl, rfl, ?_⟩
          rw [show ((i : Int) + 1) = ((i + 1 : Nat) : Int) by push_cast; rfl]
          exact hnext (sl', i + 1) _ (by show a.length - (i + 1) < a.length - i; omega) ⟨by show i + 1 ≤ _; omega, o', os', h1, h2, h3, h⟩
        have same : ∃ sl' os', [av, (.int .i64 turn : Value), .int .i64 t, va, vb, sl, nV .i64 i] = [av, .int .i64 turn, .int .i64 t, va, vb, sl', nV .i64 i] ∧ Cel1 sl' ∧ os'.length ≤ i + 1 ∧ os'.Pairwise (fun p q : VOp => p.key ≠ q.key) ∧ (∀ o ∈ os', o.kind = 0 ∨ o.kind = 1) ∧ St Wz G0 [Ky sl' (Ow 40 5 os'.length (vopsC os')), Ky vb (Vsvs [] 0), Ky va (Vsvs [] 0)] W6 := ⟨sl, os, rfl, osl, by omega, hpw, hkd, h.to⟩
        refine a_not (ifnb (fun hno => ?_) fun _ => same)
        refine a_fld0 (h.load ?_)
        refine a_lss (ifd (fun hk1 => ?_) fun _ => same)
        refine a_fld0 (h.load ?_)
        refine a_geq (ifd (fun hk2 => ?_) fun _ => same)
        refine h.loadS ?_
        refine h.lit (vs := [.agg [.int .i64 o.kind, .int .i64 o.at_, strV o.key, strV o.v, strV o.hi].toArray]) (cs := [.int .i64 o.kind, .int .i64 o.at_, strV o.key, strV o.v, strV o.hi]) (fun u W7 o2 h => ?_) (by decide)
        refine St.app (v := sl) h (h.osl (v := u)) (by simp [Value.oneCell']) (by unfold maxLen; omega) (by omega) fun sl' W8 o3 h _ => ?_
        have e : vopsC os ++ [.int .i64 o.kind, .int .i64 o.at_, strV o.key, strV o.v, strV o.hi] = vopsC (os ++ [o]) := by
          show _ = rcells VOp.cells (os ++ [o])
          rw [rc_append, rc_single]; rfl
        rw [e] at h
        refine ⟨sl', os ++ [o], rfl, o3, by simp; omega, ?_, ?_, ?_⟩
        · refine List.pairwise_append.2 ⟨hpw, List.pairwise_singleton _ _, fun x hx y hy => ?_⟩
          obtain rfl : y = o := by simpa using hy
          intro hxy
          have := hhas.2 ⟨x, hx, hxy⟩
          rw [hno] at this; cases this
        · intro x hx
          rcases List.mem_append.1 hx with hx | hx
          · exact hkd x hx
          · obtain rfl : x = o := by simpa using hx
            omega
        · rw [List.length_append]
          exact h.to
    · -- both stores filled
      have hol' : os.length ≤ 100 := by omega
      have h2 : Vs2 Wz va [] vb [] [Ky sl (Ow 40 5 os.length (vopsC os))] W5 :=
        ⟨[], [], (fun r hr => by cases hr), rfl, [], [], (fun r hr => by cases hr), rfl, ((h.kqNil PoolK.a verCvs 58 3).kqNil PoolK.b verCvs 58 3).to⟩
      clear h
      obtain ⟨T, rfl⟩ : ∃ T : Nat, turn = (T : Int) := ⟨turn.toNat, by omega⟩
      have hkey : ∀ {i j : Nat} {x y : VOp}, os[i]? = some x → os[j]? = some y → i ≠ j → x.key ≠ y.key := by
        intro i j x y hi hj hij
        have h1 := List.getElem?_eq_some_iff.1 hi
        have h2 := List.getElem?_eq_some_iff.1 hj
        rcases Nat.lt_or_gt_of_ne hij with hlt | hlt
        · have := List.pairwise_iff_getElem.1 hpw i j h1.1 h2.1 hlt
          rw [h1.2, h2.2] at this; exact this
        · have := List.pairwise_iff_getElem.1 hpw j i h2.1 h1.1 hlt
          rw [h1.2, h2.2] at this; exact fun e => this e.symm
      let Pa : Nat → VOp → Prop := fun i o => ∃ j, j < i ∧ os[j]? = some o
      let Pb : Nat → VOp → Prop := fun i o => ∃ j, j < i ∧ os[(j + T % os.length) % os.length]? = some o
      refine lpx (α := Nat) (fun i => [nV .i64 i]) (fun i W' => i ≤ os.length ∧ ∃ ra rb, Sto (Pa i) ra ∧ Sto (Pb i) rb ∧ Bd i ra ∧ Bd i rb ∧ Vs2 Wz va ra vb rb [Ky sl (Ow 40 5 os.length (vopsC os))] W') (fun i => os.length - i) 0 (fun _ => rfl) rfl
        ⟨Nat.zero_le _, [], [], Sto.nil (fun o ⟨j, hj, _⟩ => by omega), Sto.nil (fun o ⟨j, hj, _⟩ => by omega), ⟨Nat.le_refl _, fun r hr => by cases hr⟩, ⟨Nat.le_refl _, fun r hr => by cases hr⟩, h2⟩ ?_
      clear h2
      rintro next3 i W6 hnext3 ⟨hi, ra, rb, hsa, hsb, hba, hbb, h⟩
      refine app1 ?_
      refine x_lenS (h.sl (v' := sl)) ?_
      refine a_lss (ifd (fun hc3 => ?_) fun hc3 => ?_)
      · have hn0 : 0 < os.length := by omega
        have hrlt : T % os.length < os.length := Nat.mod_lt _ hn0
        have hm2 := mod2 (x := i + T % os.length) (n := os.length) (by omega)
        obtain ⟨o, ho⟩ : ∃ d, os[i]? = some d := ⟨_, List.getElem?_eq_getElem (by omega)⟩
        obtain ⟨o2, ho2⟩ : ∃ d, os[(i + T % os.length) % os.length]? = some d := ⟨_, List.getElem?_eq_getElem (Nat.mod_lt _ hn0)⟩
        refine x_idx (h.sl (v' := sl)) (by omega) fun bb oo hcell => ?_
        refine x_lds (cs := VOp.cells o) rfl (fun j u hu => hcell j u (List.getElem?_eq_some_iff.1 hu).1 ((vops_get ho (List.getElem?_eq_some_iff.1 hu).1).trans hu)) ?_
        refine h.put_spec hba (by omega) fun W7 h => ?_
        refine x_lenS (h.sl (v' := sl)) ?_
        refine a_rem64 (by omega) (by omega) ?_
        rw [← Int.natCast_emod]
        refine a_add64 (by omega) (by omega) ?_
        refine x_lenS (h.sl (v' := sl)) ?_
        refine a_rem64 (by omega) (by omega) ?_
        rw [← Int.natCast_add, ← Int.natCast_emod]
        refine x_idx (h.sl (v' := sl)) (Nat.mod_lt _ hn0) fun bb oo hcell => ?_
        refine x_lds (cs := VOp.cells o2) rfl (fun j u hu => hcell j u (List.getElem?_eq_some_iff.1 hu).1 ((vops_get ho2 (List.getElem?_eq_some_iff.1 hu).1).trans hu)) ?_
        refine h.symm.put_spec hbb (by omega) fun W8 h => ?_
        replace h := h.symm
        refine a_add64 (by omega) (by omega) ⟨trivial, trivial, trivial, trivial, trivial, ?_⟩
        rw [show ((i : Int) + 1) = ((i + 1 : Nat) : Int) by push_cast; rfl]
        have step : ∀ {f : Nat → Nat} {x : VOp}, os[f i]? = some x → ∀ y, (∃ j, j < i + 1 ∧ os[f j]? = some y) ↔ (∃ j, j < i ∧ os[f j]? = some y) ∨ y = x := by
          intro f x hx y
          constructor
          · rintro ⟨j, hj, hy⟩
            by_cases hji : j = i
            · subst hji; rw [hx] at hy; cases hy; exact .inr rfl
            · exact .inl ⟨j, by omega, hy⟩
          · rintro (⟨j, hj, hy⟩ | rfl)
            · exact ⟨j, by omega, hy⟩
            · exact ⟨i, by omega, hx⟩
        refine hnext3 (i + 1) W8 (by omega) ⟨by omega, _, _, hsa.put (hkd o (List.mem_of_getElem? ho)) ?_ (step (f := fun j => j) ho), hsb.put (hkd o2 (List.mem_of_getElem? ho2)) ?_ (step (f := fun j => (j + T % os.length) % os.length) ho2), putR_bd0 hba o, putR_bd0 hbb o2, h⟩
        · rintro x ⟨j, hj, hx⟩
          exact hkey hx ho (by omega)
        · rintro x ⟨j, hj, hx⟩
          refine hkey hx ho2 ?_
          have hm1 := mod2 (x := j + T % os.length) (n := os.length) (by omega)
          rw [hm1, hm2]
          split <;> split <;> omega
      · obtain rfl : i = os.length := by omega
        have hab : ra = rb := hsa.ext hsb fun o => by
          constructor
          · rintro ⟨m, hm, ho⟩
            have hn0 : 0 < os.length := by omega
            have hrlt : T % os.length < os.length := Nat.mod_lt _ hn0
            by_cases hge : T % os.length ≤ m
            · refine ⟨m - T % os.length, by omega, ?_⟩
              rw [Nat.sub_add_cancel hge, Nat.mod_eq_of_lt hm]; exact ho
            · refine ⟨m + os.length - T % os.length, by omega, ?_⟩
              rw [Nat.sub_add_cancel (by omega), Nat.add_mod_right, Nat.mod_eq_of_lt hm]; exact ho
          · rintro ⟨j, hj, ho⟩
            exact ⟨_, Nat.mod_lt _ (by omega), ho⟩
        subst hab
        replace hba : Bd 100 ra := hba.mono hol'
        refine h.one fun L' hV back => hV.count_spec hba (by decide) fun W7 hV => ?_
        replace h := back _ hV
        refine h.symm.one fun L' hV back => hV.count_spec hba (by decide) fun W8 hV => ?_
        replace h := (back _ hV).symm
        refine w_neq (ifd_neg (fun h => h rfl) ?_)
        obtain ⟨rsa, hra, hz⟩ := h.z
        refine scanTake_spec hz (by rw [hra]; exact hba) (by decide) fun p1 W9 _ h1 => ?_
        rw [hra] at h1
        replace h := h.frame h1
        obtain ⟨rsb, hrb, hz⟩ := h.symm.z
        refine scanTake_spec hz (by rw [hrb]; exact hba) (by decide) fun p2 W10 _ h1 => ?_
        rw [hrb] at h1
        replace h := h.frame h1
        refine pairsEq_spec (h.sl (v' := p1)) (h.sl (v' := p2)) rfl rfl (by rw [List.length_take]; have := scanR_len (rows := ra) [] [] t; have := hba.1; omega) fun W11 hb11 => ?_
        rw [decide_eq_true rfl]
        replace h : Vs2 Wz va ra vb ra [Ky sl (Ow 40 5 os.length (vopsC os))] W11 := (h.ext hb11).to
        refine a_not (iff' ?_)
        refine lpx (α := Nat) (fun i => [nV .i64 i]) (fun i W' => i ≤ os.length ∧ Vs2 Wz va ra vb ra [Ky sl (Ow 40 5 os.length (vopsC os))] W') (fun i => os.length - i) 0 (fun _ => rfl) rfl ⟨Nat.zero_le _, h⟩ ?_
        clear h
        rintro next4 q W12 hnext4 ⟨hq, h⟩
        refine app1 ?_
        refine x_lenS (h.sl (v' := sl)) ?_
        refine a_lss (ifd (fun hc4 => ?_) fun hc4 => ?_)
        · obtain ⟨o, ho⟩ : ∃ d, os[q]? = some d := ⟨_, List.getElem?_eq_getElem (by omega)⟩
          have gk := (vops_get ho (j := 2) (by decide)).trans (show (VOp.cells o)[2]? = some (strV o.key) from rfl)
          refine x_fld (h.sl (v' := sl)) (by omega) (by decide) gk ?_
          obtain ⟨rsa, hra, hz⟩ := h.z
          refine vchainvs_spec (key := o.key) hz (by rw [hra]; exact hba) (by decide) fun ch W13 _ h1 => ?_
          rw [hra] at h1
          replace h := h.frame h1
          have hcl := hsa.chain o.key
          refine lpx (α := Unit) (fun _ => [.int .i64 1]) (fun _ W' => W' = W13) (fun _ => 0) () (fun _ => rfl) rfl rfl ?_
          rintro next5 _ W14 hnext5 rfl
          refine app1 ?_
          refine x_lenS (h.sl (v' := ch)) ?_
          refine a_lss (ifd_neg (by omega) ?_)
          replace h : Vs2 Wz va ra vb ra [Ky sl (Ow 40 5 os.length (vopsC os))] W14.drew := (h.ext (Below.refl _ _).drew).to
          refine ⟨fun w => Vs2 Wz va ra vb ra [Ky sl (Ow 40 5 os.length (vopsC os))] w, h, ?_⟩
          refine x_sfld (h.sl (v' := sl)) (fun _ hw => hw.sl (v' := sl)) (by omega) (by decide) gk ?_
          refine x_sfld (h.sl (v' := sl)) (fun _ hw => hw.sl (v' := sl)) (by omega) (by decide) gk ?_
          refine h.one fun L' hV back => hV.last_spec (key := o.key) hba (by decide) fun W15 hV => ?_
          replace h := back _ hV
          refine ⟨h, ?_⟩
          refine h.symm.one fun L' hV back => hV.last_spec (key := o.key) hba (by decide) fun W16 hV => ?_
          replace h := (back _ hV).symm
          refine ⟨h, ?_⟩
          refine s_neq (ifd_neg (fun h => h rfl) ?_)
          refine a_add64 (by omega) (by omega) ⟨trivial, trivial, trivial, ?_⟩
          rw [show ((q : Int) + 1) = ((q + 1 : Nat) : Int) by push_cast; rfl]
          exact hnext4 (q + 1) W16 (by omega) ⟨by omega, h⟩
        · refine vfirst_spec fun W13 hb13 => ?_
          exact k W13 (h.ext hb13).low
  · have stop : ∀ W', St Wz G0 [Ky vb (Vsvs [] 0), Ky va (Vsvs [] 0)] W' → ∃ q, [av, (.int .i64 turn : Value), .int .i64 t, va, vb, .bool true] = [av, .int .i64 turn, .int .i64 t, va, vb, .bool q] ∧ (q = false → a.length ≤ 100 ∧ 0 ≤ turn) ∧ St Wz G0 [Ky vb (Vsvs [] 0), Ky va (Vsvs [] 0)] W' := fun W' h => ⟨true, rfl, (fun h => by cases h), h⟩
    subst hva; subst hvb
    refine x_nilP (iff' (x_nilP (iff' ?_)))
    refine x_lenS (ha.below h.low) ?_
    refine a_gtr (ifd (fun _ => stop _ h) fun hl => ?_)
    refine vfew_spec (ha.below h.low) rfl fun fa _ => ?_
    refine a_not (ifnb (fun _ => stop _ h) fun _ => ?_)
    refine a_lss ?_
    exact ⟨_, rfl, fun hd => ⟨by omega, by have := of_decide_eq_false hd; omega⟩, h⟩
end
end Go.Proofs.Ytffnabbchghokaa
