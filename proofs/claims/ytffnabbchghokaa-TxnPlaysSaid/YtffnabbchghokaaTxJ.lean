/-
  TRANSACTIONS: begun, written to, asked; their writes, do they clash: what each function answers.
-/
import Derived.Test.YtffnabbchghokaaOwJ
import Derived.Test.YtffnabbchghokaaVerT
import Derived.Test.YtffnabbchghokaaVerV
import Derived.Test.YtffnabbchghokaaVerY
import Derived.Laws.Cover1
import Derived.Test.YtffnabbchghokaaVerU
namespace Go.Ez
open Go
/-- a write more: what is answered, the writes then -/
def wrR (wm : List (Txt × Wr)) (k v : Txt) (g : Bool) : Int × List (Txt × Wr) :=
  if k = [] ∨ 1200 < k.length ∨ 6000 < v.length then (3, wm) else if getK k wm = none ∧ 1000 ≤ wm.length then (17, wm) else (0, putK k (k, v, g) wm)
/-- what a key shows -/
def seesR (rows : VRows Txt) (t : Int) (wm : List (Txt × Wr)) (k : Txt) : Txt × Bool := match getK k wm with
  | some w => (w.2.1, !w.2.2)
  | none => ((toldC (chainR rows k) t).getD default, (toldC (chainR rows k) t).isSome)
/-- was a key of its writes written since? -/
def clashR (rows : VRows Txt) (t : Int) (wm : List (Txt × Wr)) : Bool := wm.any fun p => decide (t < lastC (chainR rows p.1))
theorem putK_len_has {κ β : Type} [OKey κ] [DecidableEq κ] {k : κ} {v : β} {m : List (κ × β)} (h : hasK k m = true) : (putK k v m).length = m.length := by
  unfold putK; rw [if_pos h]; simp
theorem wrR_len {wm : List (Txt × Wr)} (hs : Srt wm) (h : wm.length ≤ 1000) (k v : Txt) (g : Bool) : (wrR wm k v g).2.length ≤ 1000 := by
  unfold wrR
  split
  · exact h
  · split
    · exact h
    · rename_i hc
      by_cases hg : getK k wm = none
      · have h1 : ¬ 1000 ≤ wm.length := fun hx => hc ⟨hg, hx⟩
        have := putK_len_le k (k, v, g) wm
        simp only; omega
      · have hh : hasK k wm = true := by
          rw [hasK_get hs]
          cases hx : getK k wm with
          | none => exact absurd hx hg
          | some _ => rfl
        simp only
        rw [putK_len_has hh]; exact h
theorem wrR_srt {wm : List (Txt × Wr)} (hs : Srt wm) (k v : Txt) (g : Bool) : Srt (wrR wm k v g).2 := by
  unfold wrR
  split
  · exact hs
  · split
    · exact hs
    · exact srt_put hs
abbrev wcells (l : List Wr) : List Value := rcells wrC l
theorem wcells_get {l : List Wr} {i j : Nat} {w : Wr} (h : l[i]? = some w) (hj : j < 3) : (wcells l)[i * 3 + j]? = (wrC w)[j]? := rc_get (f := wrC) (sz := 3) (fun _ => rfl) h hj
theorem wcells_one (l : List Wr) : ∀ c ∈ wcells l, c.oneCell' = true := rc_one (fun p c hc => by
  simp only [wrC, List.mem_cons, List.not_mem_nil, or_false] at hc
  rcases hc with rfl | rfl | rfl <;> rfl) l
end Go.Ez
namespace Go.Proofs.Ytffnabbchghokaa
open Go Go.Ez Go.RowKit
set_option linter.unusedSimpArgs false
set_option linter.unusedVariables false

/-- t points to a transaction over s -/
def Tx (s : Value) (t : Int) (wm : List (Txt × Wr)) (v : Value) : As := As.ex fun p : Nat × Value => As.all (v = .pointer (some ⟨p.1, 0, none⟩)) [Ky p.1 (Ob (.cells [s, .int .i64 t, p.2].toArray 136 (0, 0))), Ky p.2 (Mq wm)]
/-- it, left alone, and its store -/
def TxZ (rs : Rsvs) (low : Int) (t : Int) (wm : List (Txt × Wr)) (W : World) (v : Value) : Prop := ∃ b s wv, v = .pointer (some ⟨b, 0, none⟩) ∧ Rec W b 136 [s, .int .i64 t, wv] ∧ VsZvs rs low W s ∧ MqZ' wm W wv

section
variable {w0 W W' : World} {G : Nat → Prop} {l R R1 : List As} {rs : Rsvs} {low t : Int} {v s : Value} {RR : Value → World → Prop} {wm : List (Txt × Wr)} {key : Txt} {L : List As} {rows : VRows Txt}
theorem openT [i : Has l v (Tx s t wm) R] (h : St w0 G l W) : ∃ b wv, v = .pointer (some ⟨b, 0, none⟩) ∧ St w0 G (Ky b (Ob (.cells [s, .int .i64 t, wv].toArray 136 (0, 0))) :: Ky wv (Mq wm) :: R) W := by
  have h1 : St w0 G (Tx s t wm v :: R) W := h.find (k := v) (X := Tx s t wm)
  obtain ⟨⟨b, wv⟩, h2⟩ := h1.openE
  obtain ⟨hv, h3⟩ := h2.openA
  exact ⟨b, wv, hv, h3⟩
theorem shutT {b : Nat} {wv : Value} [i : Has l b (Ob (.cells [s, .int .i64 t, wv].toArray 136 (0, 0))) R1] [j : Has R1 wv (Mq wm) R] (h : St w0 G l W) : St w0 G (Ky (.pointer (some ⟨b, 0, none⟩)) (Tx s t wm) :: R) W := by
  refine St.shutE (f := fun p : Nat × Value => As.all (Value.pointer (some ⟨b, 0, none⟩) = Value.pointer (some ⟨p.1, 0, none⟩)) [Ky p.1 (Ob (.cells [s, .int .i64 t, p.2].toArray 136 (0, 0))), Ky p.2 (Mq wm)]) (b, wv) (St.shutA rfl ?_)
  show St w0 G (Ky b (Ob (.cells [s, .int .i64 t, wv].toArray 136 (0, 0))) :: Ky wv (Mq wm) :: R) W
  obtain ⟨F, hF, hG⟩ := h.own
  exact { h with own := ⟨F, sepL_mono j.to (i.to F W hF), hG⟩ }
theorem TxZ.below (h : TxZ rs low t wm W v) (hb : Below W.heap.size W W') : TxZ rs low t wm W' v := by
  obtain ⟨b, s, wv, hv, h1, h2, h3⟩ := h
  exact ⟨b, s, wv, hv, h1.below hb, h2.below hb, h3.below hb⟩
theorem TxZ.one (h : TxZ rs low t wm W v) : Cel1 v := by obtain ⟨_, _, _, rfl, _⟩ := h; exact ⟨rfl⟩
/-- a store of one's own and a transaction over it, left alone -/
theorem VsI.tz {L' : List As} [i : Has L v (Tx s t wm) L'] (h : VsI w0 s rows low L W) : ∃ rs, rwvs rs = rows ∧ TxZ rs low t wm W v := by
  obtain ⟨kp, rs, h1, h2, h⟩ := h
  have hz := h.freezeVvs (v := s) h1
  obtain ⟨b, wv, hv, h3⟩ := openT (v := v) h
  exact ⟨rs, h2, b, s, wv, hv, h3.rc, hz, freezeQ (v := wv) h3⟩

/-- Begin -/
theorem begin_spec {bs : Nat} (hs : s = .pointer (some ⟨bs, 0, none⟩)) (h : St w0 G l W) (k : ∀ b W', St w0 G (Ky (.pointer (some ⟨b, 0, none⟩) : Value) (Tx s t []) :: l) W' → RR (.pointer (some ⟨b, 0, none⟩)) W') : CallF Try.prog 48 #[s, .int .i64 t] W RR := by
  refine sh48_calls ?_
  unfold sh48
  refine newq_spec h fun wv W h ow => ?_
  obtain ⟨bw, _, hwv, _⟩ := openQ (v := wv) h
  subst hs; subst hwv
  refine x_bld (cells := [.pointer (some ⟨bs, 0, none⟩), .int .i64 t, .pointer (some ⟨bw, 0, none⟩)].toArray) rfl ?_
  refine h.boxS (cs := [.pointer (some ⟨bs, 0, none⟩), .int .i64 t, .pointer (some ⟨bw, 0, none⟩)]) fun b W h => ?_
  exact k b W (shutT (b := b) (wv := .pointer (some ⟨bw, 0, none⟩)) h)

/-- At -/
theorem tat_spec (hz : TxZ rs low t wm W v) (k : RR (.int .i64 t) W) : CallF Try.prog 58 #[v] W RR := by
  refine sh58_calls ?_
  unfold sh58
  obtain ⟨b, s, wv, rfl, hr, hz, hq⟩ := hz
  refine a_nil (a_fld0 (w_ldR hr rfl ?_))
  exact k

/-- writes -/
theorem twrites_spec {x g : Txt} {gone : Bool} [i : Has l v (Tx s t wm) R] (h : St w0 G l W) (hl : wm.length ≤ 1000) (k : ∀ W', Srt wm → St w0 G (Ky v (Tx s t (wrR wm key x gone).2) :: R) W' → RR (.int .i64 (wrR wm key x gone).1) W') :
    CallF Try.prog 91 #[v, .agg (wrC (key, x, gone)).toArray] W RR := by
  refine sh91_calls ?_
  unfold sh91
  obtain ⟨b, wv, hv, h'⟩ := openT (v := v) h
  subst hv
  replace h := h'
  clear h'
  have hsr : Srt wm := by obtain ⟨_, _, _, hs, _⟩ := freezeQ (v := wv) h; exact hs
  have hone := (freezeQ (v := wv) h).one
  refine h.boxS (cs := [strV key, strV x, .bool gone]) fun bx W h => ?_
  have no : (key = [] ∨ 1200 < key.length ∨ 6000 < x.length) → ∀ W', St w0 G (Ky bx (Ob (.cells [strV key, strV x, .bool gone].toArray 86 (0, 0))) :: Ky b (Ob (.cells [s, .int .i64 t, wv].toArray 136 (0, 0))) :: Ky wv (Mq wm) :: R) W' → RR (.int .i64 3) W' := fun hc W' h => by
    have e : wrR wm key x gone = (3, wm) := by unfold wrR; rw [if_pos hc]
    have := k W' hsr (by rw [e]; exact (shutT (b := b) (wv := wv) h).to)
    rw [e] at this; exact this
  refine a_fld0 (h.load ?_)
  refine w_eqlL (ifd (fun hc => no (.inl hc) _ h) fun hc1 => ?_)
  refine a_fld0 (h.load ?_)
  refine x_len (a_gtr (ifd (fun hc => no (.inr (.inl (by omega))) _ h) fun hc2 => ?_))
  refine a_fld0 (h.load ?_)
  refine x_len (a_gtr (ifd (fun hc => no (.inr (.inr (by omega))) _ h) fun hc3 => ?_))
  have e0 : ¬ (key = [] ∨ 1200 < key.length ∨ 6000 < x.length) := fun hx => hx.elim hc1 fun hx => hx.elim (fun hx => hc2 (by omega)) fun hx => hc3 (by omega)
  have hx1 : ∀ x0, getK key wm = some x0 → hasK key wm = true := fun x0 hg => by rw [hasK_get hsr, hg]; rfl
  refine jni (fun vs W' => vs = [.pointer (some ⟨b, 0, none⟩), .pointer (some ⟨bx, 0, none⟩), .bool (getK key wm).isSome] ∧ St w0 G (Ky bx (Ob (.cells [strV key, strV x, .bool gone].toArray 86 (0, 0))) :: Ky b (Ob (.cells [s, .int .i64 t, wv].toArray 136 (0, 0))) :: Ky wv (Mq wm) :: R) W') ?_ ?_
  · rintro vs W2 _ ⟨rfl, h⟩
    refine app3 ?_
    refine jni (fun vs W' => vs = [.pointer (some ⟨b, 0, none⟩), .pointer (some ⟨bx, 0, none⟩)] ∧ ¬ (getK key wm = none ∧ 1000 ≤ wm.length) ∧ St w0 G (Ky bx (Ob (.cells [strV key, strV x, .bool gone].toArray 86 (0, 0))) :: Ky b (Ob (.cells [s, .int .i64 t, wv].toArray 136 (0, 0))) :: Ky wv (Mq wm) :: R) W') ?_ ?_
    · rintro vs W3 _ ⟨rfl, hno, h⟩
      refine app2 ?_
      replace h := h.drew
      refine ⟨St w0 G _, h, ?_⟩
      refine a_nil (a_fld0 (ss_load (a_fld0 (ss_load (ss_loadS ?_)))))
      refine putq_spec (v := wv) (k := key) (x := (key, x, gone)) h (by omega) fun W4 h => ?_
      have e : wrR wm key x gone = (0, putK key (key, x, gone) wm) := by unfold wrR; rw [if_neg e0, if_neg hno]
      have := k W4 hsr (by rw [e]; exact (shutT (b := b) (wv := wv) h).to)
      rw [e] at this; exact this
    · refine a_not (ifnb (fun hg => ?_) fun hg => ?_)
      · refine a_nil (a_fld0 (h.load ?_))
        refine lenq_spec (freezeQ (v := wv) h) ?_
        have hgn : getK key wm = none := by
          cases hx : getK key wm with
          | none => rfl
          | some _ => rw [hx] at hg; cases hg
        refine a_geq (ifd (fun hge => ?_) fun hlt => ?_)
        · have e : wrR wm key x gone = (17, wm) := by unfold wrR; rw [if_neg e0, if_pos ⟨hgn, by omega⟩]
          have := k W2 hsr (by rw [e]; exact (shutT (b := b) (wv := wv) h).to)
          rw [e] at this; exact this
        · exact ⟨rfl, fun hx => hlt (by omega), h⟩
      · refine ⟨rfl, fun hx => ?_, h⟩
        rw [hx.1] at hg; cases hg
  · replace h := h.drew
    refine ⟨St w0 G _, h, ?_⟩
    refine a_nil (a_fld0 (ss_load (a_fld0 (ss_load ?_))))
    refine ⟨?_, ?_, trivial⟩
    · refine getq_spec (k := key) (freezeQ (v := wv) h) (by omega) fun W3 hb => ?_
      replace h := h.ext hb
      refine a_ext0 (a_ext1 ?_)
      refine h.allocS fun b5 W h => ?_
      refine St.storeS (cs' := [strV ((getK key wm).getD default).1, strV ((getK key wm).getD default).2.1, .bool ((getK key wm).getD default).2.2]) h fun W h => ?_
      exact ⟨rfl, h.to⟩
    · refine h.allocS fun b5 W h => ⟨h.to, ?_⟩
      refine getq_spec (k := key) (freezeQ (v := wv) h) (by omega) fun W3 hb => ?_
      replace h := h.ext hb
      refine a_ext0 (a_ext1 ?_)
      refine St.storeS (cs' := [strV ((getK key wm).getD default).1, strV ((getK key wm).getD default).2.1, .bool ((getK key wm).getD default).2.2]) h fun W h => ?_
      exact ⟨rfl, h.to⟩

theorem tput_spec {x : Txt} [i : Has l v (Tx s t wm) R] (h : St w0 G l W) (hl : wm.length ≤ 1000) (k : ∀ W', Srt wm → St w0 G (Ky v (Tx s t (wrR wm key x false).2) :: R) W' → RR (.int .i64 (wrR wm key x false).1) W') :
    CallF Try.prog 49 #[v, strV key, strV x] W RR := by
  refine sh49_calls ?_
  unfold sh49
  refine x_bld (cells := (wrC (key, x, false)).toArray) rfl ?_
  exact twrites_spec (g := []) h hl k
theorem tdel_spec [i : Has l v (Tx s t wm) R] (h : St w0 G l W) (hl : wm.length ≤ 1000) (k : ∀ W', Srt wm → St w0 G (Ky v (Tx s t (wrR wm key [] true).2) :: R) W' → RR (.int .i64 (wrR wm key [] true).1) W') :
    CallF Try.prog 51 #[v, strV key] W RR := by
  refine sh51_calls ?_
  unfold sh51
  refine x_bld (cells := (wrC (key, [], true)).toArray) rfl ?_
  exact twrites_spec (g := []) h hl k

/-- Get -/
theorem tget_spec {n : Nat} {Wz : World} (hz : TxZ rs low t wm Wz v) (hb : Bd n (rwvs rs)) (hn : n ≤ 500000) (hl : wm.length ≤ 1000000) (k : ∀ W', Below Wz.heap.size Wz W' → RR (.tuple #[strV (seesR (rwvs rs) t wm key).1, .bool (seesR (rwvs rs) t wm key).2]) W') :
    CallF Try.prog 52 #[v, strV key] Wz RR := by
  refine sh52_calls ?_
  unfold sh52
  obtain ⟨b, s, wv, rfl, hr, hz, hq⟩ := hz
  refine a_nil (a_fld0 (w_ldR hr rfl ?_))
  refine getq_spec (k := key) hq (by omega) fun W1 hb1 => ?_
  refine a_ext0 (a_ext1 ?_)
  have h := (St.start Wz).ext hb1
  refine h.allocS fun b6 W h => ?_
  refine St.storeS (cs' := [strV ((getK key wm).getD default).1, strV ((getK key wm).getD default).2.1, .bool ((getK key wm).getD default).2.2]) h fun W h => ?_
  replace h := h.drew
  cases hg : getK key wm with
  | some w =>
    have e : seesR (rwvs rs) t wm key = (w.2.1, !w.2.2) := by unfold seesR; rw [hg]
    rw [e] at k
    rw [hg] at h
    refine ift ⟨St Wz G0 _, h, ?_⟩
    refine a_fld0 (ss_load (a_fld0 (ss_load (a_not ?_))))
    exact k _ h.low
  | none =>
    have e : seesR (rwvs rs) t wm key = ((toldC (chainR (rwvs rs) key) t).getD default, (toldC (chainR (rwvs rs) key) t).isSome) := by unfold seesR; rw [hg]
    rw [e] at k
    refine iff' ⟨St Wz G0 _, h, ?_⟩
    refine a_nil (a_fld0 (s_ld (t := 136) (cs := [s, .int .i64 t, wv]) (fun w hw => hr.below hw.low) rfl ?_))
    refine a_nil (a_fld0 (s_ld (t := 136) (cs := [s, .int .i64 t, wv]) (fun w hw => hr.below hw.low) rfl ?_))
    refine vgetvs_spec (key := key) (t := t) (hz.below h.low) hb (by omega) fun W2 hb2 => ?_
    refine a_ext0 (a_ext1 ?_)
    exact k W2 (h.ext hb2).low

theorem allZ_spec (hz : MqZ' wm w0 v) (h : St w0 G0 l W) (hl : wm.length ≤ 1000000) (k : ∀ f b W', Itr Try.prog w0 G0 f (tellQ wm) (ItZq b v) → Cel1 f → St w0 G0 (Ky f (ItZq b v) :: l) W' → RR f W') : CallF Try.prog 99 #[v] W RR :=
  allq_specZ hz h hl fun f b W' hI h => k f b W' hI (by obtain ⟨_, _, rfl, _⟩ := id hI; exact ⟨rfl⟩) h

/-- what Writes has taken -/
def WsC (bl : Nat) (m : List (Txt × Wr)) (i : Nat) : As := As.ex fun v : Value => As.all True [Ky bl (Ob (.cells [v].toArray 84 (0, 0))), Ky v (Ow 86 3 i (wcells ((m.take i).map Prod.snd)))]

/-- Writes -/
theorem twlist_spec {Wz : World} (hz : TxZ rs low t wm Wz v) (hl : wm.length ≤ 1000000) (k : ∀ v' W', Cel1 v' → St Wz G0 [Ky v' (Ow 86 3 wm.length (wcells (wm.map Prod.snd)))] W' → RR v' W') : CallF Try.prog 56 #[v] Wz RR := by
  refine sh56_calls ?_
  unfold sh56
  obtain ⟨b, s, wv, rfl, hr, hz, hq⟩ := hz
  refine (St.start Wz).alloc fun bl W h => ?_
  refine a_nil (a_fld0 (w_ldR (hr.below h.low) rfl ?_))
  refine allZ_spec hq h hl fun f ba W hI of h => ?_
  have hnil : St Wz G0 (Ky (.slice none 0 0) (Ow 86 3 0 (wcells ((wm.take 0).map Prod.snd))) :: _) W := h.nilOw
  refine rngI (C := fun i => WsC bl wm i) (fun c i => As.all False []) hI tellQ_len (l := []) ?_ ?_ ?_ ?_
  · exact St.shutE (.slice none 0 0) (St.shut2 trivial hnil.to)
  · intro i x hxi ll rec I' W kn kst h hn hk
    obtain ⟨p, hp, rfl⟩ := tellQ_at hxi
    have hil := (List.getElem?_eq_some_iff.1 hp).1
    refine app2 ?_
    refine h.allocS fun b5 W h => ?_
    refine St.storeS (cs' := [strV p.2.1, strV p.2.2.1, .bool p.2.2.2]) h fun W h => ?_
    refine ⟨h.ob (b := ll), ?_⟩
    replace h := h.putO (b := ll) (o := .loop (rec .ready none)) (.loop (rec .busy none))
    have h' := h.find (k := i) (X := fun i : Nat => WsC bl wm i)
    clear h
    obtain ⟨v, h⟩ := St.openE h'
    replace h := (St.open2 h).2
    have ov : Cel1 v := .of_own (h.ow (v := v))
    refine app2 ?_
    refine h.load (h.loadS ?_)
    refine h.lit (vs := [.agg [strV p.2.1, strV p.2.2.1, .bool p.2.2.2].toArray]) (cs := [strV p.2.1, strV p.2.2.1, .bool p.2.2.2]) (fun u W o2 h => ?_) (by decide)
    refine St.app (v := v) h (h.osl (v := u)) (by simp [Value.oneCell']) (by unfold maxLen; omega) (by omega) fun v' W o' h _ => ?_
    have e : wcells ((wm.take i).map Prod.snd) ++ [strV p.2.1, strV p.2.2.1, .bool p.2.2.2] = wcells ((wm.take (i + 1)).map Prod.snd) := by
      rw [List.take_add_one, hp, List.map_append]
      show _ = rcells wrC _
      rw [rc_append]; rfl
    rw [e] at h
    refine h.store fun W h => ?_
    exact hn W (St.swap (St.shutE v' (St.shut2 trivial h.to)))
  · intro DD W h
    obtain ⟨v, h⟩ := St.openE h.swap
    replace h := (St.open2 h).2
    rw [List.length_map, List.take_length] at h
    (repeat (first | (with_reducible refine ift ?_) | (with_reducible refine iff' ?_) | (with_reducible refine a_lss ?_) | (with_reducible refine a_leq ?_) | (with_reducible refine a_gtr ?_) | (with_reducible refine a_geq ?_) | (with_reducible refine w_eql ?_) | (with_reducible refine w_neq ?_) | (with_reducible refine s_eql ?_) | (with_reducible refine s_neq ?_) | ((with_reducible refine a_add64 ?h0 ?h1 ?_); (case h0 => omega); (case h1 => omega);  skip) | ((with_reducible refine a_sub64 ?h0 ?h1 ?_); (case h0 => omega); (case h1 => omega);  skip) | ((with_reducible refine a_mul64 ?h0 ?h1 ?_); (case h0 => omega); (case h1 => omega);  skip) | (with_reducible refine a_notd ?_) | (with_reducible refine a_not ?_) | (with_reducible refine a_ext0 ?_) | (with_reducible refine a_ext1 ?_) | (with_reducible refine a_ext2 ?_) | (with_reducible refine x_len ?_) | (with_reducible refine x_lens ?_) | (with_reducible refine x_eqb ?_) | (with_reducible refine x_neb ?_) | (with_reducible refine x_nilP ?_) | (with_reducible refine x_nilPn ?_) | (with_reducible refine x_nilF ?_) | (with_reducible refine x_nilFF ?_) | (with_reducible refine w_eqlL ?_) | (with_reducible refine w_neqL ?_) | (with_reducible refine s_eqlL ?_) | (with_reducible refine ifnt ?_) | (with_reducible refine ifnf ?_) | (with_reducible refine x_eqB ?_) | (with_reducible refine x_neB ?_) | (with_reducible refine x_lssL ?_) | (with_reducible refine x_gtrL ?_) | (with_reducible refine x_geqL ?_) | (with_reducible refine s_neqL ?_) | (with_reducible refine St.load h ?_) | (with_reducible refine St.loadS h ?_) | (with_reducible refine a_fld0 ?_) | (with_reducible refine St.store h fun W h => ?_) | (with_reducible refine St.storeS h fun W h => ?_) | (with_reducible refine St.alloc h fun b W h => ?_) | (with_reducible refine St.allocS h fun b W h => ?_) | (with_reducible refine a_nil ?_) | (with_reducible refine ss_load ?_) | (with_reducible refine ss_loadS ?_) | (with_reducible refine ss_eqb ?_)))
    refine ⟨h.ob (b := DD), ?_⟩
    have ov : Cel1 v := .of_own (h.ow (v := v))
    replace h := h.putO (b := DD) (o := .deferred (some [])) (.deferred none)
    exact k v _ ov h.to
  · intro DD c i W hi h
    exact (St.openA h.swap).1.elim

/-- Clash -/
theorem tclash_spec {n : Nat} {Wz : World} (hz : TxZ rs low t wm Wz v) (hb : Bd n (rwvs rs)) (hn : n ≤ 500000) (hl : wm.length ≤ 1000000) (k : ∀ W', Below Wz.heap.size Wz W' → RR (.bool (clashR (rwvs rs) t wm)) W') :
    CallF Try.prog 57 #[v] Wz RR := by
  refine sh57_calls ?_
  unfold sh57
  obtain ⟨b, s, wv, rfl, hr, hz, hq⟩ := hz
  refine (St.start Wz).boxV fun b1 W h => ?_
  refine h.alloc fun b2 W h => ?_
  refine h.load ?_
  refine a_nil (a_fld0 (w_ldR (hr.below h.low) rfl ?_))
  refine allZ_spec hq h hl fun f ba W hI of h => ?_
  refine rngI (C := fun i => As.all (clashR (rwvs rs) t (wm.take i) = false) [Ky b1 (Ob (.cells [(.pointer (some ⟨b, 0, none⟩) : Value)].toArray 72 (0, 0))), Ky b2 (Ob (.cells [(.bool false : Value)].toArray 4 (0, 0)))])
    (fun c i => As.all (c = .ret ∧ clashR (rwvs rs) t wm = true) [Ky b2 (Ob (.cells [(.bool true : Value)].toArray 4 (0, 0)))]) hI tellQ_len (l := []) ?_ ?_ ?_ ?_
  · exact St.shut2 rfl h.to
  · intro i x hxi ll rec I' W kn kst h hn' hk
    obtain ⟨p, hp, rfl⟩ := tellQ_at hxi
    refine app2 ?_
    refine ⟨h.ob (b := ll), ?_⟩
    replace h := h.putO (b := ll) (o := .loop (rec .ready none)) (.loop (rec .busy none))
    obtain ⟨hcl, h⟩ := St.open2 h.swap
    refine app3 ?_
    replace h := h.drew
    refine ⟨St Wz G0 _, h, ?_⟩
    refine ss_load (a_nil (a_fld0 (s_ld (t := 136) (cs := [s, .int .i64 t, wv]) (fun w hw => hr.below hw.low) rfl ?_)))
    refine ss_load (a_nil (a_fld0 (s_ld (t := 136) (cs := [s, .int .i64 t, wv]) (fun w hw => hr.below hw.low) rfl ?_)))
    refine lastvs_spec (key := p.1) (hz.below h.low) hb (by omega) fun W2 hb2 => ?_
    replace h := h.ext hb2
    refine ⟨h, ?_⟩
    refine a_gtr (ifd (fun hgt => ?_) fun hle => ?_)
    · refine h.store fun W h => ?_
      refine hk .ret W (St.swap (St.shut1 ⟨rfl, ?_⟩ h.to))
      unfold clashR
      rw [List.any_eq_true]
      exact ⟨p, List.mem_of_getElem? hp, decide_eq_true hgt⟩
    · refine hn' W2 (St.swap (St.shut2 ?_ h.to))
      unfold clashR at hcl ⊢
      rw [List.take_add_one, hp, List.any_append, hcl]
      simp [hle]
  · intro DD W h
    obtain ⟨hcl, h⟩ := St.open2 h.swap
    rw [List.length_map, List.take_length] at hcl
    refine h.store fun W h => ?_
    refine ⟨h.ob (b := DD), ?_⟩
    replace h := h.putO (b := DD) (o := .deferred (some [])) (.deferred none)
    refine h.load ?_
    rw [← hcl]
    exact k _ h.low
  · intro DD c i W hi h
    obtain ⟨⟨hcc, hcl⟩, h2⟩ := St.open1 h.swap
    clear h
    subst hcc
    have h := h2
    refine ⟨h.ob (b := DD), ?_⟩
    replace h := h.putO (b := DD) (o := .deferred (some [])) (.deferred none)
    refine h.load ?_
    rw [← hcl]
    exact k _ h.low
end
end Go.Proofs.Ytffnabbchghokaa

/-
  TRANSACTIONS: scans of what the store shows and of their own writes: what each function answers.
-/
namespace Go.Ez
open Go
/-- what the store shows, as writes -/
def stW (rows : VRows Txt) (lo hi : Txt) (t : Int) : List (Txt × Wr) := (scanR rows lo hi t).map fun p => (p.1, (p.1, p.2, false))
def ownW (wm : List (Txt × Wr)) (lo hi : Txt) : List (Txt × Wr) := wm.filter fun p => inR lo hi p.1
def tscan (rows : VRows Txt) (t : Int) (wm : List (Txt × Wr)) (lo hi : Txt) : List (Txt × Txt) := (mrg (stW rows lo hi t) (ownW wm lo hi)).filterMap fun p => if p.2.2.2 then none else some (p.1, p.2.2.1)
def isPre (p s : Txt) : Bool := decide (s.take p.length = p)
def tpre (rows : VRows Txt) (t : Int) (wm : List (Txt × Wr)) (p : Txt) : List (Txt × Txt) := (tscan rows t wm p []).takeWhile fun x => isPre p x.1
theorem stW_len (rows : VRows Txt) (lo hi : Txt) (t : Int) : (stW rows lo hi t).length ≤ rows.length := by unfold stW; rw [List.length_map]; exact scanR_len lo hi t
theorem ownW_len (wm : List (Txt × Wr)) (lo hi : Txt) : (ownW wm lo hi).length ≤ wm.length := List.length_filter_le _ _
theorem tscan_len (rows : VRows Txt) (t : Int) (wm : List (Txt × Wr)) (lo hi : Txt) : (tscan rows t wm lo hi).length ≤ rows.length + wm.length := by
  unfold tscan
  refine Nat.le_trans (List.length_filterMap_le _ _) (Nat.le_trans (mrg_len _ _) ?_)
  have := stW_len rows lo hi t
  have := ownW_len wm lo hi
  omega
theorem tpre_len (rows : VRows Txt) (t : Int) (wm : List (Txt × Wr)) (p : Txt) : (tpre rows t wm p).length ≤ rows.length + wm.length :=
  Nat.le_trans (List.takeWhile_prefix _).length_le (tscan_len rows t wm p [])
end Go.Ez
namespace Go.Proofs.Ytffnabbchghokaa
open Go Go.Ez Go.RowKit
set_option linter.unusedSimpArgs false
set_option linter.unusedVariables false

def stF (x : List Value) : Option (List Value) := match x with
  | [.string s, .string v] => some [.string s, .agg #[.string s, .string v, .bool false]]
  | _ => none
def tsF (x : List Value) : Option (List Value) := match x with
  | [.string s, .agg cs] => match cs.toList with
    | [_, .string v, .bool g] => if g then none else some [.string s, .string v]
    | _ => none
  | _ => none
theorem st_tells {m : List (Txt × Txt)} : (tellP m).filterMap stF = tellQ (m.map fun p => (p.1, (p.1, p.2, false))) := by
  show (m.map _).filterMap stF = (m.map _).map _
  rw [List.filterMap_map, List.map_map]
  have : (stF ∘ fun p : Txt × Txt => [strV p.1, strV p.2]) = fun p => some ((fun p : Txt × Wr => [strV p.1, .agg (wrC p.2).toArray]) (p.1, (p.1, p.2, false))) := rfl
  rw [this, List.filterMap_eq_map']
  rfl
theorem ow_tells {lo : Txt} {m : List (Txt × Wr)} : (tellQ m).filterMap (geF lo) = tellQ (ownW m lo []) := by
  have e : ∀ r : Txt × Wr, geF lo [strV r.1, .agg (wrC r.2).toArray] = if inR lo [] r.1 then some [strV r.1, .agg (wrC r.2).toArray] else none := fun r => by
    rw [geF_at]
    unfold inR
    cases OKey.lt r.1 lo <;> rfl
  show (m.map _).filterMap (geF lo) = (m.filter _).map _
  rw [List.filterMap_map, ← filterMap_if]
  exact filterMap_ext fun r _ => e r
theorem tsF_at {p : Txt × Wr} : tsF [strV p.1, .agg (wrC p.2).toArray] = if p.2.2.2 then none else some [strV p.1, strV p.2.2.1] := rfl
theorem ts_tells {m : List (Txt × Wr)} : (tellQ m).filterMap tsF = tellP (m.filterMap fun p => if p.2.2.2 then none else some (p.1, p.2.2.1)) := by
  show (m.map _).filterMap tsF = (m.filterMap _).map _
  rw [List.filterMap_map, List.map_filterMap]
  refine filterMap_ext fun p _ => ?_
  show tsF [strV p.1, .agg (wrC p.2).toArray] = _
  rw [tsF_at]
  cases p.2.2.2 <;> rfl
theorem pm_own {lo hi : Txt} (h : hi ≠ []) {m : List (Txt × Wr)} : partMq lo hi m = ownW m lo hi := by
  unfold partMq ownW
  refine List.filter_congr fun r _ => ?_
  unfold inR
  cases hi with
  | nil => exact absurd rfl h
  | cons a b => rfl

section
variable {w0 W W' : World} {G : Nat → Prop} {l R R1 : List As} {rs : Rsvs} {low t : Int} {v s : Value} {RR : Value → World → Prop} {wm : List (Txt × Wr)} {key : Txt} {L : List As} {rows : VRows Txt}

/-- what stored and Scan stand on -/
def ItT (b bl bh : Nat) (v : Value) (lo hi : Txt) (_ : Value) : As := As.all True [Ky b (Ob (.cells [v].toArray 72 (0, 0))), Ky bl (Ob (.cells [strV lo].toArray 9 (0, 0))), Ky bh (Ob (.cells [strV hi].toArray 9 (0, 0)))]
def ItP (b bl : Nat) (v : Value) (lo : Txt) (_ : Value) : As := As.all True [Ky b (Ob (.cells [v].toArray 72 (0, 0))), Ky bl (Ob (.cells [strV lo].toArray 9 (0, 0)))]

theorem stored1_itrZ {n b bl bh : Nat} {lo hi : Txt} (hz : TxZ rs low t wm w0 v) (hb : Bd n (rwvs rs)) (hn : n ≤ 100000) :
    Itr Try.prog w0 G0 (.func (.func 121) #[] #[.pointer (some ⟨b, 0, none⟩), .pointer (some ⟨bl, 0, none⟩), .pointer (some ⟨bh, 0, none⟩)]) (tellQ (stW (rwvs rs) lo hi t)) (ItT b bl bh v lo hi) := by
  refine ⟨121, _, rfl, hentD _ (by kernel_rfl), fun yv C D I W RR oy hY h hd hs => ?_⟩
  show CallF Try.prog 121 #[yv, .pointer (some ⟨b, 0, none⟩), .pointer (some ⟨bl, 0, none⟩), .pointer (some ⟨bh, 0, none⟩)] W RR
  refine sh121_calls ?_
  unfold sh121
  replace h := (St.open3 h.swap).2
  have ov := hz.one
  obtain ⟨bt, s, wv, rfl, hr, hzs, hq⟩ := hz
  refine h.boxV fun bx W h => ?_
  replace h := h.drew
  refine ⟨St w0 G0 _, h, ?_⟩
  refine ss_load (a_nil (a_fld0 (s_ld (t := 136) (cs := [s, .int .i64 t, wv]) (fun w hw => hr.below hw.low) rfl ?_)))
  refine ss_load (ss_load (ss_load (a_nil (a_fld0 (s_ld (t := 136) (cs := [s, .int .i64 t, wv]) (fun w hw => hr.below hw.low) rfl ?_)))))
  refine scan_specZ (lo := lo) (hi := hi) (t := t) hzs hb (by omega) h fun f A W hI of h => ?_
  unfold stW at hY hd hs
  rw [← st_tells] at hY hd hs
  have hlen : ∀ x ∈ tellP (scanR (rwvs rs) lo hi t), x.length = 2 := by
    intro x hx
    obtain ⟨p, _, rfl⟩ := List.mem_map.1 hx
    rfl
  refine rngFm stF [Ky bx (Ob (.cells [yv].toArray 169 (0, 0)))] hI hY hlen (l := Ky b (Ob (.cells [(.pointer (some ⟨bt, 0, none⟩) : Value)].toArray 72 (0, 0))) :: Ky bl (Ob (.cells [strV lo].toArray 9 (0, 0))) :: Ky bh (Ob (.cells [strV hi].toArray 9 (0, 0))) :: I) ?_ ?_ ?_ ?_
  · simp only [List.cons_append, List.nil_append]
    exact h.to
  · intro i x hxi ll rec I' W kn ks h hno hyes
    obtain ⟨p, hp, rfl⟩ : ∃ p, (scanR (rwvs rs) lo hi t)[i]? = some p ∧ x = [strV p.1, strV p.2] := by
      rw [List.getElem?_map] at hxi
      cases hk0 : (scanR (rwvs rs) lo hi t)[i]? with
      | none => rw [hk0] at hxi; cases hxi
      | some k0 => rw [hk0] at hxi; cases hxi; exact ⟨k0, rfl, rfl⟩
    simp only [List.cons_append, List.nil_append] at h hno hyes
    refine app2 ?_
    refine ⟨h.ob (b := ll), ?_⟩
    replace h := h.putO (b := ll) (o := .loop (rec .ready none)) (.loop (rec .busy none))
    refine app3 ?_
    refine h.load ?_
    refine x_bld (cells := #[strV p.1, strV p.2, .bool false]) rfl ?_
    refine hyes _ rfl _ _ h.to (fun W'' hk => ?_) fun W'' hk => ?_
    · exact a_not (iff' hk)
    · exact a_not (ift hk)
  · intro DD W h
    simp only [List.cons_append, List.nil_append] at h
    refine ⟨h.ob (b := DD), hd _ ?_⟩
    replace h := h.putO (b := DD) (o := .deferred (some [])) (.deferred none)
    refine St.swap (St.shut3 (φ := True) trivial ?_)
    exact h.to
  · intro DD j W hj h
    simp only [List.cons_append, List.nil_append] at h
    refine ⟨h.ob (b := DD), hs j _ hj ?_⟩
    replace h := h.putO (b := DD) (o := .deferred (some [])) (.deferred none)
    refine St.swap (St.shut3 (φ := True) trivial ?_)
    exact h.to

theorem stored_specZ {n : Nat} {lo hi : Txt} (hz : TxZ rs low t wm w0 v) (hb : Bd n (rwvs rs)) (hn : n ≤ 100000) (h : St w0 G0 l W) (k : ∀ f A W', Itr Try.prog w0 G0 f (tellQ (stW (rwvs rs) lo hi t)) A → Cel1 f → St w0 G0 (Ky f A :: l) W' → RR f W') :
    CallF Try.prog 95 #[v, strV lo, strV hi] W RR := by
  refine sh95_calls ?_
  unfold sh95
  have ov := hz.one
  refine h.boxV fun b W h => ?_
  refine h.boxV fun bl W h => ?_
  refine h.boxV fun bh W h => ?_
  refine v_func ?_
  exact k _ _ W (stored1_itrZ (b := b) (bl := bl) (bh := bh) hz hb hn) ⟨rfl⟩ (St.shut3 (φ := True) trivial h.to)

theorem own1_itrZ {b bl : Nat} {lo : Txt} (hz : TxZ rs low t wm w0 v) (hl : wm.length ≤ 100000) :
    Itr Try.prog w0 G0 (.func (.func 123) #[] #[.pointer (some ⟨b, 0, none⟩), .pointer (some ⟨bl, 0, none⟩)]) (tellQ (ownW wm lo [])) (ItP b bl v lo) := by
  refine ⟨123, _, rfl, hentD _ (by kernel_rfl), fun yv C D I W RR oy hY h hd hs => ?_⟩
  show CallF Try.prog 123 #[yv, .pointer (some ⟨b, 0, none⟩), .pointer (some ⟨bl, 0, none⟩)] W RR
  refine sh123_calls ?_
  unfold sh123
  replace h := (St.open2 h.swap).2
  have ov := hz.one
  obtain ⟨bt, s, wv, rfl, hr, hzs, hq⟩ := hz
  refine h.boxV fun bx W h => ?_
  refine h.load ?_
  refine a_nil (a_fld0 (w_ldR (hr.below h.low) rfl ?_))
  refine allZ_spec hq h (by omega) fun f ba W hI of h => ?_
  rw [← ow_tells] at hY hd hs
  refine rngFm (geF lo) [Ky bx (Ob (.cells [yv].toArray 169 (0, 0))), Ky bl (Ob (.cells [strV lo].toArray 9 (0, 0)))] hI hY tellQ_len (l := Ky b (Ob (.cells [(.pointer (some ⟨bt, 0, none⟩) : Value)].toArray 72 (0, 0))) :: I) ?_ ?_ ?_ ?_
  · simp only [List.cons_append, List.nil_append]
    exact h.to
  · intro i x hxi ll rec I' W kn ks h hno hyes
    obtain ⟨p, hp, rfl⟩ := tellQ_at hxi
    simp only [List.cons_append, List.nil_append] at h hno hyes
    rw [geF_at] at hno hyes
    refine app2 ?_
    refine h.allocS fun b5 W h => ?_
    refine St.storeS (cs' := [strV p.2.1, strV p.2.2.1, .bool p.2.2.2]) h fun W h => ?_
    refine ⟨h.ob (b := ll), ?_⟩
    replace h := h.putO (b := ll) (o := .loop (rec .ready none)) (.loop (rec .busy none))
    refine app4 ?_
    refine jni (fun vs W' => kn W') (fun _ _ _ h => h) ?_
    refine h.load ?_
    refine x_geqL (ifnb (fun hc => ?_) fun hc => ?_)
    · rw [show OKey.lt p.1 lo = false from hc] at hyes
      refine h.load (h.loadS ?_)
      refine hyes _ rfl _ _ h.to (fun W'' hk => ?_) fun W'' hk => ?_
      · exact a_not (iff' hk)
      · exact a_not (ift hk)
    · rw [show OKey.lt p.1 lo = true from hc] at hno
      exact hno rfl _ h.to
  · intro DD W h
    simp only [List.cons_append, List.nil_append] at h
    refine ⟨h.ob (b := DD), hd _ ?_⟩
    replace h := h.putO (b := DD) (o := .deferred (some [])) (.deferred none)
    refine St.swap (St.shut2 (φ := True) trivial ?_)
    exact h.to
  · intro DD j W hj h
    simp only [List.cons_append, List.nil_append] at h
    refine ⟨h.ob (b := DD), hs j _ hj ?_⟩
    replace h := h.putO (b := DD) (o := .deferred (some [])) (.deferred none)
    refine St.swap (St.shut2 (φ := True) trivial ?_)
    exact h.to

theorem own_specZ {lo hi : Txt} (hz : TxZ rs low t wm w0 v) (hl : wm.length ≤ 100000) (h : St w0 G0 l W) (k : ∀ f A W', Itr Try.prog w0 G0 f (tellQ (ownW wm lo hi)) A → Cel1 f → St w0 G0 (Ky f A :: l) W' → RR f W') :
    CallF Try.prog 96 #[v, strV lo, strV hi] W RR := by
  refine sh96_calls ?_
  unfold sh96
  have ov := hz.one
  have hz0 := hz
  obtain ⟨bt, s, wv, rfl, hr, hzs, hq⟩ := hz
  refine h.boxV fun b W h => ?_
  refine h.boxV fun bl W h => ?_
  refine w_neqL (ifd (fun hne => ?_) fun hne => ?_)
  · replace h := h.drew
    refine ⟨St w0 G0 _, h, ?_⟩
    refine ss_load (a_nil (a_fld0 (s_ld (t := 136) (cs := [s, .int .i64 t, wv]) (fun w hw => hr.below hw.low) rfl (ss_load ?_))))
    refine rangeq_specZ (lo := lo) (hi := hi) hq h (by omega) fun f ba b1 b2 W hI h => ?_
    rw [pm_own hne] at hI
    have of : Cel1 f := by obtain ⟨_, _, rfl, _⟩ := id hI; exact ⟨rfl⟩
    exact k f _ W hI of h.to
  · have hhi : hi = [] := Classical.not_not.1 hne
    subst hhi
    refine v_func ?_
    exact k _ _ W (own1_itrZ (b := b) (bl := bl) hz0 hl) ⟨rfl⟩ (St.shut2 (φ := True) trivial h.to)

theorem tscan1_itrZ {n b bl bh : Nat} {lo hi : Txt} (hz : TxZ rs low t wm w0 v) (hb : Bd n (rwvs rs)) (hn : n ≤ 100000) (hl : wm.length ≤ 100000) :
    Itr Try.prog w0 G0 (.func (.func 93) #[] #[.pointer (some ⟨b, 0, none⟩), .pointer (some ⟨bl, 0, none⟩), .pointer (some ⟨bh, 0, none⟩)]) (tellP (tscan (rwvs rs) t wm lo hi)) (ItT b bl bh v lo hi) := by
  refine ⟨93, _, rfl, hentD _ (by kernel_rfl), fun yv C D I W RR oy hY h hd hs => ?_⟩
  show CallF Try.prog 93 #[yv, .pointer (some ⟨b, 0, none⟩), .pointer (some ⟨bl, 0, none⟩), .pointer (some ⟨bh, 0, none⟩)] W RR
  refine sh93_calls ?_
  unfold sh93
  replace h := (St.open3 h.swap).2
  have ov := hz.one
  refine h.boxV fun bx W h => ?_
  replace h := h.drew
  refine ⟨St w0 G0 [Ky b (Ob (.cells [v].toArray 72 (0, 0))), Ky bl (Ob (.cells [strV lo].toArray 9 (0, 0))), Ky bh (Ob (.cells [strV hi].toArray 9 (0, 0)))], h.to, ?_⟩
  refine ss_load (ss_load (ss_load (ss_load (ss_load (ss_load ?_)))))
  refine stored_specZ (lo := lo) (hi := hi) hz hb hn h fun f1 A1 W hI1 of1 h => ⟨h.to, ?_⟩
  refine own_specZ (lo := lo) (hi := hi) hz hl h fun f2 A2 W hI2 of2 h => ?_
  have hl1 := stW_len (rwvs rs) lo hi t
  have hl2 := ownW_len wm lo hi
  have hb1 := hb.1
  refine mergeq_spec (f1 := f1) (f2 := f2) hI1 hI2 h (by omega) (by omega) fun f b1 b2 W hI h => ?_
  unfold tscan at hY hd hs
  rw [← ts_tells] at hY hd hs
  refine rngFm tsF [Ky bx (Ob (.cells [yv].toArray 115 (0, 0)))] hI hY tellQ_len (l := Ky b (Ob (.cells [v].toArray 72 (0, 0))) :: Ky bl (Ob (.cells [strV lo].toArray 9 (0, 0))) :: Ky bh (Ob (.cells [strV hi].toArray 9 (0, 0))) :: I) ?_ ?_ ?_ ?_
  · simp only [List.cons_append, List.nil_append]
    exact h.to
  · intro i x hxi ll rec I' W kn ks h hno hyes
    obtain ⟨p, hp, rfl⟩ := tellQ_at hxi
    simp only [List.cons_append, List.nil_append] at h hno hyes
    rw [tsF_at] at hno hyes
    refine app2 ?_
    refine h.allocS fun b5 W h => ?_
    refine St.storeS (cs' := [strV p.2.1, strV p.2.2.1, .bool p.2.2.2]) h fun W h => ?_
    refine ⟨h.ob (b := ll), ?_⟩
    replace h := h.putO (b := ll) (o := .loop (rec .ready none)) (.loop (rec .busy none))
    refine app3 ?_
    refine jni (fun vs W' => kn W') (fun _ _ _ h => h) ?_
    refine a_fld0 (h.load ?_)
    refine a_not (ifnb (fun hc => ?_) fun hc => ?_)
    · rw [hc] at hyes
      refine h.load (a_fld0 (h.load ?_))
      refine hyes _ rfl _ _ h.to (fun W'' hk => ?_) fun W'' hk => ?_
      · exact a_not (iff' hk)
      · exact a_not (ift hk)
    · rw [hc] at hno
      exact hno rfl _ h.to
  · intro DD W h
    simp only [List.cons_append, List.nil_append] at h
    refine ⟨h.ob (b := DD), hd _ ?_⟩
    replace h := h.putO (b := DD) (o := .deferred (some [])) (.deferred none)
    refine St.swap (St.shut3 (φ := True) trivial ?_)
    exact h.to
  · intro DD j W hj h
    simp only [List.cons_append, List.nil_append] at h
    refine ⟨h.ob (b := DD), hs j _ hj ?_⟩
    replace h := h.putO (b := DD) (o := .deferred (some [])) (.deferred none)
    refine St.swap (St.shut3 (φ := True) trivial ?_)
    exact h.to

/-- Scan -/
theorem tscan_specZ {n : Nat} {lo hi : Txt} (hz : TxZ rs low t wm w0 v) (hb : Bd n (rwvs rs)) (hn : n ≤ 100000) (hl : wm.length ≤ 100000) (h : St w0 G0 l W) (k : ∀ f A W', Itr Try.prog w0 G0 f (tellP (tscan (rwvs rs) t wm lo hi)) A → Cel1 f → St w0 G0 (Ky f A :: l) W' → RR f W') :
    CallF Try.prog 53 #[v, strV lo, strV hi] W RR := by
  refine sh53_calls ?_
  unfold sh53
  have ov := hz.one
  refine h.boxV fun b W h => ?_
  refine h.boxV fun bl W h => ?_
  refine h.boxV fun bh W h => ?_
  refine v_func ?_
  exact k _ _ W (tscan1_itrZ (b := b) (bl := bl) (bh := bh) hz hb hn hl) ⟨rfl⟩ (St.shut3 (φ := True) trivial h.to)
end
end Go.Proofs.Ytffnabbchghokaa

/-
  TRANSACTIONS: prefixes told; the law's operations, its stores: what each function answers.
-/
namespace Go.Ez
open Go
theorem tw_step {α : Type} {p : α → Bool} {l : List α} {i : Nat} {x : α} (h : l.takeWhile p = l.take i ++ (l.drop i).takeWhile p) (hx : l[i]? = some x) :
    (p x = true → l.takeWhile p = l.take (i + 1) ++ (l.drop (i + 1)).takeWhile p ∧ (l.takeWhile p)[i]? = some x) ∧ (p x = false → l.takeWhile p = l.take i) := by
  have hil := List.getElem?_eq_some_iff.1 hx
  have hil1 := hil.1
  have hd : l.drop i = x :: l.drop (i + 1) := by rw [List.drop_eq_getElem_cons hil.1, hil.2]
  rw [hd] at h
  constructor
  · intro hp
    rw [List.takeWhile_cons_of_pos hp] at h
    have e : l.takeWhile p = l.take (i + 1) ++ (l.drop (i + 1)).takeWhile p := by
      rw [h, List.take_add_one, hx]; simp
    refine ⟨e, ?_⟩
    rw [h, List.getElem?_append_right (by rw [List.length_take]; omega), List.length_take, Nat.min_eq_left (by omega)]
    simp
  · intro hp
    rw [List.takeWhile_cons_of_neg (by simp [hp]), List.append_nil] at h
    exact h
end Go.Ez
namespace Go.Proofs.Ytffnabbchghokaa
open Go Go.Ez Go.RowKit
set_option linter.unusedSimpArgs false
set_option linter.unusedVariables false
section
variable {w0 W W' : World} {G : Nat → Prop} {l R R1 : List As} {rs : Rsvs} {low t : Int} {v s : Value} {RR : Value → World → Prop} {wm : List (Txt × Wr)} {key : Txt} {L : List As} {rows : VRows Txt}

theorem hasPrefix_spec {a p : Txt} (k : RR (.bool (isPre p a)) W) : CallF Try.prog 98 #[strV a, strV p] W RR := by
  refine sh98_calls ?_
  unfold sh98
  refine sh124_calls ?_
  unfold sh124
  refine x_len (x_len (a_geq (ifd (fun hc => ?_) fun hc => ?_)))
  · refine x_len (x_cutH (by omega) (w_eqlL ?_))
    exact k
  · have : isPre p a = false := by
      unfold isPre
      refine decide_eq_false fun e => hc ?_
      have := congrArg List.length e
      rw [List.length_take] at this
      omega
    rw [this] at k
    exact k

theorem tpre1_itrZ {n b bl : Nat} {p : Txt} (hz : TxZ rs low t wm w0 v) (hb : Bd n (rwvs rs)) (hn : n ≤ 100000) (hl : wm.length ≤ 100000) :
    Itr Try.prog w0 G0 (.func (.func 97) #[] #[.pointer (some ⟨b, 0, none⟩), .pointer (some ⟨bl, 0, none⟩)]) (tellP (tpre (rwvs rs) t wm p)) (ItP b bl v p) := by
  refine ⟨97, _, rfl, hentD _ (by kernel_rfl), fun yv C D I W RR oy hY h hd hs => ?_⟩
  show CallF Try.prog 97 #[yv, .pointer (some ⟨b, 0, none⟩), .pointer (some ⟨bl, 0, none⟩)] W RR
  refine sh97_calls ?_
  unfold sh97
  replace h := (St.open2 h.swap).2
  have ov := hz.one
  refine h.boxV fun bx W h => ?_
  refine h.load (h.load ?_)
  refine tscan_specZ (lo := p) (hi := []) hz hb hn hl h fun f A W hI of h => ?_
  have hlen : ∀ x ∈ tellP (tscan (rwvs rs) t wm p []), x.length = 2 := by
    intro x hx
    obtain ⟨p, _, rfl⟩ := List.mem_map.1 hx
    rfl
  have hN : (tellP (tpre (rwvs rs) t wm p)).length = (tpre (rwvs rs) t wm p).length := List.length_map ..
  have htp : tpre (rwvs rs) t wm p = (tscan (rwvs rs) t wm p []).takeWhile fun x => isPre p x.1 := rfl
  generalize hT : tscan (rwvs rs) t wm p [] = T at hI htp hlen
  generalize tpre (rwvs rs) t wm p = N at hY hd hs hN htp
  refine rngI (C := fun i => As.all (N = T.take i ++ (T.drop i).takeWhile fun x => isPre p x.1) [Ky bx (Ob (.cells [yv].toArray 115 (0, 0))), Ky bl (Ob (.cells [strV p].toArray 9 (0, 0))), Ky i C])
    (fun c i => As.ex fun q : Bool => As.all (c = .ret ∧ (if q then i ≤ N.length else i = N.length + 1)) [Ky bl (Ob (.cells [strV p].toArray 9 (0, 0))), match q with | true => Ky i D | false => Ky (i - 1) C]) hI hlen (l := Ky b (Ob (.cells [v].toArray 72 (0, 0))) :: I) ?_ ?_ ?_ ?_
  · exact St.shut3 (by rw [htp]; simp) h.to
  · intro i x hxi ll rec I' W kn ks h hn' hk
    obtain ⟨y, hy, rfl⟩ : ∃ y, T[i]? = some y ∧ x = [strV y.1, strV y.2] := by
      rw [List.getElem?_map] at hxi
      cases hk0 : T[i]? with
      | none => rw [hk0] at hxi; cases hxi
      | some k0 => rw [hk0] at hxi; cases hxi; exact ⟨k0, rfl, rfl⟩
    refine app2 ?_
    refine ⟨h.ob (b := ll), ?_⟩
    replace h := h.putO (b := ll) (o := .loop (rec .ready none)) (.loop (rec .busy none))
    obtain ⟨hφ, h⟩ := St.open3 h.swap
    have hst := tw_step (p := fun x : Txt × Txt => isPre p x.1) (by rw [← htp]; exact hφ) hy
    rw [← htp] at hst
    have hil := (List.getElem?_eq_some_iff.1 hy).1
    refine app4 ?_
    refine h.load ?_
    refine hasPrefix_spec ?_
    refine a_not (ifnb (fun hp => ?_) fun hp => ?_)
    · have he := hst.2 hp
      have hNi : N.length = i := by rw [he, List.length_take]; omega
      refine hk .ret _ (St.swap (St.shutE false (St.shut2 ⟨rfl, by simp [hNi]⟩ ?_)))
      show St w0 G0 (Ky bl (Ob (.cells [strV p].toArray 9 (0, 0))) :: Ky (i + 1 - 1) C :: Ky ll (Ob (.loop (rec .busy none))) :: I') _
      rw [Nat.add_sub_cancel]
      exact h.to
    · obtain ⟨h1, h2⟩ := hst.1 hp
      refine h.load ?_
      have hg : (tellP N)[i]? = some [strV y.1, strV y.2] := by rw [List.getElem?_map, h2]; rfl
      have hNl := (List.getElem?_eq_some_iff.1 h2).1
      refine hY i _ hg (Ky bx (Ob (.cells [yv].toArray 115 (0, 0))) :: Ky bl (Ob (.cells [strV p].toArray 9 (0, 0))) :: Ky ll (Ob (.loop (rec .busy none))) :: I') _ _ h.to (fun W h => ?_) fun W h => ?_
      · refine a_not (iff' ?_)
        exact hn' W (St.swap (St.shut3 h1 h.to))
      · refine a_not (ift ?_)
        refine hk .ret W (St.swap (St.shutE true (St.shut2 ⟨rfl, by simp; omega⟩ ?_)))
        show St w0 G0 (Ky bl (Ob (.cells [strV p].toArray 9 (0, 0))) :: Ky (i + 1) D :: Ky ll (Ob (.loop (rec .busy none))) :: I') _
        exact h.to
  · intro DD W h
    rw [List.length_map] at h
    obtain ⟨hφ, h⟩ := St.open3 h.swap
    rw [List.take_length, List.drop_length] at hφ
    have hNT : N.length = T.length := by rw [hφ]; simp
    refine ⟨h.ob (b := DD), hd _ ?_⟩
    replace h := h.putO (b := DD) (o := .deferred (some [])) (.deferred none)
    rw [hN, hNT]
    refine St.swap (St.shut2 (φ := True) trivial ?_)
    exact h.to
  · intro DD c i W hi h
    obtain ⟨q, h2⟩ := St.openE (show St w0 G0 (As.ex _ :: _) W from h.swap)
    obtain ⟨⟨hcc, hq⟩, h3⟩ := St.openA h2
    clear h h2
    subst hcc
    have h := h3
    cases q with
    | true =>
      replace h : St w0 G0 (Ky bl (Ob (.cells [strV p].toArray 9 (0, 0))) :: Ky i D :: Ky DD (Ob (.deferred (some []))) :: Ky f A :: Ky b (Ob (.cells [v].toArray 72 (0, 0))) :: I) W := h
      refine ⟨h.ob (b := DD), hs i _ (by rw [hN]; simpa using hq) ?_⟩
      replace h := h.putO (b := DD) (o := .deferred (some [])) (.deferred none)
      refine St.swap (St.shut2 (φ := True) trivial ?_)
      exact h.to
    | false =>
      replace h : St w0 G0 (Ky bl (Ob (.cells [strV p].toArray 9 (0, 0))) :: Ky (i - 1) C :: Ky DD (Ob (.deferred (some []))) :: Ky f A :: Ky b (Ob (.cells [v].toArray 72 (0, 0))) :: I) W := h
      have hi1 : i - 1 = N.length := by simp at hq; omega
      rw [hi1] at h
      refine ⟨h.ob (b := DD), hd _ ?_⟩
      replace h := h.putO (b := DD) (o := .deferred (some [])) (.deferred none)
      rw [hN]
      refine St.swap (St.shut2 (φ := True) trivial ?_)
      exact h.to

/-- Prefix -/
theorem tpre_specZ {n : Nat} {p : Txt} (hz : TxZ rs low t wm w0 v) (hb : Bd n (rwvs rs)) (hn : n ≤ 100000) (hl : wm.length ≤ 100000) (h : St w0 G0 l W) (k : ∀ f A W', Itr Try.prog w0 G0 f (tellP (tpre (rwvs rs) t wm p)) A → Cel1 f → St w0 G0 (Ky f A :: l) W' → RR f W') :
    CallF Try.prog 54 #[v, strV p] W RR := by
  refine sh54_calls ?_
  unfold sh54
  have ov := hz.one
  refine h.boxV fun b W h => ?_
  refine h.boxV fun bl W h => ?_
  refine v_func ?_
  exact k _ _ W (tpre1_itrZ (b := b) (bl := bl) hz hb hn hl) ⟨rfl⟩ (St.shut2 (φ := True) trivial h.to)

/-- a transaction's scan, taken -/
theorem tscanTake_spec {n : Nat} {lo hi : Txt} {q : Int} (hz : TxZ rs low t wm W v) (hb : Bd n (rwvs rs)) (hn : n ≤ 100000) (hl : wm.length ≤ 100000)
    (k : ∀ v' W', Cel1 v' → St W G0 [Ky v' (Ow 50 2 ((tscan (rwvs rs) t wm lo hi).take q.toNat).length (pcells ((tscan (rwvs rs) t wm lo hi).take q.toNat)))] W' → RR v' W') :
    CallF Try.prog 53 #[v, strV lo, strV hi] W fun f w => CallF Try.prog 24 #[f, .int .i64 q] w RR := by
  refine tscan_specZ hz hb hn hl (St.start W) fun f A W1 hI of h1 => ?_
  have hsl := tscan_len (rwvs rs) t wm lo hi
  have := hb.1
  refine vpairs_spec hI h1 (by omega) fun v' W2 o h2 => ?_
  exact k v' W2 o h2.to
theorem tpreTake_spec {n : Nat} {p : Txt} {q : Int} (hz : TxZ rs low t wm W v) (hb : Bd n (rwvs rs)) (hn : n ≤ 100000) (hl : wm.length ≤ 100000)
    (k : ∀ v' W', Cel1 v' → St W G0 [Ky v' (Ow 50 2 ((tpre (rwvs rs) t wm p).take q.toNat).length (pcells ((tpre (rwvs rs) t wm p).take q.toNat)))] W' → RR v' W') :
    CallF Try.prog 54 #[v, strV p] W fun f w => CallF Try.prog 24 #[f, .int .i64 q] w RR := by
  refine tpre_specZ hz hb hn hl (St.start W) fun f A W1 hI of h1 => ?_
  have hsl := tpre_len (rwvs rs) t wm p
  have := hb.1
  refine vpairs_spec hI h1 (by omega) fun v' W2 o h2 => ?_
  exact k v' W2 o h2.to
end

section
variable {w0 W W' : World} {l R : List As} {low t : Int} {v s : Value} {RR : Value → World → Prop} {wm : List (Txt × Wr)} {key : Txt} {L : List As} {rows : VRows Txt}
/-- hbllaw12.first -/
theorem tfirst_spec {Wz : World} (k : ∀ W', Below Wz.heap.size Wz W' → RR (.bool true) W') : CallF Try.prog 45 #[] Wz RR := by
  refine sh45_calls ?_
  unfold sh45
  refine VsI.new_spec (St.start Wz) fun bs W1 h => ?_
  obtain ⟨kp, rs, hk, hr, h⟩ := h
  refine begin_spec (t := 0) rfl h fun bt W2 h => ?_
  refine x_nilP (iff' (x_nilP (iff' ?_)))
  generalize (.pointer (some ⟨bt, 0, none⟩) : Value) = v at *
  refine tput_spec (v := v) (key := [97]) (x := [49]) h (by decide) fun W3 _ h => ?_
  have e1 : wrR [] [97] [49] false = (0, [([97], ([97], [49], false))]) := rfl
  rw [e1] at h ⊢
  refine tdel_spec (v := v) (key := [97]) h (by decide) fun W4 _ h => ?_
  have e2 : wrR [([97], ([97], [49], false))] [97] [] true = (0, [([97], ([97], [], true))]) := rfl
  rw [e2] at h ⊢
  refine w_eql (ifd_pos rfl (w_eql (ifd_pos rfl ?_)))
  have hV : VsI Wz (.pointer (some ⟨bs, 0, none⟩)) [] 0 [Ky v (Tx (.pointer (some ⟨bs, 0, none⟩)) 0 [([97], ([97], [], true))])] W4 := ⟨kp, rs, hk, hr, h.to⟩
  have hB : Bd 0 ([] : VRows Txt) := ⟨Nat.le_refl _, fun r hr => by cases hr⟩
  obtain ⟨rs1, hr1, hz⟩ := hV.tz (v := v)
  refine tscanTake_spec (n := 0) (lo := []) (hi := []) hz (by rw [hr1]; exact hB) (by decide) (by decide) fun p1 W5 _ h1 => ?_
  have e3 : (tscan (rwvs rs1) 0 [([97], ([97], [], true))] [] []).take (9 : Int).toNat = [] := by
    have e4 : ownW [([97], ([97], [], true))] [] [] = [([97], ([97], [], true))] := by simp [ownW, inR_all]
    have e5 : stW ([] : VRows Txt) [] [] 0 = [] := rfl
    rw [hr1]
    unfold tscan
    rw [e4, e5]
    simp [mrg]
  rw [e3] at h1
  refine x_lenS (h1.osl (v := p1)) (w_eql (ifd_pos rfl ?_))
  have hz := hz.below h1.low
  refine twlist_spec hz (by decide) fun p2 W6 _ h2 => ?_
  refine x_lenS (h2.osl (v := p2)) (w_eql (ifd_pos rfl ?_))
  have hz := hz.below h2.low
  refine twlist_spec hz (by decide) fun p3 W7 _ h3 => ?_
  refine x_fld (i := 0) (h3.osl (v := p3)) (by decide) (by decide) (u := .bool true) rfl ?_
  exact k W7 ((hV.ext h1.low).ext h2.low |>.ext h3.low).low'

/-- an operation of the law -/
structure TOp where
  kind : Int
  key : Txt
  v : Txt
  hi : Txt
def TOp.cells (o : TOp) : List Value := [.int .i64 o.kind, strV o.key, strV o.v, strV o.hi]
abbrev topsC (l : List TOp) : List Value := rcells TOp.cells l
theorem tops_get {l : List TOp} {i j : Nat} {o : TOp} (h : l[i]? = some o) (hj : j < 4) : (topsC l)[i * 4 + j]? = (TOp.cells o)[j]? := rc_get (f := TOp.cells) (sz := 4) (fun _ => rfl) h hj

/-- hbllaw12.few -/
theorem tfew_spec {ops : List TOp} {v : Value} {n : Nat} (hv : Sl W 4 v n (topsC ops)) (hn : n = ops.length) (k : ∀ b W', Below W.heap.size W W' → (b = true → ops.length ≤ 1300) → RR (.bool b) W') :
    CallF Try.prog 47 #[v] W RR := by
  refine sh47_calls ?_
  unfold sh47
  subst hn
  refine jni (fun vs W' => vs = [v] ∧ Below W.heap.size W W') ?_ ?_
  · rintro vs W' _ ⟨rfl, hb⟩
    refine app1 ?_
    refine x_lenS hv (a_leq ?_)
    exact k _ W' hb fun h => by have := of_decide_eq_true h; omega
  refine lpx (α := Int × Nat) (fun x => [.int .i64 x.1, nV .i64 x.2]) (fun x W' => x.2 ≤ ops.length ∧ x.2 ≤ 1300 ∧ 0 ≤ x.1 ∧ x.1 ≤ 100000 ∧ Below W.heap.size W W') (fun x => ops.length - x.2) (0, 0) (fun _ => rfl) rfl ⟨Nat.zero_le _, Nat.zero_le _, Int.le_refl _, by decide, Below.refl _ _⟩ ?_
  rintro next ⟨c, i⟩ W1 hnext ⟨hi, hi3, hc0, hc1, hb⟩
  simp only at hi hi3 hc0 hc1 ⊢
  refine app2 ?_
  refine x_lenS hv ?_
  refine a_lss (ifd (fun hc => ?_) fun hc => ?_)
  · refine a_lss (ifd (fun hc3 => ?_) fun hc3 => ?_)
    · obtain ⟨o, ho⟩ : ∃ d, ops[i]? = some d := ⟨_, List.getElem?_eq_getElem (by omega)⟩
      replace hb := hb.drew
      refine ⟨fun w => w = W1.drew, rfl, ?_⟩
      refine x_sfld (hv.below hb) (fun _ e => by subst e; exact hv.below hb) (by omega) (by decide) ((tops_get ho (j := 1) (by decide)).trans rfl) ?_
      refine x_lens (s_min (a_add64 (by omega) (by omega) ?_))
      refine x_sfld (hv.below hb) (fun _ e => by subst e; exact hv.below hb) (by omega) (by decide) ((tops_get ho (j := 2) (by decide)).trans rfl) ?_
      refine x_lens (s_min (a_add64 (by omega) (by omega) ?_))
      refine x_sfld (hv.below hb) (fun _ e => by subst e; exact hv.below hb) (by omega) (by decide) ((tops_get ho (j := 3) (by decide)).trans rfl) ?_
      refine x_lens (s_min (a_add64 (by omega) (by omega) ?_))
      refine a_gtr (ifd (fun _ => k false _ hb fun h => by cases h) fun hle => ?_)
      refine a_add64 (by omega) (by omega) ⟨trivial, ?_⟩
      rw [show ((i : Int) + 1) = ((i + 1 : Nat) : Int) by push_cast; rfl]
      refine hnext (_, i + 1) _ (by show ops.length - (i + 1) < ops.length - i; omega) ⟨by show i + 1 ≤ _; omega, by show i + 1 ≤ _; omega, ?_, ?_, hb⟩
      · show 0 ≤ c + min _ _ + min _ _ + min _ _; omega
      · show c + min _ _ + min _ _ + min _ _ ≤ _; omega
    · exact ⟨rfl, hb⟩
  · exact ⟨rfl, hb⟩

/-- hbllaw12.stores -/
theorem stores_spec {Wz : World} {a : List VOp} {av : Value} {na : Nat} (ha : Sl Wz 5 av na (vopsC a)) (hna : na = a.length) (k : ∀ bs bx rows W', Bd 300 rows → Gd rows → PlI Wz (.pointer (some ⟨bs, 0, none⟩)) rows 0 (.pointer (some ⟨bx, 0, none⟩)) rows 0 [] W' → RR (.tuple #[.pointer (some ⟨bs, 0, none⟩), .pointer (some ⟨bx, 0, none⟩)]) W') :
    CallF Try.prog 46 #[av] Wz RR := by
  refine sh46_calls ?_
  unfold sh46
  subst hna
  refine VsI.new_spec (St.start Wz) fun bv W2 h => ?_
  obtain ⟨kp, rs, hk, hr, h⟩ := h
  have hrs : rs = [] := by
    have := congrArg List.length hr
    rw [rwLenvs] at this
    exact List.eq_nil_of_length_eq_zero this
  subst hrs
  refine x_bld (cells := [.slice none 0 0, .int .i64 0].toArray) rfl ?_
  refine h.boxS (cs := [.slice none 0 0, .int .i64 0]) fun bx W h => ?_
  have h1 : St Wz G0 (Ky (.slice none 0 0 : Value) (Ow 130 2 0 []) :: _) W := h.nilOw
  have h2 := shutX (b := bx) (sl := .slice none 0 0) (rs := []) h1 List.Pairwise.nil rfl rfl
  have h3 := h2.kqNil PoolK.c verCvs 128 3
  have h0 : PlI Wz (.pointer (some ⟨bv, 0, none⟩)) [] 0 (.pointer (some ⟨bx, 0, none⟩)) [] 0 [] W := ⟨[], [], (fun r hr => by cases hr), rfl, kp, [], hk, rfl, h3.to⟩
  clear h h1 h2 h3
  refine x_nilP (iff' ?_)
  refine jni (fun vs W' => vs = [.pointer (some ⟨bv, 0, none⟩), .pointer (some ⟨bx, 0, none⟩)] ∧ ∃ rows, Bd 300 rows ∧ Gd rows ∧ PlI Wz (.pointer (some ⟨bv, 0, none⟩)) rows 0 (.pointer (some ⟨bx, 0, none⟩)) rows 0 [] W') ?_ ?_
  · rintro vs W3 _ ⟨rfl, rows, h1, h2, h3⟩
    exact app2 (k bv bx rows W3 h1 h2 h3)
  refine lpx (α := Nat) (fun i => [nV .i64 i]) (fun i W' => i ≤ a.length ∧ i ≤ 300 ∧ ∃ rows, Bd i rows ∧ Gd rows ∧ PlI Wz (.pointer (some ⟨bv, 0, none⟩)) rows 0 (.pointer (some ⟨bx, 0, none⟩)) rows 0 [] W') (fun i => a.length - i) 0 (fun _ => rfl) rfl
    ⟨Nat.zero_le _, Nat.zero_le _, [], ⟨Nat.le_refl _, fun r hr => by cases hr⟩, (fun r hr => by cases hr), h0⟩ ?_
  clear h0
  rintro next i W3 hnext ⟨hi, hi3, rows, hbd, hgd, h⟩
  refine app1 ?_
  have ha3 := ha.below h.blw
  refine x_lenS ha3 ?_
  refine a_lss (ifd (fun hc => ?_) fun hc => ?_)
  · refine a_lss (ifd (fun hc3 => ?_) fun hc3 => ?_)
    · obtain ⟨o, ho⟩ : ∃ d, a[i]? = some d := ⟨_, List.getElem?_eq_getElem (by omega)⟩
      refine jni (fun vs W' => vs = [av, .pointer (some ⟨bv, 0, none⟩), .pointer (some ⟨bx, 0, none⟩), nV .i64 i] ∧ ∃ rows, Bd (i + 1) rows ∧ Gd rows ∧ PlI Wz (.pointer (some ⟨bv, 0, none⟩)) rows 0 (.pointer (some ⟨bx, 0, none⟩)) rows 0 [] W') ?_ ?_
      · rintro vs W4 _ ⟨rfl, rows, h1, h2, h3⟩
        refine app4 ?_
        refine a_add64 (by omega) (by omega) ⟨rfl, rfl, rfl, ?_⟩
        rw [show ((i : Int) + 1) = ((i + 1 : Nat) : Int) by push_cast; rfl]
        exact hnext (i + 1) W4 (by omega) ⟨by omega, by omega, rows, h1, h2, h3⟩
      refine x_idx ha3 (by omega) fun bb oo hcell => ?_
      refine x_lds (cs := VOp.cells o) rfl (fun j u hu => hcell j u (List.getElem?_eq_some_iff.1 hu).1 ((vops_get ho (List.getElem?_eq_some_iff.1 hu).1).trans hu)) ?_
      refine (St.start W3).allocS fun bo W h' => ?_
      refine h'.storeS (cs' := [.int .i64 o.kind, .int .i64 o.at_, strV o.key, strV o.v, strV o.hi]) fun W h' => ?_
      replace h := h.frame h'
      clear h'
      have same : ∀ W', PlI Wz (.pointer (some ⟨bv, 0, none⟩)) rows 0 (.pointer (some ⟨bx, 0, none⟩)) rows 0 [Ky bo (Ob (.cells [.int .i64 o.kind, .int .i64 o.at_, strV o.key, strV o.v, strV o.hi].toArray 40 (0, 0)))] W' →
        ∃ rows, Bd (i + 1) rows ∧ Gd rows ∧ PlI Wz (.pointer (some ⟨bv, 0, none⟩)) rows 0 (.pointer (some ⟨bx, 0, none⟩)) rows 0 [] W' := fun W' h => ⟨rows, hbd.mono (by omega), hgd, h.to⟩
      refine a_fld0 (w_ldR h.rc rfl ?_)
      refine x_len (a_gtr (ifd (fun _ => ⟨rfl, same _ h⟩) fun _ => ?_))
      refine a_fld0 (w_ldR h.rc rfl ?_)
      refine x_len (a_gtr (ifd (fun _ => ⟨rfl, same _ h⟩) fun _ => ?_))
      refine a_fld0 (w_ldR h.rc rfl ?_)
      refine jni (fun vs W' => vs = [av, .pointer (some ⟨bv, 0, none⟩), .pointer (some ⟨bx, 0, none⟩), nV .i64 i] ∧ ∃ rows, Bd (i + 1) rows ∧ Gd rows ∧ PlI Wz (.pointer (some ⟨bv, 0, none⟩)) rows 0 (.pointer (some ⟨bx, 0, none⟩)) rows 0 [] W') (by rintro vs W' _ ⟨rfl, hrest⟩; exact app4 ⟨rfl, hrest⟩) ?_
      refine w_eql (ifd (fun _ => ?_) fun _ => ?_)
      · refine a_fld0 (w_ldR h.rc rfl (a_fld0 (w_ldR h.rc rfl (a_fld0 (w_ldR h.rc rfl ?_)))))
        refine h.prog fun L' hV back => hV.add_spec (key := o.key) (val := o.v) hbd (by omega) fun W5 hV => ?_
        replace h := back _ _ _ hV
        refine a_fld0 (w_ldR h.rc rfl (a_fld0 (w_ldR h.rc rfl (a_fld0 (w_ldR h.rc rfl ?_)))))
        refine h.xput (key := o.key) (val := o.v) hbd (by omega) fun W6 h => ?_
        exact ⟨rfl, _, hbd.add _ _ _, hgd.add (fun h => by cases h), h.to⟩
      refine jni (fun vs W' => vs = [av, .pointer (some ⟨bv, 0, none⟩), .pointer (some ⟨bx, 0, none⟩), nV .i64 i] ∧ ∃ rows, Bd (i + 1) rows ∧ Gd rows ∧ PlI Wz (.pointer (some ⟨bv, 0, none⟩)) rows 0 (.pointer (some ⟨bx, 0, none⟩)) rows 0 [] W') (by rintro vs W' _ ⟨rfl, hrest⟩; exact app4 ⟨rfl, hrest⟩) ?_
      refine w_eql (ifd (fun _ => ?_) fun _ => ⟨rfl, same _ h⟩)
      refine a_fld0 (w_ldR h.rc rfl (a_fld0 (w_ldR h.rc rfl ?_)))
      refine h.prog fun L' hV back => hV.kill_spec (key := o.key) hbd (by omega) fun W5 hV => ?_
      replace h := back _ _ _ hV
      refine a_fld0 (w_ldR h.rc rfl (a_fld0 (w_ldR h.rc rfl ?_)))
      refine h.xkill (key := o.key) hbd (by omega) fun W6 h => ?_
      exact ⟨rfl, _, hbd.add _ _ _, hgd.add (fun _ => rfl), h.to⟩
    · exact ⟨rfl, rows, hbd.mono hi3, hgd, h⟩
  · exact ⟨rfl, rows, hbd.mono hi3, hgd, h⟩
end
end Go.Proofs.Ytffnabbchghokaa

/-
  TRANSACTIONS, plainly: what a scan shows, key by key; parts of scans. No program in sight.
-/
namespace Go.Ez
open Go
set_option linter.unusedSimpArgs false
set_option linter.unusedVariables false
section
variable {κ β γ : Type} [OKey κ] [DecidableEq κ]
/-- a sorted list's values turned, some left out -/
theorem getK_fm {g : β → Option γ} {m : List (κ × β)} (hs : Srt m) (k : κ) : getK k (m.filterMap fun p => (g p.2).map fun x => (p.1, x)) = (getK k m).bind g := by
  induction m with
  | nil => rfl
  | cons p m ih =>
    have hs' := List.pairwise_cons.1 hs
    have ih := ih hs'.2
    by_cases e : p.1 = k
    · subst e
      have hn : getK p.1 m = none := by
        cases h : getK p.1 m with
        | none => rfl
        | some x =>
          have := hs'.1 _ (getK_mem h)
          rw [OKey.irr] at this; cases this
      rw [show getK p.1 (p :: m) = some p.2 by simp [getK]]
      cases hg : g p.2 with
      | none =>
        rw [List.filterMap_cons_none (by simp [hg]), ih, hn]
        simp [hg]
      | some x =>
        rw [List.filterMap_cons_some (b := (p.1, x)) (by simp [hg])]
        simp [getK, hg]
    · rw [show getK k (p :: m) = getK k m by simp [getK, e], ← ih]
      cases hg : g p.2 with
      | none => rw [List.filterMap_cons_none (by simp [hg])]
      | some x =>
        rw [List.filterMap_cons_some (b := (p.1, x)) (by simp [hg])]
        simp [getK, e]
omit [DecidableEq κ] in
theorem srt_fm {g : β → Option γ} {m : List (κ × β)} (hs : Srt m) : Srt (m.filterMap fun p => (g p.2).map fun x => (p.1, x)) := by
  unfold Srt
  rw [List.pairwise_filterMap]
  refine List.Pairwise.imp ?_ hs
  intro p q hpq b hb b' hb'
  cases hg : g p.2 with
  | none => rw [hg] at hb; cases hb
  | some x =>
    cases hg' : g q.2 with
    | none => rw [hg'] at hb'; cases hb'
    | some y => rw [hg] at hb; rw [hg'] at hb'; cases hb; cases hb'; exact hpq
omit [OKey κ] in
theorem getK_filter {c : κ → Bool} {m : List (κ × β)} (k : κ) : getK k (m.filter fun p => c p.1) = if c k then getK k m else none := by
  induction m with
  | nil => simp [getK]
  | cons p m ih =>
    by_cases e : p.1 = k
    · subst e
      cases hc : c p.1 with
      | true => rw [List.filter_cons_of_pos (by simp [hc])]; simp [getK]
      | false => rw [List.filter_cons_of_neg (by simp [hc]), ih, hc]; simp
    · cases hc : c p.1 with
      | true => rw [List.filter_cons_of_pos (by simp [hc])]; simp [getK, e, ih]
      | false => rw [List.filter_cons_of_neg (by simp [hc]), ih]; simp [getK, e]
omit [DecidableEq κ] in
theorem srt_filter {c : κ × β → Bool} {m : List (κ × β)} (hs : Srt m) : Srt (m.filter c) := List.Pairwise.filter _ hs
end
section
variable {rows : VRows Txt} {t : Int} {wm : List (Txt × Wr)}
theorem stW_srt (hs : Srt rows) (lo hi : Txt) (t : Int) : Srt (stW rows lo hi t) := by
  unfold Srt stW
  rw [List.pairwise_map]
  exact scanR_srt hs lo hi t
theorem stW_get (hs : Srt rows) (lo hi : Txt) (t : Int) (k : Txt) : getK k (stW rows lo hi t) = if inR lo hi k then (toldC (chainR rows k) t).map fun v => (k, v, false) else none := by
  have h := scanR_get hs lo hi t k
  have e : ∀ m : List (Txt × Txt), getK k (m.map fun p => (p.1, (p.1, p.2, false))) = (getK k m).map fun v => (k, v, false) := by
    intro m
    induction m with
    | nil => rfl
    | cons p m ih =>
      by_cases e : p.1 = k
      · subst e; simp [getK]
      · simp only [List.map_cons, getK, if_neg e]; exact ih
  unfold stW
  rw [e, h]
  split <;> rfl
theorem ownW_get (wm : List (Txt × Wr)) (lo hi k : Txt) : getK k (ownW wm lo hi) = if inR lo hi k then getK k wm else none := getK_filter (c := inR lo hi) k
def shwW (w : Wr) : Option Txt := if w.2.2 then none else some w.2.1
theorem tscan_eq (rows : VRows Txt) (t : Int) (wm : List (Txt × Wr)) (lo hi : Txt) : tscan rows t wm lo hi = (mrg (stW rows lo hi t) (ownW wm lo hi)).filterMap fun p => (shwW p.2).map fun x => (p.1, x) := by
  unfold tscan
  refine filterMap_ext fun p _ => ?_
  show _ = Option.map _ (if p.2.2.2 then none else some p.2.2.1)
  split <;> rfl
theorem ownW_srt (hw : Srt wm) (lo hi : Txt) : Srt (ownW wm lo hi) := srt_filter hw
theorem mrgW_srt (hs : Srt rows) (hw : Srt wm) (lo hi : Txt) : Srt (mrg (stW rows lo hi t) (ownW wm lo hi)) := mrg_srt (stW_srt hs lo hi t) (srt_filter hw)
theorem tscan_srt (hs : Srt rows) (hw : Srt wm) (lo hi : Txt) : Srt (tscan rows t wm lo hi) := by
  rw [tscan_eq]; exact srt_fm (g := shwW) (mrgW_srt (t := t) hs hw lo hi)
/-- what a key shows -/
def showR (rows : VRows Txt) (t : Int) (wm : List (Txt × Wr)) (k : Txt) : Option Txt := match getK k wm with
  | some w => if w.2.2 then none else some w.2.1
  | none => toldC (chainR rows k) t
theorem tscan_get (hs : Srt rows) (hw : Srt wm) (lo hi k : Txt) : getK k (tscan rows t wm lo hi) = if inR lo hi k then showR rows t wm k else none := by
  rw [tscan_eq, getK_fm (g := shwW) (mrgW_srt (t := t) hs hw lo hi), mrg_get (stW_srt hs lo hi t) (ownW_srt hw lo hi), ownW_get, stW_get hs]
  unfold showR
  split
  · cases getK k wm with
    | some w => rfl
    | none =>
      cases toldC (chainR rows k) t <;> rfl
  · rfl
theorem seesR_show (rows : VRows Txt) (t : Int) (wm : List (Txt × Wr)) (k : Txt) {v : Txt} (h : showR rows t wm k = some v) : seesR rows t wm k = (v, true) := by
  unfold showR at h
  unfold seesR
  cases hg : getK k wm with
  | some w =>
    rw [hg] at h
    simp only at h ⊢
    cases hw : w.2.2 with
    | true => rw [hw] at h; cases h
    | false => rw [hw] at h; cases h; rfl
  | none =>
    rw [hg] at h
    simp only at h ⊢
    rw [h]; rfl
/-- a scan of a part -/
theorem tscan_part (hs : Srt rows) (hw : Srt wm) (lo hi : Txt) : tscan rows t wm lo hi = (tscan rows t wm [] []).filter fun p => inR lo hi p.1 := by
  refine srt_ext (tscan_srt hs hw lo hi) (srt_filter (tscan_srt hs hw [] [])) fun k => ?_
  rw [getK_filter (c := inR lo hi), tscan_get hs hw, tscan_get hs hw, inR_all]
  split <;> simp
/-- a key's value put, or taken away -/
def withR (l : List (Txt × Txt)) (k v : Txt) (g : Bool) : List (Txt × Txt) := l.take (posK k l) ++ ((if g then [] else [(k, v)]) ++ l.drop (posK k l + if hasK k l then 1 else 0))
theorem withR_eq (l : List (Txt × Txt)) (k v : Txt) (g : Bool) : withR l k v g = if g then delK k l else putK k v l := by
  unfold withR delK putK
  have hp := posK_le k l
  cases g with
  | true => cases hasK k l <;> simp
  | false =>
    cases hh : hasK k l with
    | false => simp
    | true =>
      obtain ⟨u, hu⟩ := hasK_spec.1 hh
      have hil := (List.getElem?_eq_some_iff.1 hu).1
      simp only [if_true, Bool.false_eq_true, if_false]
      rw [List.set_eq_take_append_cons_drop, if_pos hil]
      simp
theorem tscan_put (hs : Srt rows) (hw : Srt wm) (k v : Txt) (g : Bool) : tscan rows t (putK k (k, v, g) wm) [] [] = withR (tscan rows t wm [] []) k v g := by
  rw [withR_eq]
  have h0 := tscan_srt (t := t) hs hw [] []
  have hsR : Srt (if g then delK k (tscan rows t wm [] []) else putK k v (tscan rows t wm [] [])) := by
    split
    · exact srt_del h0
    · exact srt_put h0
  refine srt_ext (tscan_srt hs (srt_put hw) [] []) hsR fun j => ?_
  rw [tscan_get hs (srt_put hw), inR_all, if_pos rfl]
  have hj := tscan_get (t := t) hs hw [] [] j
  rw [inR_all, if_pos rfl] at hj
  unfold showR at hj ⊢
  rw [get_put hw]
  cases g with
  | true =>
    simp only [if_true]
    rw [get_del h0]
    by_cases e : j = k
    · rw [if_pos e, if_pos e]; rfl
    · rw [if_neg e, if_neg e]; exact hj.symm
  | false =>
    simp only [Bool.false_eq_true, if_false]
    rw [get_put h0]
    by_cases e : j = k
    · rw [if_pos e, if_pos e]; rfl
    · rw [if_neg e, if_neg e]; exact hj.symm
/-- the store put behind its time -/
theorem tscan_add (hs : Srt rows) {low : Int} {k : Txt} {v : Ver Txt} (h : t < v.1) (wm : List (Txt × Wr)) (lo hi : Txt) : tscan (addR rows low k v).2 t wm lo hi = tscan rows t wm lo hi := by
  unfold tscan stW
  rw [scanR_add hs h]
/-- cut in two -/
theorem split_two {β : Type} {l : List (Txt × β)} (hs : Srt l) (c : Txt) : l = (l.filter fun p => OKey.lt p.1 c) ++ l.filter fun p => !OKey.lt p.1 c := by
  induction l with
  | nil => rfl
  | cons p l ih =>
    have hs' := List.pairwise_cons.1 hs
    cases hp : OKey.lt p.1 c with
    | true =>
      rw [List.filter_cons_of_pos (by simp [hp]), List.filter_cons_of_neg (by simp [hp]), List.cons_append, ← ih hs'.2]
    | false =>
      have hall : ∀ q ∈ l, OKey.lt q.1 c = false := fun q hq => by
        cases hx : OKey.lt q.1 c with
        | false => rfl
        | true => have := OKey.tr (hs'.1 q hq) hx; rw [hp] at this; cases this
      have e1 : (p :: l).filter (fun p => OKey.lt p.1 c) = [] := by
        rw [List.filter_eq_nil_iff]
        intro q hq
        rcases List.mem_cons.1 hq with rfl | hq
        · simp [hp]
        · simp [hall q hq]
      have e2 : (p :: l).filter (fun p => !OKey.lt p.1 c) = p :: l := by
        rw [List.filter_eq_self]
        intro q hq
        rcases List.mem_cons.1 hq with rfl | hq
        · simp [hp]
        · simp [hall q hq]
      rw [e1, e2]; rfl
theorem isPre_ge : ∀ {p k : Txt}, isPre p k = true → OKey.lt k p = false
  | [], k, _ => by cases k <;> rfl
  | a :: p, [], h => by simp [isPre] at h
  | a :: p, b :: k, h => by
    have h' : b = a ∧ k.take p.length = p := by simpa [isPre] using h
    obtain ⟨rfl, h2⟩ := h'
    have := isPre_ge (p := p) (k := k) (by unfold isPre; exact decide_eq_true h2)
    show Op.bytesLess (b :: k) (b :: p) = false
    have h3 : Op.bytesLess k p = false := this
    simp [Op.bytesLess, h3]
theorem isPre_up : ∀ {p k j : Txt}, OKey.lt k p = false → isPre p k = false → OKey.lt k j = true → isPre p j = false
  | [], k, j, _, h, _ => by simp [isPre] at h
  | a :: p, [], j, h, _, _ => by simp [OKey.lt, Op.bytesLess] at h
  | a :: p, b :: k, [], _, _, h => by simp [OKey.lt, Op.bytesLess] at h
  | a :: p, b :: k, c :: j, h1, h2, h3 => by
    have h1' : Op.bytesLess (b :: k) (a :: p) = false := h1
    have h3' : Op.bytesLess (b :: k) (c :: j) = true := h3
    simp only [Op.bytesLess, Bool.or_eq_false_iff, Bool.and_eq_false_iff, decide_eq_false_iff_not, beq_eq_false_iff_ne, Bool.or_eq_true, Bool.and_eq_true, decide_eq_true_eq, beq_iff_eq] at h1' h3'
    have hgoal : ¬ (c = a ∧ j.take p.length = p) := by
      rintro ⟨rfl, hj⟩
      rcases h3' with hlt | ⟨rfl, hlt⟩
      · exact h1'.1 hlt
      · have hk : Op.bytesLess k p = false := h1'.2.resolve_left (fun h => h rfl)
        have hpk : isPre p k = false := by
          cases hx : isPre p k with
          | false => rfl
          | true =>
            have hx' := of_decide_eq_true hx
            have : isPre (b :: p) (b :: k) = true := by unfold isPre; exact decide_eq_true (by simp [hx'])
            rw [h2] at this; cases this
        have := isPre_up hk hpk hlt
        unfold isPre at this
        exact of_decide_eq_false this hj
    unfold isPre
    refine decide_eq_false fun e => hgoal ?_
    simpa using e
/-- what begins so stands together -/
theorem tpre_filter (hs : Srt rows) (hw : Srt wm) (p : Txt) : tpre rows t wm p = (tscan rows t wm [] []).filter fun x => isPre p x.1 := by
  unfold tpre
  rw [tscan_part hs hw p []]
  have h0 := tscan_srt (t := t) hs hw [] []
  generalize tscan rows t wm [] [] = l at h0
  induction l with
  | nil => rfl
  | cons x l ih =>
    have hs' := List.pairwise_cons.1 h0
    have ih := ih hs'.2
    cases hin : inR p [] x.1 with
    | false =>
      have hno : isPre p x.1 = false := by
        cases hx : isPre p x.1 with
        | false => rfl
        | true => have := isPre_ge hx; unfold inR at hin; rw [this] at hin; cases hin
      rw [List.filter_cons_of_neg (by simp [hin]), List.filter_cons_of_neg (by simp [hno])]
      exact ih
    | true =>
      rw [List.filter_cons_of_pos (by simp [hin])]
      cases hx : isPre p x.1 with
      | true =>
        rw [List.takeWhile_cons_of_pos (by simp [hx]), List.filter_cons_of_pos (by simp [hx]), ih]
      | false =>
        rw [List.takeWhile_cons_of_neg (by simp [hx]), List.filter_cons_of_neg (by simp [hx])]
        have hge : OKey.lt x.1 p = false := by
          unfold inR at hin
          cases hl : OKey.lt x.1 p with
          | false => rfl
          | true => rw [hl] at hin; cases hin
        symm
        rw [List.filter_eq_nil_iff]
        intro y hy
        simp [isPre_up hge hx (hs'.1 y hy)]
end
end Go.Ez

/-
  TRANSACTIONS: pairs with a key's value; writes held against one another; a store and transactions over it, of one's own: what each function answers.
-/
namespace Go.Proofs.Ytffnabbchghokaa
open Go Go.Ez Go.RowKit
set_option linter.unusedSimpArgs false
set_option linter.unusedVariables false
section
variable {w0 W W' : World} {l R : List As} {low t : Int} {v s : Value} {RR : Value → World → Prop} {wm : List (Txt × Wr)} {key : Txt} {L : List As} {rows : VRows Txt}

/-- hbllaw12.with -/
theorem with_spec {ps : List (Txt × Txt)} {lv : Value} {n : Nat} {x : Txt} {g : Bool} {Wz : World} (hl : Sl Wz 2 lv n (pcells ps)) (hn : n = ps.length) (hs : Srt ps) (hb : ps.length ≤ 100000)
    (k : ∀ v' W', Cel1 v' → St Wz G0 [Ky v' (Ow 50 2 (withR ps key x g).length (pcells (withR ps key x g)))] W' → RR v' W') :
    CallF Try.prog 50 #[lv, strV key, strV x, .bool g] Wz RR := by
  refine sh50_calls ?_
  unfold sh50
  subst hn
  have hp := posK_le key ps
  have hpl := pcells_length ps
  refine jni (fun vs W' => vs = [lv, strV key, strV x, .bool g, nV .i64 (posK key ps)] ∧ W' = Wz) ?_ ?_
  · rintro vs W1 _ ⟨rfl, rfl⟩
    refine app5 ?_
    refine jni (fun vs W' => vs = [lv, strV key, strV x, .bool g, nV .i64 (posK key ps), nV .i64 (if hasK key ps then 1 else 0)] ∧ W' = W1) ?_ ?_
    · rintro vs W2 _ ⟨rfl, rfl⟩
      refine app6 ?_
      have h := St.start W2
      refine h.litB (vs := []) (cs := []) (fun u W3 o hb3 h => ?_) (by decide)
      refine a_sliceH (SlT.el (P := Try.prog) (t := 41)) (hl.below hb3) (by omega) (by omega) fun u1 hu1 => ?_
      rw [Int.toNat_natCast, ← pcells_take] at hu1
      have hone : ∀ c ∈ pcells (ps.take (posK key ps)), c.oneCell' = true := pcells_one _
      refine St.app (v := u) h hu1 hone (by unfold maxLen; omega) (by omega) fun u2 W4 o2 h _ => ?_
      rw [Nat.zero_add, List.nil_append] at h
      refine jni (fun vs W' => ∃ u3, vs = [lv, nV .i64 (posK key ps), nV .i64 (if hasK key ps then 1 else 0), u3] ∧ Cel1 u3 ∧ St W2 G0 [Ky u3 (Ow 50 2 (ps.take (posK key ps) ++ if g then [] else [(key, x)]).length (pcells (ps.take (posK key ps) ++ if g then [] else [(key, x)])))] W') ?_ ?_
      · rintro vs W5 _ ⟨u3, rfl, o3, h⟩
        refine app4 ?_
        have hh1 : (if hasK key ps then 1 else 0) + posK key ps ≤ ps.length := by
          split
          · rename_i hh
            obtain ⟨y, hy⟩ := hasK_spec.1 hh
            have := (List.getElem?_eq_some_iff.1 hy).1
            omega
          · omega
        have hhi : ((if hasK key ps then 1 else 0 : Nat) : Nat) ≤ 1 := by split <;> omega
        generalize hq : (if hasK key ps then 1 else 0 : Nat) = q at *
        refine a_add64 (by omega) (by omega) ?_
        rw [show ((posK key ps : Nat) : Int) + ((q : Nat) : Int) = ((posK key ps + q : Nat) : Int) by push_cast; rfl]
        refine x_cutRd (h.sl0 hl) (by omega) fun u4 hu4 => ?_
        rw [← pcells_drop] at hu4
        refine St.app (v := u3) h hu4 (pcells_one _) (by
          simp only [List.length_append, List.length_take]
          have : (if g then [] else [(key, x)] : List (Txt × Txt)).length ≤ 1 := by split <;> simp
          unfold maxLen; omega) (by
          simp only [List.length_append, List.length_take]
          have : (if g then [] else [(key, x)] : List (Txt × Txt)).length ≤ 1 := by split <;> simp
          omega) fun u5 W6 o5 h _ => ?_
        refine k u5 W6 o5 ?_
        have e : withR ps key x g = (ps.take (posK key ps) ++ if g then [] else [(key, x)]) ++ ps.drop (posK key ps + q) := by
          unfold withR; rw [hq, List.append_assoc]
        rw [e, pcells_append, List.length_append, List.length_drop]
        exact h.to
      · refine a_not (ifnb (fun hg => ?_) fun hg => ?_)
        · subst hg
          refine x_bld (cells := [strV key, strV x].toArray) rfl ?_
          refine h.lit (vs := [.agg [strV key, strV x].toArray]) (cs := [strV key, strV x]) (fun u3 W5 o3 h => ?_) (by decide)
          refine St.app (v := u2) h (h.osl (v := u3)) (by simp [Value.oneCell']) (by unfold maxLen; omega) (by omega) fun u4 W6 o4 h _ => ?_
          refine ⟨u4, rfl, o4, ?_⟩
          have e : pcells (ps.take (posK key ps)) ++ [strV key, strV x] = pcells (ps.take (posK key ps) ++ [(key, x)]) := by rw [pcells_append]; rfl
          rw [e] at h
          have e2 : (ps.take (posK key ps) ++ [(key, x)]).length = posK key ps + 1 := by rw [List.length_append, List.length_take, Nat.min_eq_left hp]; rfl
          show St W2 G0 [Ky u4 (Ow 50 2 (ps.take (posK key ps) ++ [(key, x)]).length (pcells (ps.take (posK key ps) ++ [(key, x)])))] W6
          rw [e2]
          exact h.to
        · subst hg
          refine ⟨u2, rfl, o2, ?_⟩
          show St W2 G0 [Ky u2 (Ow 50 2 (ps.take (posK key ps) ++ []).length (pcells (ps.take (posK key ps) ++ [])))] W4
          rw [List.append_nil, List.length_take, Nat.min_eq_left hp]
          exact h
    · refine x_lenS hl ?_
      refine a_lss (ifd (fun hlt => ?_) fun hge => ?_)
      · obtain ⟨y, hy⟩ : ∃ y, ps[posK key ps]? = some y := ⟨_, List.getElem?_eq_getElem (by omega)⟩
        refine x_fld hl (by omega) (by decide) (pcells_get hy).1 ?_
        have hh : hasK key ps = decide (y.1 = key) := by unfold hasK; rw [hy]
        refine w_eqlL (ifd (fun e => ?_) fun e => ?_)
        · rw [hh, decide_eq_true e]; exact ⟨rfl, rfl⟩
        · rw [hh, decide_eq_false e]; exact ⟨rfl, rfl⟩
      · have hh : hasK key ps = false := by unfold hasK; rw [List.getElem?_eq_none (by omega)]
        rw [hh]; exact ⟨rfl, rfl⟩
  · refine lpx (α := Nat) (fun i => [nV .i64 i]) (fun i W' => i ≤ posK key ps ∧ W' = Wz) (fun i => ps.length - i) 0 (fun _ => rfl) rfl ⟨Nat.zero_le _, rfl⟩ ?_
    rintro next i W1 hnext ⟨hi, rfl⟩
    refine app1 ?_
    refine x_lenS hl ?_
    refine a_lss (ifd (fun hc => ?_) fun hc => ?_)
    · obtain ⟨y, hy⟩ : ∃ y, ps[i]? = some y := ⟨_, List.getElem?_eq_getElem (by omega)⟩
      have hiff := posK_iff (k := key) hs hy
      refine x_fld hl (by omega) (by decide) (pcells_get hy).1 ?_
      refine x_lssL (ifb (fun hlt => ?_) fun hge => ?_)
      · have := hiff.1 hlt
        refine a_add64 (by omega) (by omega) ⟨rfl, rfl, rfl, rfl, ?_⟩
        rw [show ((i : Int) + 1) = ((i + 1 : Nat) : Int) by push_cast; rfl]
        exact hnext (i + 1) W1 (by omega) ⟨by omega, rfl⟩
      · have : ¬ i < posK key ps := fun hx => by have := hiff.2 hx; rw [show OKey.lt y.1 key = false from hge] at this; cases this
        obtain rfl : i = posK key ps := by omega
        exact ⟨rfl, rfl⟩
    · obtain rfl : i = posK key ps := by omega
      exact ⟨rfl, rfl⟩

/-- hblref.Writes -/
theorem wrEq_spec {xs ys : List Wr} {a b : Value} {n m : Nat} (ha : Sl W 3 a n (wcells xs)) (hb : Sl W 3 b m (wcells ys)) (hn : n = xs.length) (hm : m = ys.length) (he : xs = ys) (hl : xs.length ≤ 1000000) (k : ∀ W', Below W.heap.size W W' → RR (.bool true) W') :
    CallF Try.prog 55 #[a, b] W RR := by
  refine sh55_calls ?_
  unfold sh55
  subst hn; subst hm; subst he
  refine x_lenS ha (x_lenS hb (w_neq (ifd_neg (fun h => h rfl) ?_)))
  refine lpx (α := Nat) (fun i => [nV .i64 i]) (fun i W' => i ≤ xs.length ∧ Below W.heap.size W W') (fun i => xs.length - i) 0 (fun _ => rfl) rfl ⟨Nat.zero_le _, Below.refl _ _⟩ ?_
  rintro next i W1 hnext ⟨hi, hb1⟩
  refine app1 ?_
  refine x_lenS ha ?_
  refine a_lss (ifd (fun hc => ?_) fun hc => ?_)
  · obtain ⟨u, hu⟩ : ∃ d, xs[i]? = some d := ⟨_, List.getElem?_eq_getElem (by omega)⟩
    have hb2 : Below W.heap.size W W1.drew := hb1.drew
    have g0 := (wcells_get hu (j := 0) (by decide)).trans (show (wrC u)[0]? = some (strV u.1) from rfl)
    have g1 := (wcells_get hu (j := 1) (by decide)).trans (show (wrC u)[1]? = some (strV u.2.1) from rfl)
    have g2 := (wcells_get hu (j := 2) (by decide)).trans (show (wrC u)[2]? = some (.bool u.2.2) from rfl)
    refine ⟨fun W2 => W2 = _, rfl, ?_⟩
    refine x_sfld (ha.below hb2) (fun _ e => by subst e; exact ha.below hb2) (by omega) (by decide) g0 ?_
    refine x_sfld (hb.below hb2) (fun _ e => by subst e; exact hb.below hb2) (by omega) (by decide) g0 ?_
    refine s_neqL (ifd_neg (fun h => h rfl) ?_)
    refine x_sfld (ha.below hb2) (fun _ e => by subst e; exact ha.below hb2) (by omega) (by decide) g1 ?_
    refine x_sfld (hb.below hb2) (fun _ e => by subst e; exact hb.below hb2) (by omega) (by decide) g1 ?_
    refine s_neqL (ifd_neg (fun h => h rfl) ?_)
    refine x_sfld (ha.below hb2) (fun _ e => by subst e; exact ha.below hb2) (by omega) (by decide) g2 ?_
    refine x_sfld (hb.below hb2) (fun _ e => by subst e; exact hb.below hb2) (by omega) (by decide) g2 ?_
    refine s_neb ?_
    rw [show (!(u.2.2 == u.2.2)) = false by simp]
    refine iff' (a_add64 (by omega) (by omega) ⟨rfl, rfl, ?_⟩)
    rw [show ((i : Int) + 1) = ((i + 1 : Nat) : Int) by push_cast; rfl]
    exact hnext (i + 1) _ (by omega) ⟨by omega, hb2⟩
  · exact k _ hb1

theorem VsI.tput {x : Txt} {L' : List As} [i : Has L v (Tx s t wm) L'] (h : VsI w0 s rows low L W) (hl : wm.length ≤ 1000) (k : ∀ W', Srt wm → VsI w0 s rows low (Ky v (Tx s t (wrR wm key x false).2) :: L') W' → RR (.int .i64 (wrR wm key x false).1) W') :
    CallF Try.prog 49 #[v, strV key, strV x] W RR := by
  obtain ⟨kp, rs, h1, h2, h⟩ := h
  exact tput_spec (v := v) h hl fun W' hs h => k W' hs ⟨kp, rs, h1, h2, h.to⟩
theorem VsI.tdel {L' : List As} [i : Has L v (Tx s t wm) L'] (h : VsI w0 s rows low L W) (hl : wm.length ≤ 1000) (k : ∀ W', Srt wm → VsI w0 s rows low (Ky v (Tx s t (wrR wm key [] true).2) :: L') W' → RR (.int .i64 (wrR wm key [] true).1) W') :
    CallF Try.prog 51 #[v, strV key] W RR := by
  obtain ⟨kp, rs, h1, h2, h⟩ := h
  exact tdel_spec (v := v) h hl fun W' hs h => k W' hs ⟨kp, rs, h1, h2, h.to⟩
theorem VsI.tget {n : Nat} {L' : List As} [i : Has L v (Tx s t wm) L'] (h : VsI w0 s rows low L W) (hb : Bd n rows) (hn : n ≤ 500000) (hl : wm.length ≤ 1000) (k : ∀ W', VsI w0 s rows low L W' → RR (.tuple #[strV (seesR rows t wm key).1, .bool (seesR rows t wm key).2]) W') :
    CallF Try.prog 52 #[v, strV key] W RR := by
  obtain ⟨rs, hr, hz⟩ := h.tz (v := v)
  subst hr
  exact tget_spec hz hb hn (by omega) fun W' hb => k W' (h.ext hb)
theorem VsI.tclash {n : Nat} {L' : List As} [i : Has L v (Tx s t wm) L'] (h : VsI w0 s rows low L W) (hb : Bd n rows) (hn : n ≤ 500000) (hl : wm.length ≤ 1000) (k : ∀ W', VsI w0 s rows low L W' → RR (.bool (clashR rows t wm)) W') :
    CallF Try.prog 57 #[v] W RR := by
  obtain ⟨rs, hr, hz⟩ := h.tz (v := v)
  subst hr
  exact tclash_spec hz hb hn (by omega) fun W' hb => k W' (h.ext hb)
theorem VsI.tlist {L' : List As} [i : Has L v (Tx s t wm) L'] (h : VsI w0 s rows low L W) (hl : wm.length ≤ 1000) (k : ∀ v' W', Cel1 v' → VsI w0 s rows low (Ky v' (Ow 86 3 wm.length (wcells (wm.map Prod.snd))) :: L) W' → RR v' W') :
    CallF Try.prog 56 #[v] W RR := by
  obtain ⟨rs, hr, hz⟩ := h.tz (v := v)
  exact twlist_spec hz (by omega) fun v' W' o h' => k v' W' o (h.frame h')
theorem VsI.tscan {n : Nat} {lo hi : Txt} {q : Int} {L' : List As} [i : Has L v (Tx s t wm) L'] (h : VsI w0 s rows low L W) (hb : Bd n rows) (hn : n ≤ 100000) (hl : wm.length ≤ 1000)
    (k : ∀ v' W', Cel1 v' → VsI w0 s rows low (Ky v' (Ow 50 2 ((tscan rows t wm lo hi).take q.toNat).length (pcells ((tscan rows t wm lo hi).take q.toNat))) :: L) W' → RR v' W') :
    CallF Try.prog 53 #[v, strV lo, strV hi] W fun f w => CallF Try.prog 24 #[f, .int .i64 q] w RR := by
  obtain ⟨rs, hr, hz⟩ := h.tz (v := v)
  subst hr
  exact tscanTake_spec hz hb hn (by omega) fun v' W' o h' => k v' W' o (h.frame h')
theorem VsI.tpre {n : Nat} {p : Txt} {q : Int} {L' : List As} [i : Has L v (Tx s t wm) L'] (h : VsI w0 s rows low L W) (hb : Bd n rows) (hn : n ≤ 100000) (hl : wm.length ≤ 1000)
    (k : ∀ v' W', Cel1 v' → VsI w0 s rows low (Ky v' (Ow 50 2 ((tpre rows t wm p).take q.toNat).length (pcells ((tpre rows t wm p).take q.toNat))) :: L) W' → RR v' W') :
    CallF Try.prog 54 #[v, strV p] W fun f w => CallF Try.prog 24 #[f, .int .i64 q] w RR := by
  obtain ⟨rs, hr, hz⟩ := h.tz (v := v)
  subst hr
  exact tpreTake_spec hz hb hn (by omega) fun v' W' o h' => k v' W' o (h.frame h')
theorem VsI.begin {bs : Nat} (hs : s = .pointer (some ⟨bs, 0, none⟩)) (h : VsI w0 s rows low L W) (k : ∀ b W', VsI w0 s rows low (Ky (.pointer (some ⟨b, 0, none⟩) : Value) (Tx s t []) :: L) W' → RR (.pointer (some ⟨b, 0, none⟩)) W') : CallF Try.prog 48 #[s, .int .i64 t] W RR := by
  obtain ⟨kp, rs, h1, h2, h⟩ := h
  refine begin_spec hs h fun b W' h => k b W' ⟨kp, rs, h1, h2, ?_⟩
  exact St.behind (L := [Ky s (Vsvs rs low), Ky PoolK.a (Plvs kp)]) h
theorem VsI.srt (h : VsI w0 s rows low L W) : Srt rows := by
  obtain ⟨rs, hr, hz⟩ := h.z
  rw [← hr]
  exact (mapV_srt _).2 hz.srt
theorem VsI.twm {L' : List As} [i : Has L v (Tx s t wm) L'] (h : VsI w0 s rows low L W) : Srt wm := by
  obtain ⟨rs, hr, b, s', wv, _, _, _, _, _, _, hs, _⟩ := h.tz (v := v)
  exact hs
end
end Go.Proofs.Ytffnabbchghokaa

/-
  TRANSACTIONS: it sees its own writes, else what the store was: TxnSees: the walk.
-/
namespace Go.Proofs.Ytffnabbchghokaa
open Go Go.Ez Go.RowKit
set_option linter.unusedSimpArgs false
set_option linter.unusedVariables false
section
variable {w0 W W' : World} {l R : List As} {low t : Int} {v s : Value} {RR : Value → World → Prop} {wm : List (Txt × Wr)} {key : Txt} {L : List As} {rows : VRows Txt}
theorem s_max {S : World → Prop} {K : Value → Prop} {ts : Array TypeId} {t : TypeId} {k k' : IntKind} {a b : Int} (h : K (.int k (max a b))) : RunS Try.prog S (Builtin.max_ ts t #[.int k a, .int k' b]) K :=
  ⟨_, fun w hw => by
    obtain ⟨x, h1, h2⟩ := w_max (P := Try.prog) (w := w) (ts := ts) (t := t) (k := k) (k' := k') (a := a) (b := b) (K := fun v => v = .int k (max a b)) rfl
    rw [h1, h2], h⟩
theorem VsI.rc {b : Nat} {t : TypeId} {cs : List Value} {L' : List As} [i : Has L b (Ob (.cells cs.toArray t (0, 0))) L'] (h : VsI w0 s rows low L W) : Rec W b t cs := by
  obtain ⟨kp, rs, h1, h2, h⟩ := h
  exact h.rc
theorem VsI.tfirst (h : VsI w0 s rows low L W) (k : ∀ W', VsI w0 s rows low L W' → RR (.bool true) W') : CallF Try.prog 45 #[] W RR := tfirst_spec fun W' hb => k W' (h.ext hb)
theorem VsI.twith {ps : List (Txt × Txt)} {lv : Value} {x : Txt} {g : Bool} {L' : List As} [i : Has L lv (Ow 50 2 ps.length (pcells ps)) L'] (h : VsI w0 s rows low L W) (hs : Srt ps) (hb : ps.length ≤ 100000)
    (k : ∀ v' W', Cel1 v' → VsI w0 s rows low (Ky v' (Ow 50 2 (withR ps key x g).length (pcells (withR ps key x g))) :: L) W' → RR v' W') :
    CallF Try.prog 50 #[lv, strV key, strV x, .bool g] W RR :=
  with_spec (h.sl (v' := lv)) rfl hs hb fun v' W' o h' => k v' W' o (h.frame h')
/-- the law's store -/
theorem vstores_spec {Wz : World} {a : List VOp} {av : Value} {na : Nat} (ha : Sl Wz 5 av na (vopsC a)) (hna : na = a.length) (k : ∀ bs xv rows W', Bd 300 rows → VsI Wz (.pointer (some ⟨bs, 0, none⟩)) rows 0 [] W' → RR (.tuple #[.pointer (some ⟨bs, 0, none⟩), xv]) W') :
    CallF Try.prog 46 #[av] Wz RR := by
  refine stores_spec ha hna fun bs bx rows W' hb hg h => ?_
  obtain ⟨kp, rs, h1, h2, h⟩ := h
  exact k bs _ rows W' hb h.to
/-- what a transaction writes that is wanted -/
theorem wrR_ok {k v : Txt} {g : Bool} (h : (wrR wm k v g).1 = 0) : (wrR wm k v g).2 = putK k (k, v, g) wm := by
  unfold wrR at h ⊢
  split
  · rename_i hc; rw [if_pos hc] at h; cases h
  · rename_i hc
    rw [if_neg hc] at h
    split
    · rename_i hd; rw [if_pos hd] at h; cases h
    · rfl
theorem wrR_no {k v : Txt} {g : Bool} (h : (wrR wm k v g).1 ≠ 0) : (wrR wm k v g).2 = wm := by
  unfold wrR at h ⊢
  split
  · rfl
  · rename_i hc
    rw [if_neg hc] at h
    split
    · rfl
    · rename_i hd; rw [if_neg hd] at h; exact absurd rfl h

theorem tscan_nil (hs : Srt rows) (t : Int) : tscan rows t [] [] [] = scanR rows [] [] t := by
  refine srt_ext (tscan_srt hs List.Pairwise.nil [] []) (scanR_srt hs [] [] t) fun k => ?_
  rw [tscan_get hs List.Pairwise.nil, scanR_get hs]
  rfl
/-- the store, the transaction, what is to be seen -/
def SeesI (W1 : World) (s tv : Value) (t : Int) (n : Nat) (u : Value) (L : List As) (W : World) : Prop := ∃ rows wm, Bd n rows ∧ wm.length ≤ 1000 ∧ VsI W1 s rows 0 (Ky u (Ow 50 2 (tscan rows t wm [] []).length (pcells (tscan rows t wm [] []))) :: Ky tv (Tx s t wm) :: L) W
theorem SeesI.lw {W1 : World} {tv u : Value} {n : Nat} (h : SeesI W1 s tv t n u L W) : Below W1.heap.size W1 W := by
  obtain ⟨_, _, _, _, h⟩ := h
  exact h.low'

/-- hbllaw12.TxnSees -/
theorem tsees_spec {a : List VOp} {ops : List TOp} {va vo : Value} {na no : Nat} {t : Int} {Wz : World} (ha : Sl Wz 5 va na (vopsC a)) (hna : na = a.length) (ho : Sl Wz 4 vo no (topsC ops)) (hno : no = ops.length) (k0 : ∀ W', Below Wz.heap.size Wz W' → RR (.bool true) W') :
    CallF Try.prog 8 #[va, .int .i64 t, vo] Wz RR := by
  refine sh8_calls ?_
  unfold sh8
  subst hno
  refine tfirst_spec fun W1 hb1 => ?_
  have k : ∀ W', Below W1.heap.size W1 W' → RR (.bool true) W' := fun W' hb => k0 W' (Go.Ez.Below.next hb1 hb)
  replace ho := ho.below hb1
  clear k0
  refine a_not (iff' ?_)
  refine vstores_spec (ha.below hb1) hna fun bs xv rows W2 hB h => ?_
  refine a_ext0 (a_ext1 ?_)
  refine x_nilP (iff' ?_)
  have early : ∀ W', VsI W1 (.pointer (some ⟨bs, 0, none⟩)) rows 0 [] W' → RunW Try.prog (bin .neq 35 (.tmp 38) (.const (.pointer none)) (.pointer (some ⟨bs, 0, none⟩)) (.pointer none)) W' fun t37_5 => IfB t37_5 (CallF Try.prog 45 #[] W' fun t39_6 w => RR t39_6 w) (RR (.bool false) W') := fun W' h => by
    refine x_nilPn (ift ?_)
    exact h.tfirst fun W3 h => k W3 h.low'
  refine tfew_spec (ho.below h.low') rfl fun fo W3 hb3 hfo => ?_
  replace h := h.ext hb3
  refine a_not (ifnb (fun hf => early W3 h) fun hf => ?_)
  replace hfo := hfo hf
  refine a_lss (ifd (fun _ => early W3 h) fun ht0 => ?_)
  refine a_gtr (ifd (fun _ => early W3 h) fun ht1 => ?_)
  clear early
  refine h.scan_spec (lo := []) (hi := []) hB (by decide) fun was W4 ow h => ?_
  have hsl := scanR_len (rows := rows) [] [] t
  have hB1 := hB.1
  rw [List.take_of_length_le (by show _ ≤ 1048576; omega)] at h
  have hsr := h.srt
  rw [← tscan_nil hsr t] at h
  refine VsI.begin (t := t) rfl h fun bt W5 h => ?_
  refine x_nilP (iff' ?_)
  generalize htv : (.pointer (some ⟨bt, 0, none⟩) : Value) = tv at *
  generalize hs : (.pointer (some ⟨bs, 0, none⟩) : Value) = s at *
  have h0 : SeesI W1 s tv t 300 was [] W5 := ⟨rows, [], hB, by decide, h.to⟩
  clear h hB hsl hB1 hsr
  refine lpx (α := Value × Nat) (fun x => [x.1, nV .i64 x.2]) (fun x W' => x.2 ≤ ops.length ∧ SeesI W1 s tv t (300 + x.2) x.1 [] W') (fun x => ops.length - x.2) (was, 0) (fun _ => rfl) rfl ⟨Nat.zero_le _, h0⟩ ?_
  clear h0
  rintro next ⟨u, i⟩ W6 hnext ⟨hi, rows, wm, hB, hl, h⟩
  simp only at hi hB h ⊢
  refine app2 ?_
  replace ho := ho.below h.low'
  refine x_lenS ho ?_
  refine a_lss (ifd (fun hc => ?_) fun hc => ?_)
  · obtain ⟨o, hoo⟩ : ∃ d, ops[i]? = some d := ⟨_, List.getElem?_eq_getElem (by omega)⟩
    refine x_idx ho (by omega) fun bb oo hcell => ?_
    refine x_lds (cs := TOp.cells o) rfl (fun j u hu => hcell j u (List.getElem?_eq_some_iff.1 hu).1 ((tops_get hoo (List.getElem?_eq_some_iff.1 hu).1).trans hu)) ?_
    refine (St.start W6).allocS fun bo W h' => ?_
    refine h'.storeS (cs' := [.int .i64 o.kind, strV o.key, strV o.v, strV o.hi]) fun W h' => ?_
    replace h := h.frame h'
    clear h' hcell
    have tsl := tscan_len rows t wm [] []
    have hB1 := hB.1
    have hsr := h.srt
    have hsw := h.twm (v := tv) (s := s) (t := t) (wm := wm)
    refine a_fld0 (w_ldR h.rc rfl ?_)
    refine jni (fun vs W' => ∃ u, vs = [.int .i64 t, vo, s, u, tv, nV .i64 i] ∧ SeesI W1 s tv t (300 + (i + 1)) u [] W') ?_ ?_
    · rintro vs W7 _ ⟨u, rfl, h⟩
      refine app6 ?_
      refine a_add64 (by omega) (by omega) ⟨rfl, rfl, rfl, rfl, ?_⟩
      rw [show ((i : Int) + 1) = ((i + 1 : Nat) : Int) by push_cast; rfl]
      exact hnext (u, i + 1) W7 (by show ops.length - (i + 1) < ops.length - i; omega) ⟨by show i + 1 ≤ _; omega, h⟩
    refine w_eql (ifd (fun _ => ?_) fun _ => ?_)
    · refine jni (fun vs W' => ∃ u, vs = [.int .i64 t, vo, s, u, tv, nV .i64 i] ∧ SeesI W1 s tv t (300 + (i + 1)) u [] W') (by rintro vs W' _ ⟨u, rfl, hrest⟩; exact app6 ⟨u, rfl, hrest⟩) ?_
      refine a_fld0 (w_ldR h.rc rfl (a_fld0 (w_ldR h.rc rfl ?_)))
      refine h.tput (v := tv) (key := o.key) (x := o.v) hl fun W7 _ h => ?_
      refine w_eql (ifd (fun e0 => ?_) fun e0 => ?_)
      · have hl2 := wrR_len hsw hl o.key o.v false
        rw [wrR_ok e0] at h hl2
        refine a_fld0 (w_ldR h.rc rfl (a_fld0 (w_ldR h.rc rfl ?_)))
        refine h.twith (ps := tscan rows t wm [] []) (lv := u) (tscan_srt hsr hsw [] []) (by omega) fun u2 W8 o2 h => ?_
        rw [← tscan_put hsr hsw] at h
        exact ⟨u2, rfl, rows, _, hB.mono (by omega), hl2, h.to⟩
      · rw [wrR_no e0] at h
        exact ⟨u, rfl, rows, wm, hB.mono (by omega), hl, h.to⟩
    refine jni (fun vs W' => ∃ u, vs = [.int .i64 t, vo, s, u, tv, nV .i64 i] ∧ SeesI W1 s tv t (300 + (i + 1)) u [] W') (by rintro vs W' _ ⟨u, rfl, hrest⟩; exact app6 ⟨u, rfl, hrest⟩) ?_
    refine w_eql (ifd (fun _ => ?_) fun _ => ?_)
    · refine jni (fun vs W' => ∃ u, vs = [.int .i64 t, vo, s, u, tv, nV .i64 i] ∧ SeesI W1 s tv t (300 + (i + 1)) u [] W') (by rintro vs W' _ ⟨u, rfl, hrest⟩; exact app6 ⟨u, rfl, hrest⟩) ?_
      refine a_fld0 (w_ldR h.rc rfl ?_)
      refine h.tdel (v := tv) (key := o.key) hl fun W7 _ h => ?_
      refine w_eql (ifd (fun e0 => ?_) fun e0 => ?_)
      · have hl2 := wrR_len hsw hl o.key [] true
        rw [wrR_ok e0] at h hl2
        refine a_fld0 (w_ldR h.rc rfl ?_)
        refine h.twith (ps := tscan rows t wm [] []) (lv := u) (x := []) (tscan_srt hsr hsw [] []) (by omega) fun u2 W8 o2 h => ?_
        rw [← tscan_put hsr hsw] at h
        exact ⟨u2, rfl, rows, _, hB.mono (by omega), hl2, h.to⟩
      · rw [wrR_no e0] at h
        exact ⟨u, rfl, rows, wm, hB.mono (by omega), hl, h.to⟩
    · replace h := h.ext ((Below.refl _ _).drew)
      refine ⟨VsI W1 s rows 0 _, h, ?_⟩
      refine a_fld0 (s_ld (t := 75) (cs := [.int .i64 o.kind, strV o.key, strV o.v, strV o.hi]) (fun w hw => hw.rc) rfl ?_)
      refine a_fld0 (s_ld (t := 75) (cs := [.int .i64 o.kind, strV o.key, strV o.v, strV o.hi]) (fun w hw => hw.rc) rfl ?_)
      refine a_fld0 (s_ld (t := 75) (cs := [.int .i64 o.kind, strV o.key, strV o.v, strV o.hi]) (fun w hw => hw.rc) rfl ?_)
      refine h.last_spec hB (by omega) fun W7 h => ?_
      refine ⟨h, VsI W1 s rows 0 _, h, fun _ h => h, ?_⟩
      refine s_max (s_min ?_)
      refine a_add64 (by omega) (by omega) ?_
      refine h.add_spec hB (by omega) fun W8 h => ?_
      have hlt : t < min (max (lastC (chainR rows o.key)) t) 549755813888 + 1 := by omega
      rw [show tscan rows t wm [] [] = tscan (addR rows 0 o.key (min (max (lastC (chainR rows o.key)) t) 549755813888 + 1, o.v, false)).2 t wm [] [] from (tscan_add hsr hlt wm [] []).symm] at h
      exact ⟨u, rfl, _, wm, hB.add _ _ _, hl, h.to⟩
  · have tsl := tscan_len rows t wm [] []
    have hB1 := hB.1
    have hsr := h.srt
    have hsw := h.twm (v := tv) (s := s) (t := t) (wm := wm)
    have hts := tscan_srt (t := t) hsr hsw [] []
    refine lpx (α := Nat) (fun i => [nV .i64 i]) (fun j W' => j ≤ (tscan rows t wm [] []).length ∧ VsI W1 s rows 0 [Ky u (Ow 50 2 (tscan rows t wm [] []).length (pcells (tscan rows t wm [] []))), Ky tv (Tx s t wm)] W') (fun j => (tscan rows t wm [] []).length - j) 0 (fun _ => rfl) rfl ⟨Nat.zero_le _, h⟩ ?_
    clear h hnext
    rintro next j W7 hnext ⟨hj, h⟩
    refine app1 ?_
    have hsu := h.sl (v' := u)
    refine x_lenS hsu ?_
    refine a_lss (ifd (fun hc => ?_) fun hc => ?_)
    · obtain ⟨y, hy⟩ : ∃ y, (tscan rows t wm [] [])[j]? = some y := ⟨_, List.getElem?_eq_getElem (by omega)⟩
      refine x_fld hsu (by omega) (by decide) (pcells_get hy).1 ?_
      refine h.tget (v := tv) (key := y.1) hB (by omega) hl fun W8 h => ?_
      have hg : showR rows t wm y.1 = some y.2 := by
        have := tscan_get (t := t) hsr hsw [] [] y.1
        rw [inR_all, if_pos rfl] at this
        rw [← this]
        exact (mem_iff_get hts).1 (List.mem_of_getElem? hy)
      rw [seesR_show rows t wm y.1 hg]
      refine a_ext0 (a_ext1 (a_not (iff' ?_)))
      refine x_fld (h.sl (v' := u)) (by omega) (by decide) (pcells_get hy).2 ?_
      refine w_neqL (ifd_neg (fun h => h rfl) ?_)
      refine a_add64 (by omega) (by omega) ⟨trivial, trivial, ?_⟩
      rw [show ((j : Int) + 1) = ((j + 1 : Nat) : Int) by push_cast; rfl]
      exact hnext (j + 1) W8 (by omega) ⟨by omega, h⟩
    · refine h.tfirst fun W8 h => ift ?_
      refine h.tscan (v := tv) (t := t) (wm := wm) (lo := []) (hi := []) (q := 1048576) hB (by omega) hl fun u2 W9 o2 h => ?_
      rw [List.take_of_length_le (by show _ ≤ 1048576; omega)] at h
      refine pairsEq_spec (h.sl (v' := u2)) (h.sl (v' := u)) rfl rfl (by omega) fun W10 hb => ?_
      rw [decide_eq_true rfl]
      exact k W10 (Go.Ez.Below.next h.low' hb)
end
end Go.Proofs.Ytffnabbchghokaa

/-
  TRANSACTIONS: of each key the last write counts: TxnLast: the walk.
-/
namespace Go.Ez
open Go
theorem wC3 (w : Wr) : (wrC w).length = 3 := rfl
/-- each pair's write is of its key -/
def KeyOk (wm : List (Txt × Wr)) : Prop := ∀ p ∈ wm, p.2.1 = p.1
theorem KeyOk.put {wm : List (Txt × Wr)} (h : KeyOk wm) (k x : Txt) (g : Bool) : KeyOk (putK k (k, x, g) wm) := fun p hp => by
  rcases mem_putK hp with rfl | hp
  · rfl
  · exact h p hp
theorem wput_has {wm : List (Txt × Wr)} {k : Txt} {w : Wr} (h : hasK k wm = true) : (putK k w wm).map Prod.snd = (wm.map Prod.snd).set (posK k wm) w := by
  unfold putK; rw [if_pos h, List.map_set]
theorem wput_new {wm : List (Txt × Wr)} {k : Txt} {w : Wr} (h : hasK k wm = false) : (putK k w wm).map Prod.snd = (wm.map Prod.snd).take (posK k wm) ++ w :: (wm.map Prod.snd).drop (posK k wm) := by
  unfold putK; rw [h, if_neg (by simp), List.map_append, List.map_cons, List.map_take, List.map_drop]
theorem wcells_set {l : List Wr} {i : Nat} {w : Wr} (hi : i < l.length) : wcells (l.set i w) = (wcells l).take (i * 3) ++ [strV w.1, strV w.2.1, .bool w.2.2] ++ (wcells l).drop (i * 3 + 3) := by
  rw [List.set_eq_take_append_cons_drop, if_pos hi]
  show rcells wrC _ = _
  rw [rc_append, rc_take wC3, rc_cons, rc_drop wC3, show (i + 1) * 3 = i * 3 + 3 by omega, List.append_assoc]; rfl
end Go.Ez
namespace Go.Proofs.Ytffnabbchghokaa
open Go Go.Ez Go.RowKit
set_option linter.unusedSimpArgs false
set_option linter.unusedVariables false
section
variable {w0 W W' : World} {l R : List As} {low t : Int} {v s : Value} {RR : Value → World → Prop} {wm : List (Txt × Wr)} {key : Txt} {L : List As} {rows : VRows Txt}
/-- what is wanted, the write in hand, the transactions -/
abbrev LastL (t : Int) (s : Value) (bw : Nat) (w : Wr) (u : Value) (us : List Wr) (tv iv : Value) (wm : List (Txt × Wr)) : List As :=
  [Ky bw (Ob (.cells [strV w.1, strV w.2.1, .bool w.2.2].toArray 86 (0, 0))), Ky u (Ow 86 3 us.length (wcells us)), Ky tv (Tx s t wm), Ky iv (Tx s t [])]

/-- a write put in between -/
theorem insw_code {bw : Nat} {w : Wr} {u tv iv : Value} {us : List Wr} {i : Nat} {KV : Value → World → Prop} {W1 : World} (h : VsI W1 s rows low (LastL t s bw w u us tv iv wm) W) (hi : i ≤ us.length) (hl : us.length ≤ 1000)
    (k : ∀ u' W', Cel1 u' → VsI W1 s rows low (LastL t s bw w u' (us.take i ++ w :: us.drop i) tv iv wm) W' → KV u' W') :
    drw (fun S_78 w =>
      RunA Try.prog (Instr.sliceAt 84 u none (some (nV .i64 i)) none) fun t135_79 =>
      RunS Try.prog S_78 (Instr.loadAt 86 (.pointer (some ⟨bw, 0, none⟩))) fun t136_80 =>
      RunA Try.prog (Instr.sliceAt 84 u (some (nV .i64 i)) none none) fun t140_81 =>
      RunV Try.prog (Instr.buildSlice 84 1 #[(0, t136_80)]) w fun t137_82 w =>
      RunV Try.prog (Builtin.append_ #[84, 84] 84 #[t137_82, t140_81]) w fun t141_83 w =>
      RunV Try.prog (Builtin.append_ #[84, 84] 84 #[t135_79, t141_83]) w KV) W := by
  obtain ⟨kp, rs, h1, h2, h⟩ := h
  have h := h.drew
  refine ⟨St W1 G0 _, h, ?_⟩
  refine x_cutOw (v := u) h hi ?_
  refine ss_loadS (cs := [strV w.1, strV w.2.1, .bool w.2.2]) ?_
  refine x_cutRd (h.osl (v := u)) hi fun t0 hts => ?_
  rw [← rc_drop wC3] at hts
  refine h.litB (vs := [.agg [strV w.1, strV w.2.1, .bool w.2.2].toArray]) (cs := [strV w.1, strV w.2.1, .bool w.2.2]) (fun t1 V1 o1 m1 h => ?_) (by decide)
  refine St.app (v := t1) h (hts.below m1) (wcells_one _) (by unfold maxLen; omega) (by omega) fun t2 W2 o2 h _ => ?_
  replace h := (St.find (k := u) (X := Ow 86 3 us.length (wcells us)) h).cutOw (v := u) hi
  refine St.app (v := cutV u i) h (h.osl (v := t2)) (fun c hc => ?_) (by unfold maxLen; omega) (by omega) fun t3 W3 o3 h _ => ?_
  · replace hc : c ∈ wrC w ++ rcells wrC (us.drop i) := hc
    rw [← rc_cons] at hc
    exact wcells_one _ c hc
  · refine k t3 W3 o3 ⟨kp, rs, h1, h2, ?_⟩
    have hln : (us.take i ++ w :: us.drop i).length = i + (1 + (us.length - i)) := by simp [List.length_take, List.length_drop]; omega
    have hce : wcells (us.take i ++ w :: us.drop i) = (wcells us).take (i * 3) ++ ([strV w.1, strV w.2.1, .bool w.2.2] ++ wcells (us.drop i)) := by
      show rcells wrC _ = _
      rw [rc_append, rc_take wC3, rc_cons]; rfl
    show St W1 G0 (Ky s (Vsvs rs low) :: Ky PoolK.a (Plvs kp) :: Ky bw (Ob (.cells [strV w.1, strV w.2.1, .bool w.2.2].toArray 86 (0, 0))) :: Ky t3 (Ow 86 3 (us.take i ++ w :: us.drop i).length (wcells (us.take i ++ w :: us.drop i))) :: Ky tv (Tx s t wm) :: Ky iv (Tx s t []) :: []) W3
    rw [hln, hce]
    exact h.to

/-- what came of an operation -/
def LastE (W1 : World) (t : Int) (s : Value) (rows : VRows Txt) (key : Txt) (bw : Nat) (u tv iv : Value) (wm : List (Txt × Wr)) (e : Int) (W : World) : Prop := ∃ x g wm', (if e = 0 then wm' = putK key (key, x, g) wm else wm' = wm) ∧ wm'.length ≤ 1000 ∧ VsI W1 s rows 0 (LastL t s bw (key, x, g) u (wm.map Prod.snd) tv iv wm') W
/-- what is held on the way -/
def LastI (W1 : World) (t : Int) (s : Value) (rows : VRows Txt) (u tv iv : Value) (W : World) : Prop := ∃ wm, wm.length ≤ 1000 ∧ KeyOk wm ∧ VsI W1 s rows 0 [Ky u (Ow 86 3 wm.length (wcells (wm.map Prod.snd))), Ky tv (Tx s t wm), Ky iv (Tx s t [])] W
theorem wrR_same {k v : Txt} {g : Bool} : if (wrR wm k v g).1 = 0 then (wrR wm k v g).2 = putK k (k, v, g) wm else (wrR wm k v g).2 = wm := by
  split
  · rename_i h; exact wrR_ok h
  · rename_i h; exact wrR_no h

set_option maxHeartbeats 1000000 in
/-- hbllaw12.TxnLast -/
theorem tlast_spec {a : List VOp} {ops : List TOp} {va vo : Value} {na no : Nat} {t : Int} {Wz : World} (ha : Sl Wz 5 va na (vopsC a)) (hna : na = a.length) (ho : Sl Wz 4 vo no (topsC ops)) (hno : no = ops.length) (k0 : ∀ W', Below Wz.heap.size Wz W' → RR (.bool true) W') :
    CallF Try.prog 10 #[va, .int .i64 t, vo] Wz RR := by
  refine sh10_calls ?_
  unfold sh10
  subst hno
  refine tfirst_spec fun W1 hb1 => ?_
  have k : ∀ W', Below W1.heap.size W1 W' → RR (.bool true) W' := fun W' hb => k0 W' (Go.Ez.Below.next hb1 hb)
  replace ho := ho.below hb1
  have ho1 := ho
  clear k0
  refine a_not (iff' ?_)
  refine vstores_spec (ha.below hb1) hna fun bs xv rows W2 hB h => ?_
  refine a_ext0 (a_ext1 ?_)
  refine x_nilP (iff' ?_)
  have early : ∀ W', VsI W1 (.pointer (some ⟨bs, 0, none⟩)) rows 0 [] W' → RunW Try.prog (bin .neq 35 (.tmp 36) (.const (.pointer none)) (.pointer (some ⟨bs, 0, none⟩)) (.pointer none)) W' fun t37_5 => IfB t37_5 (CallF Try.prog 45 #[] W' fun t39_6 w => RR t39_6 w) (RR (.bool false) W') := fun W' h => by
    refine x_nilPn (ift ?_)
    exact h.tfirst fun W3 h => k W3 h.low'
  refine tfew_spec (ho.below h.low') rfl fun fo W3 hb3 hfo => ?_
  replace h := h.ext hb3
  refine a_not (ifnb (fun hf => early W3 h) fun hf => ?_)
  replace ho := ho.below h.low'
  refine x_lenS ho (a_gtr (ifd (fun _ => early W3 h) fun ht0 => ?_))
  clear early
  refine VsI.begin (t := t) rfl h fun bt W5 h => ?_
  refine VsI.begin (t := t) rfl h fun bi W6 h => ?_
  refine x_nilP (iff' (x_nilP (iff' ?_)))
  generalize htv : (.pointer (some ⟨bt, 0, none⟩) : Value) = tv at *
  generalize hiv : (.pointer (some ⟨bi, 0, none⟩) : Value) = iv at *
  generalize hs : (.pointer (some ⟨bs, 0, none⟩) : Value) = s at *
  clear ho
  have h0 : LastI W1 t s rows (.slice none 0 0) tv iv W6 := by
    obtain ⟨kp, rs, h1, h2, h⟩ := h
    have h' : St W1 G0 (Ky (.slice none 0 0 : Value) (Ow 86 3 ([] : List (Txt × Wr)).length (wcells (([] : List (Txt × Wr)).map Prod.snd))) :: _) W6 := h.nilOw
    exact ⟨[], by decide, (show KeyOk [] from fun p hp => by cases hp), kp, rs, h1, h2, h'.to⟩
  clear h
  refine lpx (α := Value × Nat) (fun x => [x.1, nV .i64 x.2]) (fun x W' => x.2 ≤ ops.length ∧ LastI W1 t s rows x.1 tv iv W') (fun x => ops.length - x.2) (.slice none 0 0, 0) (fun _ => rfl) rfl ⟨Nat.zero_le _, h0⟩ ?_
  clear h0
  rintro next ⟨u, i⟩ W7 hnext ⟨hi, wm, hl, hk, h⟩
  simp only at hi h ⊢
  refine app2 ?_
  have ho := ho1.below h.low'
  have hsr := h.srt
  have hsw := h.twm (v := tv) (s := s) (t := t) (wm := wm)
  refine x_lenS ho ?_
  refine a_lss (ifd (fun hc => ?_) fun hc => ?_)
  · obtain ⟨o, hoo⟩ : ∃ d, ops[i]? = some d := ⟨_, List.getElem?_eq_getElem (by omega)⟩
    refine jni (fun vs W' => ∃ u, vs = [vo, tv, iv, u, nV .i64 i] ∧ LastI W1 t s rows u tv iv W') ?_ ?_
    · rintro vs W8 _ ⟨u, rfl, h⟩
      refine app5 ?_
      refine a_add64 (by omega) (by omega) ⟨rfl, rfl, rfl, ?_⟩
      rw [show ((i : Int) + 1) = ((i + 1 : Nat) : Int) by push_cast; rfl]
      exact hnext (u, i + 1) W8 (by show ops.length - (i + 1) < ops.length - i; omega) ⟨by show i + 1 ≤ _; omega, h⟩
    refine x_idx ho (by omega) fun bb oo hcell => ?_
    refine x_lds (cs := TOp.cells o) rfl (fun j u hu => hcell j u (List.getElem?_eq_some_iff.1 hu).1 ((tops_get hoo (List.getElem?_eq_some_iff.1 hu).1).trans hu)) ?_
    refine (St.start W7).allocS fun bo W h' => ?_
    refine h'.storeS (cs' := [.int .i64 o.kind, strV o.key, strV o.v, strV o.hi]) fun W h' => ?_
    replace h := h.frame h'
    clear h' hcell
    refine a_fld0 (w_ldR h.rc rfl (a_fld0 (w_ldR h.rc rfl ?_)))
    refine x_bld (cells := (wrC (o.key, o.v, false)).toArray) rfl ?_
    refine (St.start W).allocS fun bw W8 h' => ?_
    refine h'.storeS (cs' := [strV o.key, strV o.v, .bool false]) fun W9 h' => ?_
    replace h := h.frame h'
    clear h'
    have hmap : wm.length = (wm.map Prod.snd).length := by simp
    rw [hmap] at h
    refine a_fld0 (w_ldR (t := 75) (cs := [.int .i64 o.kind, strV o.key, strV o.v, strV o.hi]) h.rc rfl ?_)
    refine jni (fun vs W' => ∃ e : Int, vs = [vo, tv, iv, u, nV .i64 i, .pointer (some ⟨bw, 0, none⟩), .int .i64 e] ∧ LastE W1 t s rows o.key bw u tv iv wm e W') ?_ ?_
    · rintro vs W10 _ ⟨e, rfl, x, g, wm', hif, hl', h⟩
      refine app7 ?_
      refine w_neq (ifd (fun hne => ?_) fun heq => ?_)
      · rw [if_neg hne] at hif
        subst hif
        refine ⟨u, rfl, _, hl, hk, ?_⟩
        rw [hmap]
        exact h.to
      have he0 : e = 0 := Decidable.byContradiction fun hx => heq hx
      rw [if_pos he0] at hif
      subst hif
      have hp := posK_le o.key wm
      refine jni (fun vs W' => vs = [vo, tv, iv, u, nV .i64 i, .pointer (some ⟨bw, 0, none⟩), nV .i64 (posK o.key wm)] ∧ VsI W1 s rows 0 (LastL t s bw (o.key, x, g) u (wm.map Prod.snd) tv iv (putK o.key (o.key, x, g) wm)) W') ?_ ?_
      · rintro vs W11 _ ⟨rfl, h⟩
        refine app7 ?_
        refine jni (fun vs W' => ∃ u, vs = [vo, tv, iv, u, nV .i64 i] ∧ LastI W1 t s rows u tv iv W') (by rintro vs W' _ ⟨u, rfl, hrest⟩; exact app5 ⟨u, rfl, hrest⟩) ?_
        have ins : hasK o.key wm = false → ∀ u' W', VsI W1 s rows 0 (LastL t s bw (o.key, x, g) u' ((wm.map Prod.snd).take (posK o.key wm) ++ (o.key, x, g) :: (wm.map Prod.snd).drop (posK o.key wm)) tv iv (putK o.key (o.key, x, g) wm)) W' → LastI W1 t s rows u' tv iv W' := fun hh u' W' h => by
          rw [← wput_new hh] at h
          refine ⟨_, hl', hk.put _ _ _, ?_⟩
          have : (putK o.key (o.key, x, g) wm).length = ((putK o.key (o.key, x, g) wm).map Prod.snd).length := by simp
          rw [this]
          exact h.to
        refine ⟨fun w => w = W11.drew, rfl, ?_⟩
        replace h := h.ext ((Below.refl _ _).drew)
        have hsu := h.sl (v' := u)
        refine x_lenSs hsu ?_
        refine a_lss (ifd (fun hlt => ?_) fun hge => ?_)
        · obtain ⟨y, hy⟩ : ∃ y, wm[posK o.key wm]? = some y := ⟨_, List.getElem?_eq_getElem (by omega)⟩
          have hy2 : (wm.map Prod.snd)[posK o.key wm]? = some y.2 := by rw [List.getElem?_map, hy]; rfl
          have hyk : y.2.1 = y.1 := hk y (List.mem_of_getElem? hy)
          have hh : hasK o.key wm = decide (y.1 = o.key) := by unfold hasK; rw [hy]
          refine x_sfld hsu (fun _ e => by subst e; exact hsu) (by omega) (by decide) ((wcells_get hy2 (j := 0) (by decide)).trans rfl) ?_
          refine a_fld0 (s_ld (t := 86) (cs := [strV o.key, strV x, .bool g]) (fun w hw => by subst hw; exact h.rc) rfl ?_)
          refine s_eqlL (ifd (fun he => ?_) fun he => ?_)
          · rw [hyk] at he
            obtain ⟨kp, rs, h1, h2, h⟩ := h
            refine h.loadS (cs := [strV o.key, strV x, .bool g]) ?_
            refine h.setI (v := u) (j := posK o.key wm) (by omega) fun gu cap hu _ => ?_
            subst hu
            refine St.storeIS (cs := [strV o.key, strV x, .bool g]) (n := (wm.map Prod.snd).length) (cap := cap) (sz := 3) (q := posK o.key wm * 3) h (by omega) fun W12 h => ?_
            refine ⟨_, rfl, _, hl', hk.put _ _ _, kp, rs, h1, h2, ?_⟩
            rw [wput_has (by rw [hh]; exact decide_eq_true he), wcells_set (by omega)]
            have hln : (putK o.key (o.key, x, g) wm).length = (wm.map Prod.snd).length := by
              unfold putK; rw [if_pos (by rw [hh]; exact decide_eq_true he)]; simp
            rw [hln]
            exact h.to
          · rw [hyk] at he
            refine insw_code h (by omega) (by omega) fun u' W12 _ h => ?_
            exact ⟨u', rfl, ins (by rw [hh]; exact decide_eq_false he) u' W12 h⟩
        · have hh : hasK o.key wm = false := by unfold hasK; rw [List.getElem?_eq_none (by omega)]
          refine insw_code h (by omega) (by omega) fun u' W12 _ h => ?_
          exact ⟨u', rfl, ins hh u' W12 h⟩
      · refine lpx (α := Nat) (fun j => [nV .i64 j]) (fun j W' => j ≤ posK o.key wm ∧ VsI W1 s rows 0 (LastL t s bw (o.key, x, g) u (wm.map Prod.snd) tv iv (putK o.key (o.key, x, g) wm)) W') (fun j => posK o.key wm - j) 0 (fun _ => rfl) rfl ⟨Nat.zero_le _, h⟩ ?_
        clear h
        rintro next j W11 hnext2 ⟨hj, h⟩
        refine app1 ?_
        refine ⟨fun w => w = W11.drew, rfl, ?_⟩
        replace h := h.ext ((Below.refl _ _).drew)
        have hsu := h.sl (v' := u)
        refine x_lenSs hsu ?_
        refine a_lss (ifd (fun hlt => ?_) fun hge => ?_)
        · obtain ⟨y, hy⟩ : ∃ y, wm[j]? = some y := ⟨_, List.getElem?_eq_getElem (by omega)⟩
          have hy2 : (wm.map Prod.snd)[j]? = some y.2 := by rw [List.getElem?_map, hy]; rfl
          have hyk : y.2.1 = y.1 := hk y (List.mem_of_getElem? hy)
          have hiff := posK_iff (k := o.key) hsw hy
          refine x_sfld hsu (fun _ e => by subst e; exact hsu) (by omega) (by decide) ((wcells_get hy2 (j := 0) (by decide)).trans rfl) ?_
          refine a_fld0 (s_ld (t := 86) (cs := [strV o.key, strV x, .bool g]) (fun w hw => by subst hw; exact h.rc) rfl ?_)
          rw [hyk]
          refine x_lssL (ifb (fun hlt => ?_) fun hge => ?_)
          · have := hiff.1 hlt
            refine a_add64 (by omega) (by omega) ⟨trivial, trivial, trivial, trivial, trivial, trivial, ?_⟩
            rw [show ((j : Int) + 1) = ((j + 1 : Nat) : Int) by push_cast; rfl]
            exact hnext2 (j + 1) _ (by omega) ⟨by omega, h⟩
          · have : ¬ j < posK o.key wm := fun hx => by have := hiff.2 hx; rw [show OKey.lt y.1 o.key = false from hge] at this; cases this
            obtain rfl : j = posK o.key wm := by omega
            exact ⟨rfl, h⟩
        · obtain rfl : j = posK o.key wm := by omega
          exact ⟨rfl, h⟩
    · refine w_eql (ifd (fun _ => ?_) fun _ => ?_)
      · refine a_fld0 (w_ldR (t := 75) (cs := [.int .i64 o.kind, strV o.key, strV o.v, strV o.hi]) h.rc rfl ?_)
        refine a_fld0 (w_ldR (t := 75) (cs := [.int .i64 o.kind, strV o.key, strV o.v, strV o.hi]) h.rc rfl ?_)
        refine h.tput (v := tv) (key := o.key) (x := o.v) hl fun W10 _ h => ?_
        exact ⟨_, rfl, o.v, false, _, wrR_same, wrR_len hsw hl _ _ _, h.to⟩
      refine w_eql (ifd (fun _ => ?_) fun _ => ?_)
      · refine a_fld0 (w_ldR (t := 75) (cs := [.int .i64 o.kind, strV o.key, strV o.v, strV o.hi]) h.rc rfl ?_)
        refine x_bld (cells := (wrC (o.key, [], true)).toArray) rfl ?_
        obtain ⟨kp, rs, h1, h2, h⟩ := h
        refine h.storeS (cs' := [strV o.key, strV [], .bool true]) fun W10 h => ?_
        replace h : VsI W1 s rows 0 (Ky bo (Ob (.cells [.int .i64 o.kind, strV o.key, strV o.v, strV o.hi].toArray 75 (0, 0))) :: LastL t s bw (o.key, [], true) u (wm.map Prod.snd) tv iv wm) W10 := ⟨kp, rs, h1, h2, h.to⟩
        refine a_fld0 (w_ldR (t := 75) (cs := [.int .i64 o.kind, strV o.key, strV o.v, strV o.hi]) h.rc rfl ?_)
        refine h.tdel (v := tv) (key := o.key) hl fun W10 _ h => ?_
        exact ⟨_, rfl, [], true, _, wrR_same, wrR_len hsw hl _ _ _, h.to⟩
      refine w_eql (ifd (fun _ => ?_) fun _ => ?_)
      · refine a_fld0 (w_ldR (t := 75) (cs := [.int .i64 o.kind, strV o.key, strV o.v, strV o.hi]) h.rc rfl ?_)
        refine h.tget (v := tv) (t := t) (wm := wm) (key := o.key) hB (by omega) hl fun W10 h => ?_
        refine a_fld0 (w_ldR (t := 75) (cs := [.int .i64 o.kind, strV o.key, strV o.v, strV o.hi]) h.rc rfl ?_)
        refine h.tget (v := iv) (t := t) (wm := []) (key := o.key) hB (by omega) (by decide) fun W11 h => ?_
        rw [← hmap] at h
        exact ⟨u, rfl, wm, hl, hk, h.to⟩
      · rw [← hmap] at h
        exact ⟨u, rfl, wm, hl, hk, h.to⟩
  · refine h.tfirst fun W8 h => ift ?_
    refine h.tlist (v := tv) (t := t) (wm := wm) hl fun u2 W9 o2 h => ?_
    have hml : wm.length = (wm.map Prod.snd).length := by simp
    refine wrEq_spec (h.sl (v' := u2)) (h.sl (v' := u)) hml hml rfl (by omega) fun W10 hb => ift ?_
    replace h := h.ext hb
    refine h.tclash (v := iv) (t := t) (wm := []) hB (by omega) (by decide) fun W11 h => ?_
    rw [show clashR rows t [] = false from rfl]
    refine a_not (ift ?_)
    refine h.tlist (v := iv) (t := t) (wm := []) (by decide) fun u3 W12 o3 h => ?_
    refine x_lenS (h.sl (v' := u3)) (w_eql (ifd_pos rfl ?_))
    refine x_lenS (h.sl (v' := u)) (a_leq ?_)
    rw [decide_eq_true (by omega)]
    exact k W12 h.low'
end
end Go.Proofs.Ytffnabbchghokaa

/-
  TRANSACTIONS, plainly: the document's scan: two lists walked side by side. No program in sight.
-/
namespace Go.Ez
open Go
set_option linter.unusedSimpArgs false
set_option linter.unusedVariables false
theorem srt_lt2 {κ β : Type} [OKey κ] {m : List (κ × β)} (hs : Srt m) {i j : Nat} {p q : κ × β} (hi : m[i]? = some p) (hj : m[j]? = some q) (hij : i < j) : OKey.lt p.1 q.1 = true := by
  obtain ⟨h1, e1⟩ := List.getElem?_eq_some_iff.1 hi
  obtain ⟨h2, e2⟩ := List.getElem?_eq_some_iff.1 hj
  have := List.pairwise_iff_getElem.1 hs i j h1 h2 hij
  rw [e1, e2] at this; exact this
theorem drop_at {β : Type} {l : List β} {i : Nat} {x : β} (h : l[i]? = some x) : l.drop i = x :: l.drop (i + 1) := by
  obtain ⟨h1, e1⟩ := List.getElem?_eq_some_iff.1 h
  rw [List.drop_eq_getElem_cons h1, e1]
/-- what is told, as a write -/
def toW (p : Txt × Txt) : Txt × Wr := (p.1, (p.1, p.2, false))
def shP (p : Txt × Wr) : Option (Txt × Txt) := if p.2.2.2 then none else some (p.1, p.2.2.1)
/-- what a write of one's own shows -/
def own1 (lo hi : Txt) (w : Txt × Wr) : List (Txt × Txt) := if !w.2.2.2 && inR lo hi w.1 then [(w.1, w.2.2.1)] else []
def tsc (L : List (Txt × Txt)) (O : List (Txt × Wr)) (lo hi : Txt) : List (Txt × Txt) := (mrg (L.map toW) (O.filter fun p => inR lo hi p.1)).filterMap shP
theorem tscan_tsc (rows : VRows Txt) (t : Int) (wm : List (Txt × Wr)) (lo hi : Txt) : tscan rows t wm lo hi = tsc (scanR rows lo hi t) wm lo hi := rfl
variable {L : List (Txt × Txt)} {O : List (Txt × Wr)} {lo hi : Txt} {w : Txt × Wr} {p : Txt × Txt}
theorem own1_in (h : inR lo hi w.1 = true) : own1 lo hi w = (shP w).toList := by
  unfold own1 shP
  rw [h]
  cases w.2.2.2 <;> rfl
theorem own1_out (h : inR lo hi w.1 = false) : own1 lo hi w = [] := by unfold own1; rw [h]; simp
theorem fm_cons {β γ : Type} (g : β → Option γ) (x : β) (l : List β) : (x :: l).filterMap g = (g x).toList ++ l.filterMap g := by
  cases h : g x with
  | none => rw [List.filterMap_cons_none h]; rfl
  | some y => rw [List.filterMap_cons_some h]; rfl
theorem tsc_own (h : ∀ q ∈ L.head?, OKey.lt w.1 q.1 = true) : tsc L (w :: O) lo hi = own1 lo hi w ++ tsc L O lo hi := by
  unfold tsc
  cases hr : inR lo hi w.1 with
  | false => rw [List.filter_cons_of_neg (by simp [hr]), own1_out hr]; rfl
  | true =>
    rw [List.filter_cons_of_pos (by simp [hr]), own1_in hr, mrg_y, fm_cons]
    cases L with
    | nil => exact .inl rfl
    | cons q L =>
      have hq := h q rfl
      refine .inr ⟨toW q, L.map toW, rfl, ?_, fun e => ?_⟩
      · cases hx : OKey.lt q.1 w.1 with
        | false => exact hx
        | true => have := OKey.tr hq hx; rw [OKey.irr] at this; cases this
      · rw [show q.1 = w.1 from e, OKey.irr] at hq; cases hq
theorem tsc_eq (h : w.1 = p.1) (hr : inR lo hi p.1 = true) : tsc (p :: L) (w :: O) lo hi = own1 lo hi w ++ tsc L O lo hi := by
  have hw : inR lo hi w.1 = true := by rw [h]; exact hr
  unfold tsc
  rw [List.filter_cons_of_pos (by simp [hw]), own1_in hw, List.map_cons, mrg_b (show (toW p).1 = w.1 from h.symm), fm_cons]
theorem tsc_st (h : ∀ y ∈ O, OKey.lt p.1 y.1 = true) : tsc (p :: L) O lo hi = p :: tsc L O lo hi := by
  unfold tsc
  rw [List.map_cons, mrg_x, fm_cons]
  · rfl
  · cases hf : O.filter fun p => inR lo hi p.1 with
    | nil => exact .inl rfl
    | cons y t =>
      refine .inr ⟨y, t, rfl, h y ?_⟩
      have : y ∈ O.filter fun p => inR lo hi p.1 := by rw [hf]; exact List.mem_cons_self
      exact (List.mem_filter.1 this).1
theorem tsc_nil : tsc [] [] lo hi = [] := by unfold tsc; simp [mrg]

/-- what is taken so far, and what is left -/
def SJ (L0 : List (Txt × Txt)) (O0 : List (Txt × Wr)) (lo hi : Txt) (T out : List (Txt × Txt)) (i k : Nat) : Prop :=
  k ≤ O0.length ∧ i ≤ L0.length ∧
  ((out ++ tsc (L0.drop i) (O0.drop k) lo hi = T ∧ ∀ j w p, j < k → O0[j]? = some w → L0[i]? = some p → OKey.lt w.1 p.1 = true) ∨
   (∃ p w, L0[i]? = some p ∧ 0 < k ∧ O0[k - 1]? = some w ∧ w.1 = p.1 ∧ out ++ tsc (L0.drop (i + 1)) (O0.drop k) lo hi = T))
section
variable {L0 : List (Txt × Txt)} {O0 : List (Txt × Wr)} {T out : List (Txt × Txt)} {i k : Nat}
theorem SJ.start : SJ L0 O0 lo hi (tsc L0 O0 lo hi) [] 0 0 := ⟨Nat.zero_le _, Nat.zero_le _, .inl ⟨rfl, fun j w p h => absurd h (Nat.not_lt_zero _)⟩⟩
theorem SJ.own (hL : Srt L0) (hO : Srt O0) (hr : ∀ p ∈ L0, inR lo hi p.1 = true) (h : SJ L0 O0 lo hi T out i k) (hw : O0[k]? = some w) (hc : i = L0.length ∨ ∃ p, L0[i]? = some p ∧ (OKey.lt w.1 p.1 || w.1 == p.1) = true) : SJ L0 O0 lo hi T (out ++ own1 lo hi w) i (k + 1) := by
  obtain ⟨hk, hi', h⟩ := h
  have hkl := (List.getElem?_eq_some_iff.1 hw).1
  refine ⟨hkl, hi', ?_⟩
  rcases h with ⟨hT, hside⟩ | ⟨p, w', hp, hk0, hw', he, hT⟩
  · rw [drop_at hw] at hT
    rcases hc with rfl | ⟨p, hp, hc⟩
    · left
      refine ⟨?_, fun j w' p _ _ hp => ?_⟩
      · rw [tsc_own (by simp), ← List.append_assoc] at hT; exact hT
      · rw [List.getElem?_eq_none (Nat.le_refl _)] at hp; cases hp
    · by_cases hlt : OKey.lt w.1 p.1 = true
      · left
        refine ⟨?_, fun j w' p' hj hw' hp' => ?_⟩
        · rw [tsc_own (fun q hq => by
            rw [drop_at hp] at hq
            cases hq; exact hlt), ← List.append_assoc] at hT
          exact hT
        · rw [hp] at hp'; cases hp'
          by_cases hjk : j < k
          · exact hside j w' p hjk hw' hp
          · obtain rfl : j = k := by omega
            rw [hw] at hw'; cases hw'; exact hlt
      · have he : w.1 = p.1 := by
          rw [Bool.or_eq_true] at hc
          rcases hc with hc | hc
          · exact absurd hc hlt
          · exact eq_of_beq hc
        right
        refine ⟨p, w, hp, Nat.succ_pos _, hw, he, ?_⟩
        rw [drop_at hp, tsc_eq he (hr p (List.mem_of_getElem? hp)), ← List.append_assoc] at hT
        exact hT
  · exfalso
    have h1 := srt_lt2 hO hw' hw (by omega)
    rw [he] at h1
    rcases hc with rfl | ⟨p', hp', hc⟩
    · rw [List.getElem?_eq_none (Nat.le_refl _)] at hp; cases hp
    · rw [hp] at hp'; cases hp'
      rw [Bool.or_eq_true] at hc
      rcases hc with hc | hc
      · have := OKey.tr h1 hc; rw [OKey.irr] at this; cases this
      · rw [eq_of_beq hc, OKey.irr] at h1; cases h1
theorem SJ.st (hL : Srt L0) (hO : Srt O0) (h : SJ L0 O0 lo hi T out i k) (hp : L0[i]? = some p) (hc : k = O0.length ∨ ∃ w, O0[k]? = some w ∧ (OKey.lt w.1 p.1 || w.1 == p.1) = false) :
    (k = 0 ∨ (∃ w, 0 < k ∧ O0[k - 1]? = some w ∧ w.1 ≠ p.1) → SJ L0 O0 lo hi T (out ++ [p]) (i + 1) k) ∧ ((∃ w, 0 < k ∧ O0[k - 1]? = some w ∧ w.1 = p.1) → SJ L0 O0 lo hi T out (i + 1) k) := by
  obtain ⟨hk, hi', h⟩ := h
  have hil := (List.getElem?_eq_some_iff.1 hp).1
  have hgt : ∀ y ∈ O0.drop k, OKey.lt p.1 y.1 = true := fun y hy => by
    rcases hc with rfl | ⟨w, hw, hc⟩
    · rw [List.drop_length] at hy; cases hy
    · rw [Bool.or_eq_false_iff] at hc
      have hpw : OKey.lt p.1 w.1 = true := by
        cases hx : OKey.lt p.1 w.1 with
        | true => rfl
        | false =>
          have := OKey.tot hc.1 hx
          rw [this] at hc; simp at hc
      rw [drop_at hw] at hy
      rcases List.mem_cons.1 hy with rfl | hy
      · exact hpw
      · obtain ⟨j, hj⟩ := List.mem_iff_getElem?.1 hy
        rw [List.getElem?_drop] at hj
        exact OKey.tr hpw (srt_lt2 hO hw hj (by omega))
  rcases h with ⟨hT, hside⟩ | ⟨p', w', hp', hk0, hw', he, hT⟩
  · refine ⟨fun _ => ⟨hk, hil, .inl ⟨?_, fun j w q hj hw hq => OKey.tr (hside j w p hj hw hp) (srt_lt2 hL hp hq (by omega))⟩⟩, ?_⟩
    · rw [drop_at hp, tsc_st hgt] at hT
      rw [List.append_assoc]; exact hT
    · rintro ⟨w, hk0, hw, he⟩
      have := hside (k - 1) w p (by omega) hw hp
      rw [he, OKey.irr] at this; cases this
  · rw [hp] at hp'; cases hp'
    refine ⟨?_, fun _ => ⟨hk, hil, .inl ⟨hT, fun j w q hj hw hq => ?_⟩⟩⟩
    · rintro (rfl | ⟨w, _, hw, hne⟩)
      · omega
      · rw [hw'] at hw; cases hw; exact absurd he hne
    · have h1 := srt_lt2 hL hp hq (by omega)
      by_cases hj1 : j = k - 1
      · subst hj1; rw [hw'] at hw; cases hw; rw [he]; exact h1
      · have := srt_lt2 hO hw hw' (by omega)
        rw [he] at this; exact OKey.tr this h1
theorem SJ.fin (h : SJ L0 O0 lo hi T out L0.length O0.length) : out = T := by
  obtain ⟨_, _, ⟨hT, _⟩ | ⟨p, _, hp, _⟩⟩ := h
  · rw [List.drop_length, List.drop_length, tsc_nil, List.append_nil] at hT; exact hT
  · rw [List.getElem?_eq_none (Nat.le_refl _)] at hp; cases hp
theorem SJ.len (h : SJ L0 O0 lo hi T out i k) : out.length ≤ T.length := by
  obtain ⟨_, _, ⟨hT, _⟩ | ⟨_, _, _, _, _, _, hT⟩⟩ := h <;>
  · have := congrArg List.length hT
    rw [List.length_append] at this
    omega
end
end Go.Ez

/-
  TRANSACTIONS, the document's: begun, written to, asked: what each function answers.
-/
namespace Go.Ez
open Go
theorem wrR_key {wm : List (Txt × Wr)} (h : KeyOk wm) (k x : Txt) (g : Bool) : KeyOk (wrR wm k x g).2 := by
  unfold wrR
  split
  · exact h
  · split
    · exact h
    · exact h.put _ _ _
end Go.Ez
namespace Go.Proofs.Ytffnabbchghokaa
open Go Go.Ez Go.RowKit
set_option linter.unusedSimpArgs false
set_option linter.unusedVariables false
/-- v points to the document's transaction over x -/
def Ux (x : Value) (t : Int) (wm : List (Txt × Wr)) (v : Value) : As := As.ex fun p : Nat × Value => As.all (v = .pointer (some ⟨p.1, 0, none⟩) ∧ KeyOk wm ∧ Srt wm) [Ky p.1 (Ob (.cells [x, .int .i64 t, p.2].toArray 146 (0, 0))), Ky p.2 (Ow 86 3 (wm.map Prod.snd).length (wcells (wm.map Prod.snd)))]
/-- it, left alone, and its store -/
def UxZ (rs : Rsvs) (low : Int) (t : Int) (wm : List (Txt × Wr)) (W : World) (v : Value) : Prop := ∃ b x sl, v = .pointer (some ⟨b, 0, none⟩) ∧ KeyOk wm ∧ Srt wm ∧ Cel1 sl ∧ Rec W b 146 [x, .int .i64 t, sl] ∧ Sl W 3 sl (wm.map Prod.snd).length (wcells (wm.map Prod.snd)) ∧ XsZ rs low W x
section
variable {w0 W W' : World} {G : Nat → Prop} {l R R1 : List As} {rs : Rsvs} {low t : Int} {v x : Value} {RR : Value → World → Prop} {wm : List (Txt × Wr)} {key : Txt} {L : List As} {rows : VRows Txt}
theorem openU [i : Has l v (Ux x t wm) R] (h : St w0 G l W) : ∃ b sl, v = .pointer (some ⟨b, 0, none⟩) ∧ KeyOk wm ∧ Srt wm ∧ Cel1 sl ∧ St w0 G (Ky b (Ob (.cells [x, .int .i64 t, sl].toArray 146 (0, 0))) :: Ky sl (Ow 86 3 (wm.map Prod.snd).length (wcells (wm.map Prod.snd))) :: R) W := by
  have h1 : St w0 G (Ux x t wm v :: R) W := h.find (k := v) (X := Ux x t wm)
  obtain ⟨⟨b, sl⟩, h2⟩ := h1.openE
  obtain ⟨⟨hv, hk, hs⟩, h3⟩ := h2.openA
  have h4 : St w0 G (Ky b (Ob (.cells [x, .int .i64 t, sl].toArray 146 (0, 0))) :: Ky sl (Ow 86 3 (wm.map Prod.snd).length (wcells (wm.map Prod.snd))) :: R) W := h3
  exact ⟨b, sl, hv, hk, hs, .of_own (h4.ow (v := sl)), h4⟩
theorem shutU {b n : Nat} {sl : Value} {cs : List Value} [i : Has l b (Ob (.cells [x, .int .i64 t, sl].toArray 146 (0, 0))) R1] [j : Has R1 sl (Ow 86 3 n cs) R] (h : St w0 G l W) (hk : KeyOk wm) (hs : Srt wm) (hn : n = (wm.map Prod.snd).length) (hc : cs = wcells (wm.map Prod.snd)) : St w0 G (Ky (.pointer (some ⟨b, 0, none⟩)) (Ux x t wm) :: R) W := by
  subst hn; subst hc
  refine St.shutE (f := fun p : Nat × Value => As.all (Value.pointer (some ⟨b, 0, none⟩) = Value.pointer (some ⟨p.1, 0, none⟩) ∧ KeyOk wm ∧ Srt wm) [Ky p.1 (Ob (.cells [x, .int .i64 t, p.2].toArray 146 (0, 0))), Ky p.2 (Ow 86 3 (wm.map Prod.snd).length (wcells (wm.map Prod.snd)))]) (b, sl) (St.shutA ⟨rfl, hk, hs⟩ ?_)
  show St w0 G (Ky b (Ob (.cells [x, .int .i64 t, sl].toArray 146 (0, 0))) :: Ky sl (Ow 86 3 (wm.map Prod.snd).length (wcells (wm.map Prod.snd))) :: R) W
  obtain ⟨F, hF, hG⟩ := h.own
  exact { h with own := ⟨F, sepL_mono j.to (i.to F W hF), hG⟩ }
theorem UxZ.below (h : UxZ rs low t wm W v) (hb : Below W.heap.size W W') : UxZ rs low t wm W' v := by
  obtain ⟨b, x, sl, hv, hk, hs, o, h1, h2, h3⟩ := h
  exact ⟨b, x, sl, hv, hk, hs, o, h1.below hb, h2.below hb, h3.below hb⟩

/-- Begin -/
theorem ubegin_spec {bx : Nat} (h : St w0 G l W) (k : ∀ b W', St w0 G (Ky (.pointer (some ⟨b, 0, none⟩) : Value) (Ux (.pointer (some ⟨bx, 0, none⟩)) t []) :: l) W' → RR (.pointer (some ⟨b, 0, none⟩)) W') : CallF Try.prog 59 #[.pointer (some ⟨bx, 0, none⟩), .int .i64 t] W RR := by
  refine sh59_calls ?_
  unfold sh59
  refine x_bld (cells := [.pointer (some ⟨bx, 0, none⟩), .int .i64 t, .slice none 0 0].toArray) rfl ?_
  refine h.boxS (cs := [.pointer (some ⟨bx, 0, none⟩), .int .i64 t, .slice none 0 0]) fun b W h => ?_
  have h1 : St w0 G (Ky (.slice none 0 0 : Value) (Ow 86 3 0 []) :: _) W := h.nilOw
  exact k b W (shutU (b := b) (sl := .slice none 0 0) h1 (fun p hp => by cases hp) List.Pairwise.nil rfl rfl)

/-- Writes -/
theorem uwlist_spec {Wz : World} (hz : UxZ rs low t wm Wz v) (hl : wm.length ≤ 1000000) (k : ∀ v' W', Cel1 v' → St Wz G0 [Ky v' (Ow 86 3 wm.length (wcells (wm.map Prod.snd)))] W' → RR v' W') : CallF Try.prog 66 #[v] Wz RR := by
  refine sh66_calls ?_
  unfold sh66
  obtain ⟨b, x, sl, rfl, hk, hs, o, hr, hsl, hx⟩ := hz
  have hm : (wm.map Prod.snd).length = wm.length := by simp
  have h := St.start Wz
  refine h.litB (vs := []) (cs := []) (fun u W o hb h => ?_) (by decide)
  refine a_nil (a_fld0 (w_ldR (hr.below hb) rfl ?_))
  refine St.app (v := u) h (hsl.below hb) (wcells_one _) (by unfold maxLen; omega) (by omega) fun u2 W2 o2 h _ => ?_
  rw [Nat.zero_add, List.nil_append, hm] at h
  exact k u2 W2 o2 h

/-- Clash -/
theorem uclash_spec {n : Nat} {Wz : World} (hz : UxZ rs low t wm Wz v) (hb : Bd n (rwvs rs)) (hn : n ≤ 500000) (hl : wm.length ≤ 1000000) (k : ∀ W', Below Wz.heap.size Wz W' → RR (.bool (clashR (rwvs rs) t wm)) W') :
    CallF Try.prog 65 #[v] Wz RR := by
  refine sh65_calls ?_
  unfold sh65
  obtain ⟨b, x, sl, rfl, hk, hs, o, hr, hsl, hx⟩ := hz
  have hm : (wm.map Prod.snd).length = wm.length := by simp
  refine lpx (α := Nat) (fun i => [nV .i64 i]) (fun i W' => i ≤ wm.length ∧ clashR (rwvs rs) t (wm.take i) = false ∧ Below Wz.heap.size Wz W') (fun i => wm.length - i) 0 (fun _ => rfl) rfl ⟨Nat.zero_le _, rfl, Below.refl _ _⟩ ?_
  rintro next i W hnext ⟨hi, hno, hbw⟩
  refine app1 ?_
  refine a_nil (a_fld0 (w_ldR (hr.below hbw) rfl ?_))
  refine x_lenS (hsl.below hbw) ?_
  refine a_lss (ifd (fun hc => ?_) fun hc => ?_)
  · obtain ⟨y, hy⟩ : ∃ y, wm[i]? = some y := ⟨_, List.getElem?_eq_getElem (by omega)⟩
    have hy2 : (wm.map Prod.snd)[i]? = some y.2 := by rw [List.getElem?_map, hy]; rfl
    have hyk : y.2.1 = y.1 := hk y (List.mem_of_getElem? hy)
    replace hbw := hbw.drew
    refine ⟨fun w => Below Wz.heap.size Wz w, hbw, ?_⟩
    refine a_nil (a_fld0 (s_ld (t := 146) (cs := [x, .int .i64 t, sl]) (fun w hw => hr.below hw) rfl ?_))
    refine a_nil (a_fld0 (s_ld (t := 146) (cs := [x, .int .i64 t, sl]) (fun w hw => hr.below hw) rfl ?_))
    refine x_sfld (hsl.below hbw) (fun w hw => hsl.below hw) (by omega) (by decide) ((wcells_get hy2 (j := 0) (by decide)).trans rfl) ?_
    refine a_nil (a_fld0 (s_ld (t := 146) (cs := [x, .int .i64 t, sl]) (fun w hw => hr.below hw) rfl ?_))
    refine xlast_spec (key := y.2.1) (hx.below hbw) hb (by omega) fun W2 hb2 => ?_
    replace hbw := Go.Ez.Below.next hbw hb2
    refine ⟨hbw, ?_⟩
    rw [hyk]
    have hst : clashR (rwvs rs) t (wm.take (i + 1)) = (clashR (rwvs rs) t (wm.take i) || decide (t < lastC (chainR (rwvs rs) y.1))) := by
      unfold clashR
      rw [List.take_add_one, hy, List.any_append]; simp
    refine a_gtr (ifd (fun hlt => ?_) fun hlt => ?_)
    · have : clashR (rwvs rs) t wm = true := by
        unfold clashR
        rw [List.any_eq_true]
        exact ⟨y, List.mem_of_getElem? hy, decide_eq_true hlt⟩
      rw [this] at k
      exact k W2 hbw
    · refine a_add64 (by omega) (by omega) ⟨rfl, ?_⟩
      rw [show ((i : Int) + 1) = ((i + 1 : Nat) : Int) by push_cast; rfl]
      exact hnext (i + 1) _ (by omega) ⟨by omega, by rw [hst, hno, decide_eq_false hlt]; rfl, hbw⟩
  · rw [List.take_of_length_le (by omega)] at hno
    rw [hno] at k
    exact k W hbw

/-- Get -/
theorem uget_spec {n : Nat} {Wz : World} (hz : UxZ rs low t wm Wz v) (hb : Bd n (rwvs rs)) (hn : n ≤ 500000) (hg : Gd (rwvs rs)) (hl : wm.length ≤ 1000000) (k : ∀ W', Below Wz.heap.size Wz W' → RR (.tuple #[strV (seesR (rwvs rs) t wm key).1, .bool (seesR (rwvs rs) t wm key).2]) W') :
    CallF Try.prog 62 #[v, strV key] Wz RR := by
  refine sh62_calls ?_
  unfold sh62
  obtain ⟨b, x, sl, rfl, hk, hs, o, hr, hsl, hx⟩ := hz
  have hm : (wm.map Prod.snd).length = wm.length := by simp
  refine lpx (α := Nat) (fun i => [nV .i64 i]) (fun i W' => i ≤ wm.length ∧ (∀ j y, j < i → wm[j]? = some y → y.1 ≠ key) ∧ W' = Wz) (fun i => wm.length - i) 0 (fun _ => rfl) rfl ⟨Nat.zero_le _, fun j y h => absurd h (Nat.not_lt_zero _), rfl⟩ ?_
  rintro next i W hnext ⟨hi, hno, rfl⟩
  refine app1 ?_
  refine a_nil (a_fld0 (w_ldR hr rfl ?_))
  refine x_lenS hsl ?_
  refine a_lss (ifd (fun hc => ?_) fun hc => ?_)
  · obtain ⟨y, hy⟩ : ∃ y, wm[i]? = some y := ⟨_, List.getElem?_eq_getElem (by omega)⟩
    have hy2 : (wm.map Prod.snd)[i]? = some y.2 := by rw [List.getElem?_map, hy]; rfl
    have hyk : y.2.1 = y.1 := hk y (List.mem_of_getElem? hy)
    refine a_nil (a_fld0 (w_ldR hr rfl ?_))
    refine x_fld hsl (by omega) (by decide) ((wcells_get hy2 (j := 0) (by decide)).trans rfl) ?_
    rw [hyk]
    refine w_eqlL (ifd (fun he => ?_) fun he => ?_)
    · have hbw : Below W.heap.size W W.drew := (Below.refl _ _).drew
      have e : seesR (rwvs rs) t wm key = (y.2.2.1, !y.2.2.2) := by
        have := (mem_iff_get hs).1 (List.mem_of_getElem? hy)
        rw [he] at this
        unfold seesR; rw [this]
      rw [e] at k
      refine ⟨fun w => Below W.heap.size W w, hbw, ?_⟩
      refine a_nil (a_fld0 (s_ld (t := 146) (cs := [x, .int .i64 t, sl]) (fun w hw => hr.below hw) rfl ?_))
      refine x_sfld (hsl.below hbw) (fun w hw => hsl.below hw) (by omega) (by decide) ((wcells_get hy2 (j := 1) (by decide)).trans rfl) ?_
      refine a_nil (a_fld0 (s_ld (t := 146) (cs := [x, .int .i64 t, sl]) (fun w hw => hr.below hw) rfl ?_))
      refine x_sfld (hsl.below hbw) (fun w hw => hsl.below hw) (by omega) (by decide) ((wcells_get hy2 (j := 2) (by decide)).trans rfl) ?_
      refine a_not ?_
      exact k _ hbw
    · refine a_add64 (by omega) (by omega) ⟨rfl, rfl, ?_⟩
      rw [show ((i : Int) + 1) = ((i + 1 : Nat) : Int) by push_cast; rfl]
      refine hnext (i + 1) _ (by omega) ⟨by omega, fun j z hj hz => ?_, rfl⟩
      by_cases hji : j < i
      · exact hno j z hji hz
      · obtain rfl : j = i := by omega
        rw [hy] at hz; cases hz; exact he
  · have hbw : Below W.heap.size W W.drew := (Below.refl _ _).drew
    have hgn : getK key wm = none := by
      cases hx : getK key wm with
      | none => rfl
      | some w =>
        obtain ⟨j, hj⟩ := List.mem_iff_getElem?.1 (getK_mem hx)
        have := (List.getElem?_eq_some_iff.1 hj).1
        exact absurd rfl (hno j _ (by omega) hj)
    have e : seesR (rwvs rs) t wm key = ((toldC (chainR (rwvs rs) key) t).getD default, (toldC (chainR (rwvs rs) key) t).isSome) := by unfold seesR; rw [hgn]
    rw [e] at k
    refine ⟨fun w => Below W.heap.size W w, hbw, ?_⟩
    refine a_nil (a_fld0 (s_ld (t := 146) (cs := [x, .int .i64 t, sl]) (fun w hw => hr.below hw) rfl ?_))
    refine a_nil (a_fld0 (s_ld (t := 146) (cs := [x, .int .i64 t, sl]) (fun w hw => hr.below hw) rfl ?_))
    refine xget_spec (key := key) (t := t) (hx.below hbw) hb (by omega) hg fun W2 hb2 => ?_
    refine a_ext0 (a_ext1 ?_)
    exact k W2 (Go.Ez.Below.next hbw hb2)

set_option maxHeartbeats 1000000 in
/-- write -/
theorem uwrite_spec {z : Txt} {g : Bool} [i : Has l v (Ux x t wm) R] (h : St w0 G l W) (hl : wm.length ≤ 1000) (k : ∀ W', St w0 G (Ky v (Ux x t (wrR wm key z g).2) :: R) W' → RR (.int .i64 (wrR wm key z g).1) W') :
    CallF Try.prog 100 #[v, .agg (wrC (key, z, g)).toArray] W RR := by
  refine sh100_calls ?_
  unfold sh100
  obtain ⟨b, sl, hv, hk, hs, osl, h'⟩ := openU (v := v) h
  subst hv
  replace h := h'
  clear h'
  have hm : (wm.map Prod.snd).length = wm.length := by simp
  have hp := posK_le key wm
  refine h.boxS (cs := [strV key, strV z, .bool g]) fun bx W h => ?_
  have no : (key = [] ∨ 1200 < key.length ∨ 6000 < z.length) → RR (.int .i64 3) W := fun hc => by
    have e : wrR wm key z g = (3, wm) := by unfold wrR; rw [if_pos hc]
    have := k W (by rw [e]; exact (shutU (b := b) (sl := sl) h hk hs rfl rfl).to)
    rw [e] at this; exact this
  refine a_fld0 (h.load ?_)
  refine x_len (a_lss (ifd (fun hc => no (.inl (List.eq_nil_of_length_eq_zero (by omega)))) fun hc1 => ?_))
  refine a_fld0 (h.load ?_)
  refine x_len (a_gtr (ifd (fun hc => no (.inr (.inl (by omega)))) fun hc2 => ?_))
  refine a_fld0 (h.load ?_)
  refine x_len (a_gtr (ifd (fun hc => no (.inr (.inr (by omega)))) fun hc3 => ?_))
  clear no
  have e0 : ¬ (key = [] ∨ 1200 < key.length ∨ 6000 < z.length) := fun hx => hx.elim (fun hx => hc1 (by rw [hx]; decide)) fun hx => hx.elim (fun hx => hc2 (by omega)) fun hx => hc3 (by omega)
  have hcost : ∀ i, i < wm.length → ∃ y, wm[i]? = some y ∧ (wm.map Prod.snd)[i]? = some y.2 ∧ y.2.1 = y.1 := fun i hi => by
    obtain ⟨y, hy⟩ : ∃ y, wm[i]? = some y := ⟨_, List.getElem?_eq_getElem hi⟩
    exact ⟨y, hy, by rw [List.getElem?_map, hy]; rfl, hk y (List.mem_of_getElem? hy)⟩
  refine jni (fun vs W' => vs = [.pointer (some ⟨b, 0, none⟩), .pointer (some ⟨bx, 0, none⟩), nV .i64 (posK key wm)] ∧ St w0 G (Ky bx (Ob (.cells [strV key, strV z, .bool g].toArray 86 (0, 0))) :: Ky b (Ob (.cells [x, .int .i64 t, sl].toArray 146 (0, 0))) :: Ky sl (Ow 86 3 (wm.map Prod.snd).length (wcells (wm.map Prod.snd))) :: R) W') ?_ ?_
  · rintro vs W3 _ ⟨rfl, h⟩
    refine app3 ?_
    refine jni (fun vs W' => vs = [.pointer (some ⟨b, 0, none⟩), .pointer (some ⟨bx, 0, none⟩), nV .i64 (posK key wm)] ∧ hasK key wm = false ∧ St w0 G (Ky bx (Ob (.cells [strV key, strV z, .bool g].toArray 86 (0, 0))) :: Ky b (Ob (.cells [x, .int .i64 t, sl].toArray 146 (0, 0))) :: Ky sl (Ow 86 3 (wm.map Prod.snd).length (wcells (wm.map Prod.snd))) :: R) W') ?_ ?_
    · rintro vs W4 _ ⟨rfl, hh, h⟩
      refine app3 ?_
      have hgn : getK key wm = none := by rw [getK_pos hs, hh]; rfl
      refine a_nil (a_fld0 (h.load ?_))
      refine x_lenS (h.osl (v := sl)) ?_
      refine a_geq (ifd (fun hge => ?_) fun hge => ?_)
      · have e : wrR wm key z g = (17, wm) := by unfold wrR; rw [if_neg e0, if_pos ⟨hgn, by omega⟩]
        have := k W4 (by rw [e]; exact (shutU (b := b) (sl := sl) h hk hs rfl rfl).to)
        rw [e] at this; exact this
      have e : wrR wm key z g = (0, putK key (key, z, g) wm) := by unfold wrR; rw [if_neg e0, if_neg fun hx => hge (by omega)]
      replace h := h.drew
      refine ⟨St w0 G _, h, ?_⟩
      refine a_nil (a_fld0 (ss_load ?_))
      refine x_cutOw (v := sl) h (by omega) ?_
      refine ss_loadS (cs := [strV key, strV z, .bool g]) ?_
      refine a_nil (a_fld0 (ss_load ?_))
      refine x_cutRd (h.osl (v := sl)) (by omega) fun t0 hts => ?_
      rw [← rc_drop wC3] at hts
      refine h.litB (vs := [.agg [strV key, strV z, .bool g].toArray]) (cs := [strV key, strV z, .bool g]) (fun t1 V1 o1 m1 h => ?_) (by decide)
      refine ⟨h.to, ?_⟩
      refine St.app (v := t1) h (hts.below m1) (wcells_one _) (by unfold maxLen; omega) (by omega) fun t2 W2 o2 h _ => ?_
      refine ⟨h.to, ?_⟩
      replace h := (St.find (k := sl) (X := Ow 86 3 (wm.map Prod.snd).length (wcells (wm.map Prod.snd))) h).cutOw (v := sl) (k := posK key wm) (by omega)
      refine St.app (v := cutV sl (posK key wm)) h (h.osl (v := t2)) (fun c hc => ?_) (by unfold maxLen; omega) (by omega) fun t3 W3 o3 h _ => ?_
      · replace hc : c ∈ wrC (key, z, g) ++ rcells wrC ((wm.map Prod.snd).drop (posK key wm)) := hc
        rw [← rc_cons] at hc
        exact wcells_one _ c hc
      · refine a_nil (a_fld0 ?_)
        refine h.store fun W5 h => ?_
        have hln : ((putK key (key, z, g) wm).map Prod.snd).length = posK key wm + (1 + ((wm.map Prod.snd).length - posK key wm)) := by
          rw [wput_new hh]; simp [List.length_take, List.length_drop]; omega
        have hce : wcells ((putK key (key, z, g) wm).map Prod.snd) = (wcells (wm.map Prod.snd)).take (posK key wm * 3) ++ ([strV key, strV z, .bool g] ++ wcells ((wm.map Prod.snd).drop (posK key wm))) := by
          rw [wput_new hh]
          show rcells wrC _ = _
          rw [rc_append, rc_take wC3, rc_cons]; rfl
        have := k W5 (by
          rw [e]
          exact St.to (shutU (b := b) (sl := t3) h (hk.put key z g) (srt_put hs) hln.symm hce.symm))
        rw [e] at this; exact this
    · replace h := h.drew
      refine ⟨St w0 G _, h, ?_⟩
      refine a_nil (a_fld0 (ss_load ?_))
      refine x_lenSs (h.osl (v := sl)) ?_
      refine a_lss (ifd (fun hlt => ?_) fun hge => ?_)
      · obtain ⟨y, hy, hy2, hyk⟩ := hcost (posK key wm) (by omega)
        have hh : hasK key wm = decide (y.1 = key) := by unfold hasK; rw [hy]
        refine a_nil (a_fld0 (ss_load ?_))
        refine x_sfld (h.osl (v := sl)) (fun w hw => hw.osl (v := sl)) (by omega) (by decide) ((wcells_get hy2 (j := 0) (by decide)).trans rfl) ?_
        refine a_fld0 (ss_load ?_)
        rw [hyk]
        refine s_eqlL (ifd (fun he => ?_) fun he => ?_)
        · have hht : hasK key wm = true := by rw [hh]; exact decide_eq_true he
          have e : wrR wm key z g = (0, putK key (key, z, g) wm) := by
            unfold wrR; rw [if_neg e0, if_neg fun hx => ?_]
            rw [hasK_get hs, hx.1] at hht; cases hht
          replace h := h.drew
          refine ⟨St w0 G _, h, ?_⟩
          refine a_nil (a_fld0 (ss_load ?_))
          refine ss_loadS (cs := [strV key, strV z, .bool g]) ?_
          refine h.setI (v := sl) (j := posK key wm) (by omega) fun gu cap hu _ => ?_
          subst hu
          refine St.storeIS (cs := [strV key, strV z, .bool g]) (n := (wm.map Prod.snd).length) (cap := cap) (sz := 3) (q := posK key wm * 3) h (by omega) fun W12 h => ?_
          have := k W12 (by
            rw [e]
            refine St.to (shutU (b := b) (sl := .slice (some ⟨gu, 0, none⟩) (wm.map Prod.snd).length cap) h (hk.put key z g) (srt_put hs) ?_ ?_)
            · rw [wput_has hht]; simp
            · rw [wput_has hht, wcells_set (by omega)])
          rw [e] at this; exact this
        · exact ⟨rfl, by rw [hh]; exact decide_eq_false he, h.to⟩
      · exact ⟨rfl, by unfold hasK; rw [List.getElem?_eq_none (by omega)], h.to⟩
  · refine lpx (α := Nat) (fun j => [nV .i64 j]) (fun j W' => j ≤ posK key wm ∧ St w0 G (Ky bx (Ob (.cells [strV key, strV z, .bool g].toArray 86 (0, 0))) :: Ky b (Ob (.cells [x, .int .i64 t, sl].toArray 146 (0, 0))) :: Ky sl (Ow 86 3 (wm.map Prod.snd).length (wcells (wm.map Prod.snd))) :: R) W') (fun j => posK key wm - j) 0 (fun _ => rfl) rfl ⟨Nat.zero_le _, h⟩ ?_
    clear h
    rintro next j W11 hnext2 ⟨hj, h⟩
    refine app1 ?_
    replace h := h.drew
    refine ⟨St w0 G _, h, ?_⟩
    refine a_nil (a_fld0 (ss_load ?_))
    refine x_lenSs (h.osl (v := sl)) ?_
    refine a_lss (ifd (fun hlt => ?_) fun hge => ?_)
    · obtain ⟨y, hy, hy2, hyk⟩ := hcost j (by omega)
      have hiff := posK_iff (k := key) hs hy
      refine a_nil (a_fld0 (ss_load ?_))
      refine x_sfld (h.osl (v := sl)) (fun w hw => hw.osl (v := sl)) (by omega) (by decide) ((wcells_get hy2 (j := 0) (by decide)).trans rfl) ?_
      refine a_fld0 (ss_load ?_)
      rw [hyk]
      refine x_lssL (ifb (fun hlt => ?_) fun hge => ?_)
      · have := hiff.1 hlt
        refine a_add64 (by omega) (by omega) ⟨rfl, rfl, ?_⟩
        rw [show ((j : Int) + 1) = ((j + 1 : Nat) : Int) by push_cast; rfl]
        exact hnext2 (j + 1) _ (by omega) ⟨by omega, h.to⟩
      · have : ¬ j < posK key wm := fun hx => by have := hiff.2 hx; rw [show OKey.lt y.1 key = false from hge] at this; cases this
        obtain rfl : j = posK key wm := by omega
        exact ⟨rfl, h.to⟩
    · obtain rfl : j = posK key wm := by omega
      exact ⟨rfl, h.to⟩
theorem uput_spec {z : Txt} [i : Has l v (Ux x t wm) R] (h : St w0 G l W) (hl : wm.length ≤ 1000) (k : ∀ W', St w0 G (Ky v (Ux x t (wrR wm key z false).2) :: R) W' → RR (.int .i64 (wrR wm key z false).1) W') :
    CallF Try.prog 60 #[v, strV key, strV z] W RR := by
  refine sh60_calls ?_
  unfold sh60
  refine x_bld (cells := (wrC (key, z, false)).toArray) rfl ?_
  exact uwrite_spec h hl k
theorem udel_spec [i : Has l v (Ux x t wm) R] (h : St w0 G l W) (hl : wm.length ≤ 1000) (k : ∀ W', St w0 G (Ky v (Ux x t (wrR wm key [] true).2) :: R) W' → RR (.int .i64 (wrR wm key [] true).1) W') :
    CallF Try.prog 61 #[v, strV key] W RR := by
  refine sh61_calls ?_
  unfold sh61
  refine x_bld (cells := (wrC (key, [], true)).toArray) rfl ?_
  exact uwrite_spec h hl k
end
end Go.Proofs.Ytffnabbchghokaa

/-
  TRANSACTIONS, the document's: scans: what each function answers.
-/
namespace Go.Ez
theorem takeWhile_stop {β : Type} {c : β → Bool} : ∀ {l : List β} {i : Nat}, i ≤ l.length → (∀ j y, j < i → l[j]? = some y → c y = true) → (∀ y, l[i]? = some y → c y = false) → l.takeWhile c = l.take i
  | [], i, _, _, _ => by simp
  | y :: l, 0, _, _, h2 => by rw [List.takeWhile_cons_of_neg (by simp [h2 y rfl])]; rfl
  | y :: l, i + 1, h0, h1, h2 => by
    rw [List.takeWhile_cons_of_pos (h1 0 y (by omega) rfl), List.take_succ_cons, takeWhile_stop (l := l) (i := i) (by simp at h0; omega) (fun j z hj hz => h1 (j + 1) z (by omega) hz) fun z hz => h2 z hz]
end Go.Ez
namespace Go.Proofs.Ytffnabbchghokaa
open Go Go.Ez Go.RowKit
set_option linter.unusedSimpArgs false
set_option linter.unusedVariables false
section
variable {w0 W W' : World} {G : Nat → Prop} {l R R1 : List As} {rs : Rsvs} {low t : Int} {v x : Value} {RR : Value → World → Prop} {wm : List (Txt × Wr)} {key : Txt} {L : List As} {rows : VRows Txt}
abbrev PrL (u lv : Value) (out L0 : List (Txt × Txt)) : List As := [Ky u (Ow 50 2 out.length (pcells out)), Ky lv (Ow 50 2 L0.length (pcells L0))]
theorem ppush_code {u lv : Value} {out L0 : List (Txt × Txt)} {i : Nat} {p : Txt × Txt} {KV : Value → World → Prop} (h : St w0 G (PrL u lv out L0) W) (hp : L0[i]? = some p) (hl : out.length ≤ 1000000)
    (k : ∀ u' W', Cel1 u' → St w0 G (PrL u' lv (out ++ [p]) L0) W' → KV u' W') :
    RunA Try.prog (Instr.indexAt 41 lv (nV .i64 i)) fun q => RunW Try.prog (Instr.loadAt 50 q) W fun z => RunV Try.prog (Instr.buildSlice 41 1 #[(0, z)]) W fun y w => RunV Try.prog (Builtin.append_ #[41, 41] 41 #[u, y]) w KV := by
  have hil := (List.getElem?_eq_some_iff.1 hp).1
  refine x_idx (h.osl (v := lv)) (by omega) fun bb oo hcell => ?_
  refine x_lds (cs := [strV p.1, strV p.2]) rfl (fun jj u hu => ?_) ?_
  · rcases jj with _ | _ | jj
    · exact hcell 0 u (by decide) ((pcells_get hp).1.trans hu)
    · exact hcell 1 u (by decide) ((pcells_get hp).2.trans hu)
    · cases hu
  refine h.lit (vs := [.agg [strV p.1, strV p.2].toArray]) (cs := [strV p.1, strV p.2]) (fun u3 W5 o3 h => ?_) (by decide)
  refine St.app (v := u) h (h.osl (v := u3)) (by simp [Value.oneCell']) (by unfold maxLen; omega) (by omega) fun u4 W6 o4 h _ => ?_
  refine k u4 W6 o4 ?_
  show St w0 G [Ky u4 (Ow 50 2 (out ++ [p]).length (pcells (out ++ [p]))), Ky lv (Ow 50 2 L0.length (pcells L0))] W6
  rw [pcells_append, List.length_append, show ([p] : List (Txt × Txt)).length = 1 from rfl, show pcells [p] = [strV p.1, strV p.2] from rfl]
  exact h.to
theorem scanR_in (hs : Srt rows) {lo hi : Txt} {t : Int} : ∀ p ∈ scanR rows lo hi t, inR lo hi p.1 = true := fun p hp => by
  have h1 := (mem_iff_get (scanR_srt hs lo hi t) (k := p.1) (v := p.2)).1 hp
  rw [scanR_get hs] at h1
  split at h1
  · assumption
  · cases h1

set_option maxHeartbeats 2000000 in
/-- Scan -/
theorem uscan_spec {n : Nat} {lo hi : Txt} {Wz : World} (hz : UxZ rs low t wm Wz v) (hb : Bd n (rwvs rs)) (hn : n ≤ 100000) (hg : Gd (rwvs rs)) (hl : wm.length ≤ 100000)
    (k : ∀ v' W', Cel1 v' → St Wz G0 [Ky v' (Ow 50 2 (tscan (rwvs rs) t wm lo hi).length (pcells (tscan (rwvs rs) t wm lo hi)))] W' → RR v' W') :
    CallF Try.prog 64 #[v, strV lo, strV hi] Wz RR := by
  refine sh64_calls ?_
  unfold sh64
  obtain ⟨b, x, sl, rfl, hk, hs, o, hr, hsl, hx⟩ := hz
  have hm : (wm.map Prod.snd).length = wm.length := by simp
  have hsr : Srt (rwvs rs) := by obtain ⟨_, _, _, hs, _⟩ := hx; exact (mapV_srt _).2 hs
  have hbw : Below Wz.heap.size Wz Wz.drew := (Below.refl _ _).drew
  have hin := scanR_in hsr (lo := lo) (hi := hi) (t := t)
  have hLs := scanR_srt hsr lo hi t
  have hLl := scanR_len (rows := rwvs rs) lo hi t
  have hTl := tscan_len (rwvs rs) t wm lo hi
  have hB1 := hb.1
  refine ⟨fun w => Below Wz.heap.size Wz w, hbw, ?_⟩
  refine a_nil (a_fld0 (s_ld (t := 146) (cs := [x, .int .i64 t, sl]) (fun w hw => hr.below hw) rfl ?_))
  refine a_nil (a_fld0 (s_ld (t := 146) (cs := [x, .int .i64 t, sl]) (fun w hw => hr.below hw) rfl ?_))
  refine xscan_spec (lo := lo) (hi := hi) (t := t) (hx.below hbw) hb (by omega) hg fun lv W1 ol h => ?_
  have hst := SJ.start (L0 := scanR (rwvs rs) lo hi t) (O0 := wm) (lo := lo) (hi := hi)
  rw [← tscan_tsc] at hst
  replace h : St Wz G0 [Ky lv (Ow 50 2 (scanR (rwvs rs) lo hi t).length (pcells (scanR (rwvs rs) lo hi t)))] W1 := by
    have := ((St.start Wz).ext hbw).frame1 (l := []) (A := Ky lv (Ow 50 2 (scanR (rwvs rs) lo hi t).length (pcells (scanR (rwvs rs) lo hi t)))) h
    exact this.to
  generalize hT : tscan (rwvs rs) t wm lo hi = T at *
  generalize hL : scanR (rwvs rs) lo hi t = L0 at *
  have h0 : St Wz G0 (PrL (.slice none 0 0) lv [] L0) W1 := by
    have h' : St Wz G0 (Ky (.slice none 0 0 : Value) (Ow 50 2 ([] : List (Txt × Txt)).length (pcells ([] : List (Txt × Txt)))) :: _) W1 := h.nilOw
    exact h'
  clear h
  refine lpx (α := Value × Nat × Nat) (fun x => [x.1, nV .i64 x.2.1, nV .i64 x.2.2]) (fun x W' => ∃ out, ((x.2.2 ≤ L0.length ∧ SJ L0 wm lo hi T out x.2.2 x.2.1) ∨ (x.2.2 = L0.length + 1 ∧ out = T)) ∧ Cel1 x.1 ∧ St Wz G0 (PrL x.1 lv out L0) W') (fun x => L0.length + 1 - x.2.2) (.slice none 0 0, 0, 0) (fun _ => rfl) rfl ⟨[], .inl ⟨Nat.zero_le _, hst⟩, ⟨rfl⟩, h0⟩ ?_
  clear h0 hst
  rintro next ⟨u, kk, i⟩ W2 hnext ⟨out, hst, ou, h⟩
  simp only at hst h ⊢
  replace ou : Cel1 u := ou
  refine app3 ?_
  refine x_lenS (h.osl (v := lv)) ?_
  refine a_leq (ifd (fun hc => ?_) fun hc => ?_)
  · obtain ⟨hi', hst⟩ : i ≤ L0.length ∧ SJ L0 wm lo hi T out i kk := by
      rcases hst with h | h
      · exact h
      · omega
    have cost : ∀ q, q < wm.length → ∃ y, wm[q]? = some y ∧ (wm.map Prod.snd)[q]? = some y.2 ∧ y.2.1 = y.1 := fun q hq => by
      obtain ⟨y, hy⟩ : ∃ y, wm[q]? = some y := ⟨_, List.getElem?_eq_getElem hq⟩
      exact ⟨y, hy, by rw [List.getElem?_map, hy]; rfl, hk y (List.mem_of_getElem? hy)⟩
    refine jni (fun vs W' => ∃ u kk, vs = [.pointer (some ⟨b, 0, none⟩), strV lo, strV hi, lv, u, nV .i64 kk, nV .i64 i] ∧ Cel1 u ∧ ∃ out, SJ L0 wm lo hi T out i kk ∧ (kk = wm.length ∨ ∃ p w, L0[i]? = some p ∧ wm[kk]? = some w ∧ (OKey.lt w.1 p.1 || w.1 == p.1) = false) ∧ St Wz G0 (PrL u lv out L0) W') ?_ ?_
    · rintro vs W3 _ ⟨u, kk, rfl, ou, out, hst, hend, h⟩
      refine app7 ?_
      have hol := hst.len
      have hkl := hst.1
      refine jni (fun vs W' => ∃ u, vs = [.pointer (some ⟨b, 0, none⟩), strV lo, strV hi, lv, u, nV .i64 kk, nV .i64 i] ∧ Cel1 u ∧ ∃ out, ((i + 1 ≤ L0.length ∧ SJ L0 wm lo hi T out (i + 1) kk) ∨ (i + 1 = L0.length + 1 ∧ out = T)) ∧ St Wz G0 (PrL u lv out L0) W') ?_ ?_
      · rintro vs W4 _ ⟨u, rfl, ou, out, hst, h⟩
        refine app7 ?_
        refine a_add64 (by omega) (by omega) ⟨rfl, rfl, rfl, rfl, ?_⟩
        rw [show ((i : Int) + 1) = ((i + 1 : Nat) : Int) by push_cast; rfl]
        exact hnext (u, kk, i + 1) W4 (by show L0.length + 1 - (i + 1) < L0.length + 1 - i; omega) ⟨out, hst, ou, h⟩
      replace h := h.drew
      refine ⟨fun w => St Wz G0 (PrL u lv out L0) w, h, ?_⟩
      refine x_lenSs (h.osl (v := lv)) ?_
      refine a_lss (ifd (fun hlt => ?_) fun hge => ?_)
      · obtain ⟨p, hp⟩ : ∃ p, L0[i]? = some p := ⟨_, List.getElem?_eq_getElem (by omega)⟩
        have hstep := hst.st hLs hs hp (by
          rcases hend with h | ⟨p', w, hp', hw, hf⟩
          · exact .inl h
          · rw [hp] at hp'; cases hp'; exact .inr ⟨w, hw, hf⟩)
        refine s_eql (ifd (fun hk0 => ?_) fun hk0 => ?_)
        · refine ppush_code h hp (by omega) fun u' W5 ou' h => ?_
          exact ⟨u', rfl, ou', _, .inl ⟨by omega, hstep.1 (.inl (by omega))⟩, h⟩
        · obtain ⟨y, hy, hy2, hyk⟩ := cost (kk - 1) (by omega)
          refine a_nil (a_fld0 (s_ld (t := 146) (cs := [x, .int .i64 t, sl]) (fun w hw => hr.below hw.low) rfl ?_))
          refine a_sub64 (by omega) (by omega) ?_
          rw [show ((kk : Int) - 1) = ((kk - 1 : Nat) : Int) by omega]
          refine x_sfld (hsl.below h.low) (fun w hw => hsl.below hw.low) (by omega) (by decide) ((wcells_get hy2 (j := 0) (by decide)).trans rfl) ?_
          refine x_sfld (h.osl (v := lv)) (fun w hw => hw.osl (v := lv)) (by omega) (by decide) (pcells_get hp).1 ?_
          rw [hyk]
          refine s_neqL (ifd (fun hne => ?_) fun heq => ?_)
          · refine ppush_code h hp (by omega) fun u' W5 ou' h => ?_
            exact ⟨u', rfl, ou', _, .inl ⟨by omega, hstep.1 (.inr ⟨y, by omega, hy, hne⟩)⟩, h⟩
          · exact ⟨u, rfl, ou, out, .inl ⟨by omega, hstep.2 ⟨y, by omega, hy, Decidable.byContradiction heq⟩⟩, h⟩
      · obtain rfl : i = L0.length := by omega
        refine ⟨u, rfl, ou, out, .inr ⟨rfl, ?_⟩, h⟩
        rcases hend with rfl | ⟨p, w, hp, _⟩
        · exact hst.fin
        · rw [List.getElem?_eq_none (Nat.le_refl _)] at hp; cases hp
    · refine lpx (α := Value × Nat) (fun x => [x.1, nV .i64 x.2]) (fun x W' => Cel1 x.1 ∧ ∃ out, SJ L0 wm lo hi T out i x.2 ∧ St Wz G0 (PrL x.1 lv out L0) W') (fun x => wm.length - x.2) (u, kk) (fun _ => rfl) rfl ⟨ou, out, hst, h⟩ ?_
      clear h hnext hst ou
      rintro next ⟨u, kk⟩ W3 hnext ⟨ou, out, hst, h⟩
      simp only at hst h ⊢
      replace ou : Cel1 u := ou
      refine app2 ?_
      have hol := hst.len
      have hkl := hst.1
      refine jni (fun vs W' => vs = [.pointer (some ⟨b, 0, none⟩), strV lo, strV hi, lv, u, nV .i64 kk, nV .i64 i] ∧ (kk < wm.length ∧ ∀ w, wm[kk]? = some w → i = L0.length ∨ ∃ p, L0[i]? = some p ∧ (OKey.lt w.1 p.1 || w.1 == p.1) = true) ∧ St Wz G0 (PrL u lv out L0) W') ?_ ?_
      · rintro vs W4 _ ⟨rfl, ⟨hkl2, hcnd⟩, h⟩
        refine app7 ?_
        obtain ⟨y, hy, hy2, hyk⟩ := cost kk hkl2
        have hstep := hst.own hLs hs hin hy (hcnd y hy)
        refine a_nil (a_fld0 (w_ldR (hr.below h.low) rfl ?_))
        refine x_idx (hsl.below h.low) (by omega) fun bb oo hcell => ?_
        refine x_lds (cs := wrC y.2) rfl (fun j u hu => hcell j u (List.getElem?_eq_some_iff.1 hu).1 ((wcells_get hy2 (List.getElem?_eq_some_iff.1 hu).1).trans hu)) ?_
        refine h.allocS fun bo W5 h => ?_
        refine h.storeS (cs' := [strV y.2.1, strV y.2.2.1, .bool y.2.2.2]) fun W6 h => ?_
        refine jni (fun vs W' => ∃ u, vs = [.pointer (some ⟨b, 0, none⟩), strV lo, strV hi, lv, u, nV .i64 kk, nV .i64 i] ∧ Cel1 u ∧ St Wz G0 (PrL u lv (out ++ own1 lo hi y) L0) W') ?_ ?_
        · rintro vs W7 _ ⟨u, rfl, ou, h⟩
          refine app7 ?_
          refine a_add64 (by omega) (by omega) ⟨rfl, rfl, rfl, rfl, rfl, ?_⟩
          rw [show ((kk : Int) + 1) = ((kk + 1 : Nat) : Int) by push_cast; rfl]
          exact hnext (u, kk + 1) W7 (by show wm.length - (kk + 1) < wm.length - kk; omega) ⟨ou, _, hstep, h⟩
        have skip : own1 lo hi y = [] → ∃ u', ([.pointer (some ⟨b, 0, none⟩), strV lo, strV hi, lv, u, nV .i64 kk, nV .i64 i] : List Value) = [.pointer (some ⟨b, 0, none⟩), strV lo, strV hi, lv, u', nV .i64 kk, nV .i64 i] ∧ Cel1 u' ∧ St Wz G0 (PrL u' lv (out ++ own1 lo hi y) L0) W6 := fun he => by
          refine ⟨u, rfl, ou, ?_⟩
          rw [he, List.append_nil]; exact h.to
        have take : own1 lo hi y = [(y.1, y.2.2.1)] → ∀ {KV : Value → World → Prop}, (∀ u' W', Cel1 u' → St Wz G0 (PrL u' lv (out ++ own1 lo hi y) L0) W' → KV u' W') → 
            RunV Try.prog (Instr.buildSlice 41 1 #[(0, .agg #[strV y.1, strV y.2.2.1])]) W6 fun z w => RunV Try.prog (Builtin.append_ #[41, 41] 41 #[u, z]) w KV := fun he KV kv => by
          refine h.lit (vs := [.agg [strV y.1, strV y.2.2.1].toArray]) (cs := [strV y.1, strV y.2.2.1]) (fun u3 W8 o3 h => ?_) (by decide)
          refine St.app (v := u) h (h.osl (v := u3)) (by simp [Value.oneCell']) (by unfold maxLen; omega) (by omega) fun u4 W9 o4 h _ => ?_
          refine kv u4 W9 o4 ?_
          rw [he]
          show St Wz G0 [Ky u4 (Ow 50 2 (out ++ [(y.1, y.2.2.1)]).length (pcells (out ++ [(y.1, y.2.2.1)]))), Ky lv (Ow 50 2 L0.length (pcells L0))] W9
          rw [pcells_append, List.length_append, show ([(y.1, y.2.2.1)] : List (Txt × Txt)).length = 1 from rfl, show pcells [(y.1, y.2.2.1)] = [strV y.1, strV y.2.2.1] from rfl]
          exact h.to
        refine a_fld0 (h.load ?_)
        refine a_not (ifnb (fun hgf => ?_) fun hgt => ?_)
        · refine a_fld0 (h.load ?_)
          rw [hyk]
          refine x_geqL (ifnb (fun hgeq => ?_) fun hltq => ?_)
          · have hge : OKey.lt y.1 lo = false := hgeq
            refine w_eqlL (ifd (fun hhi => ?_) fun hhi => ?_)
            · have he : own1 lo hi y = [(y.1, y.2.2.1)] := by
                unfold own1 inR; rw [hgf, hge, hhi]; rfl
              refine a_fld0 (h.load (a_fld0 (h.load ?_)))
              rw [hyk]
              refine x_bld (cells := #[strV y.1, strV y.2.2.1]) rfl ?_
              exact take he fun u' W' ou' h => ⟨u', rfl, ou', h⟩
            · have hne : hi.isEmpty = false := by
                cases hi with
                | nil => exact absurd rfl hhi
                | cons _ _ => rfl
              refine a_fld0 (h.load ?_)
              rw [hyk]
              refine x_lssL (ifb (fun hl2 => ?_) fun hl2 => ?_)
              · have he : own1 lo hi y = [(y.1, y.2.2.1)] := by
                  unfold own1 inR; rw [hgf, hge, show OKey.lt y.1 hi = true from hl2]; simp
                refine a_fld0 (h.load (a_fld0 (h.load ?_)))
                rw [hyk]
                refine x_bld (cells := #[strV y.1, strV y.2.2.1]) rfl ?_
                exact take he fun u' W' ou' h => ⟨u', rfl, ou', h⟩
              · exact skip (by unfold own1 inR; rw [hne, show OKey.lt y.1 hi = false from hl2]; simp)
          · exact skip (by unfold own1 inR; rw [show OKey.lt y.1 lo = true from hltq]; simp)
        · exact skip (by unfold own1; rw [hgt]; rfl)
      · replace h := h.drew
        refine ⟨fun w => St Wz G0 (PrL u lv out L0) w, h, ?_⟩
        refine a_nil (a_fld0 (s_ld (t := 146) (cs := [x, .int .i64 t, sl]) (fun w hw => hr.below hw.low) rfl ?_))
        refine x_lenSs (hsl.below h.low) ?_
        refine a_lss (ifd (fun hlt => ?_) fun hge => ?_)
        · refine x_lenSs (h.osl (v := lv)) ?_
          refine s_eql (ifd (fun hie => ?_) fun hie => ?_)
          · exact ⟨rfl, ⟨by omega, fun w hw => .inl (by omega)⟩, h⟩
          · obtain ⟨y, hy, hy2, hyk⟩ := cost kk (by omega)
            obtain ⟨p, hp⟩ : ∃ p, L0[i]? = some p := ⟨_, List.getElem?_eq_getElem (by omega)⟩
            refine a_nil (a_fld0 (s_ld (t := 146) (cs := [x, .int .i64 t, sl]) (fun w hw => hr.below hw.low) rfl ?_))
            refine x_sfld (hsl.below h.low) (fun w hw => hsl.below hw.low) (by omega) (by decide) ((wcells_get hy2 (j := 0) (by decide)).trans rfl) ?_
            refine x_sfld (h.osl (v := lv)) (fun w hw => hw.osl (v := lv)) (by omega) (by decide) (pcells_get hp).1 ?_
            rw [hyk]
            refine x_leqL0 (ifb (fun hle => ?_) fun hle => ?_)
            · exact ⟨rfl, ⟨by omega, fun w hw => by rw [hy] at hw; cases hw; exact .inr ⟨p, hp, hle⟩⟩, h⟩
            · exact ⟨u, kk, rfl, ou, out, hst, .inr ⟨p, y, hp, hy, hle⟩, h⟩
        · exact ⟨u, kk, rfl, ou, out, hst, .inl (by omega), h⟩
  · obtain rfl : out = T := by
      rcases hst with ⟨h, _⟩ | ⟨_, h⟩
      · omega
      · exact h
    exact k u W2 ou h.to

/-- Prefix -/
theorem upre_spec {n : Nat} {p : Txt} {Wz : World} (hz : UxZ rs low t wm Wz v) (hb : Bd n (rwvs rs)) (hn : n ≤ 100000) (hg : Gd (rwvs rs)) (hl : wm.length ≤ 100000)
    (k : ∀ v' W', Cel1 v' → St Wz G0 [Ky v' (Ow 50 2 (tpre (rwvs rs) t wm p).length (pcells (tpre (rwvs rs) t wm p)))] W' → RR v' W') :
    CallF Try.prog 63 #[v, strV p] Wz RR := by
  refine sh63_calls ?_
  unfold sh63
  have hTl := tscan_len (rwvs rs) t wm p []
  have hB1 := hb.1
  refine uscan_spec (lo := p) (hi := []) hz hb hn hg hl fun lv W1 ol h => ?_
  have hpd : tpre (rwvs rs) t wm p = (tscan (rwvs rs) t wm p []).takeWhile fun x => isPre p x.1 := rfl
  rw [hpd] at k
  generalize tscan (rwvs rs) t wm p [] = L0 at *
  refine jni (fun vs W' => ∃ u, vs = [u] ∧ Cel1 u ∧ St Wz G0 (PrL u lv (L0.takeWhile fun x => isPre p x.1) L0) W') (by rintro vs W' _ ⟨u, rfl, ou, h⟩; exact app1 (k u W' ou h.to)) ?_
  have h0 : St Wz G0 (PrL (.slice none 0 0) lv (L0.take 0) L0) W1 := by
    have h' : St Wz G0 (Ky (.slice none 0 0 : Value) (Ow 50 2 (L0.take 0).length (pcells (L0.take 0))) :: _) W1 := h.nilOw
    exact h'
  clear h
  refine lpx (α := Value × Nat) (fun x => [x.1, nV .i64 x.2]) (fun x W' => x.2 ≤ L0.length ∧ (∀ j y, j < x.2 → L0[j]? = some y → isPre p y.1 = true) ∧ Cel1 x.1 ∧ St Wz G0 (PrL x.1 lv (L0.take x.2) L0) W') (fun x => L0.length - x.2) (.slice none 0 0, 0) (fun _ => rfl) rfl ⟨Nat.zero_le _, fun j y h => absurd h (Nat.not_lt_zero _), ⟨rfl⟩, h0⟩ ?_
  clear h0
  rintro next ⟨u, i⟩ W2 hnext ⟨hi, hall, ou, h⟩
  simp only at hi hall h ⊢
  replace ou : Cel1 u := ou
  have tw := fun i => takeWhile_stop (c := fun x : Txt × Txt => isPre p x.1) (l := L0) (i := i)
  refine app2 ?_
  have hsl := h.osl (v := lv)
  refine x_lenS hsl ?_
  refine a_lss (ifd (fun hc => ?_) fun hc => ?_)
  · obtain ⟨y, hy⟩ : ∃ y, L0[i]? = some y := ⟨_, List.getElem?_eq_getElem (by omega)⟩
    have stop : isPre p y.1 = false → ∃ u', ([u] : List Value) = [u'] ∧ Cel1 u' ∧ St Wz G0 (PrL u' lv (L0.takeWhile fun x => isPre p x.1) L0) W2 := fun hp => by
      refine ⟨u, rfl, ou, ?_⟩
      rw [tw i hi hall fun z hz => by rw [hy] at hz; cases hz; exact hp]; exact h
    refine x_fld hsl (by omega) (by decide) (pcells_get hy).1 ?_
    refine x_len (x_len (a_lss (ifd (fun hlt => ?_) fun hge => ?_)))
    · refine stop ?_
      cases hx : isPre p y.1 with
      | false => rfl
      | true =>
        have := congrArg List.length (of_decide_eq_true hx)
        rw [List.length_take] at this
        omega
    · refine x_fld hsl (by omega) (by decide) (pcells_get hy).1 ?_
      refine x_len (x_cutH (by omega) (w_neqL (ifd (fun hne => ?_) fun heq => ?_)))
      · exact stop (decide_eq_false hne)
      · have hp : isPre p y.1 = true := decide_eq_true (Decidable.byContradiction heq)
        refine ppush_code h hy (by rw [List.length_take]; omega) fun u' W5 ou' h => ?_
        have e : L0.take i ++ [y] = L0.take (i + 1) := by rw [List.take_add_one, hy]; rfl
        rw [e] at h
        refine a_add64 (by omega) (by omega) ⟨trivial, trivial, ?_⟩
        rw [show ((i : Int) + 1) = ((i + 1 : Nat) : Int) by push_cast; rfl]
        refine hnext (u', i + 1) W5 (by show L0.length - (i + 1) < L0.length - i; omega) ⟨by show i + 1 ≤ _; omega, fun j z hj hz => ?_, ou', h⟩
        by_cases hji : j < i
        · exact hall j z hji hz
        · have hj' : j < i + 1 := hj
          obtain rfl : j = i := by omega
          rw [hy] at hz; cases hz; exact hp
  · refine ⟨u, rfl, ou, ?_⟩
    rw [tw i hi hall fun z hz => by rw [List.getElem?_eq_none (by omega)] at hz; cases hz]; exact h
end
end Go.Proofs.Ytffnabbchghokaa

/-
  TRANSACTIONS: any calls, the document's beside: TxnPlays: the walk.
-/
namespace Go.Proofs.Ytffnabbchghokaa
open Go Go.Ez Go.RowKit
set_option linter.unusedSimpArgs false
set_option linter.unusedVariables false
section
variable {w0 W W' : World} {l R : List As} {ra rb rows : VRows Txt} {la lb low t : Int} {s v x u : Value} {RR : Value → World → Prop} {wm : List (Txt × Wr)} {key z : Txt} {L L' : List As}
theorem w_max3 {K : Value → Prop} {ts : Array TypeId} {t : TypeId} {k k' k'' : IntKind} {a b c : Int} (h : K (.int k (max (max a b) c))) : RunW Try.prog (Builtin.max_ ts t #[.int k a, .int k' b, .int k'' c]) W K :=
  .of (v := .int k (max (max a b) c)) (by
    rw [run_max_int3]
    congr 2
    omega) h
theorem PlI.tput [i : Has L v (Tx s t wm) L'] (h : PlI w0 s ra la x rb lb L W) (hl : wm.length ≤ 1000) (k : ∀ W', Srt wm → PlI w0 s ra la x rb lb (Ky v (Tx s t (wrR wm key z false).2) :: L') W' → RR (.int .i64 (wrR wm key z false).1) W') :
    CallF Try.prog 49 #[v, strV key, strV z] W RR := by
  obtain ⟨kp, rs, h1, h2, h⟩ := h
  exact h.tput (v := v) hl fun W' hs h => k W' hs ⟨kp, rs, h1, h2, h.to⟩
theorem PlI.tdel [i : Has L v (Tx s t wm) L'] (h : PlI w0 s ra la x rb lb L W) (hl : wm.length ≤ 1000) (k : ∀ W', Srt wm → PlI w0 s ra la x rb lb (Ky v (Tx s t (wrR wm key [] true).2) :: L') W' → RR (.int .i64 (wrR wm key [] true).1) W') :
    CallF Try.prog 51 #[v, strV key] W RR := by
  obtain ⟨kp, rs, h1, h2, h⟩ := h
  exact h.tdel (v := v) hl fun W' hs h => k W' hs ⟨kp, rs, h1, h2, h.to⟩
theorem PlI.uput [i : Has L u (Ux x t wm) L'] (h : PlI w0 s ra la x rb lb L W) (hl : wm.length ≤ 1000) (k : ∀ W', PlI w0 s ra la x rb lb (Ky u (Ux x t (wrR wm key z false).2) :: L') W' → RR (.int .i64 (wrR wm key z false).1) W') :
    CallF Try.prog 60 #[u, strV key, strV z] W RR := by
  obtain ⟨kp, rs, h1, h2, kp2, rs2, h3, h4, h⟩ := h
  exact uput_spec (v := u) h hl fun W' h => k W' ⟨kp, rs, h1, h2, kp2, rs2, h3, h4, h.to⟩
theorem PlI.udel [i : Has L u (Ux x t wm) L'] (h : PlI w0 s ra la x rb lb L W) (hl : wm.length ≤ 1000) (k : ∀ W', PlI w0 s ra la x rb lb (Ky u (Ux x t (wrR wm key [] true).2) :: L') W' → RR (.int .i64 (wrR wm key [] true).1) W') :
    CallF Try.prog 61 #[u, strV key] W RR := by
  obtain ⟨kp, rs, h1, h2, kp2, rs2, h3, h4, h⟩ := h
  exact udel_spec (v := u) h hl fun W' h => k W' ⟨kp, rs, h1, h2, kp2, rs2, h3, h4, h.to⟩
theorem PlI.tz [i : Has L v (Tx s t wm) L'] (h : PlI w0 s ra la x rb lb L W) : ∃ rs, rwvs rs = ra ∧ TxZ rs la t wm W v := by
  obtain ⟨kp, rs, h1, h2, h⟩ := h
  exact h.tz (v := v)
theorem PlI.uz [i : Has L u (Ux x t wm) L'] (h : PlI w0 s ra la x rb lb L W) : ∃ rs, rwvs rs = rb ∧ UxZ rs lb t wm W u := by
  obtain ⟨kp, rs, h1, h2, kp2, rs2, h3, h4, h⟩ := h
  have hz := freezeX (v := x) h h1
  obtain ⟨b, sl, hv, hk, hs, o, h5⟩ := openU (v := u) h
  exact ⟨rs, h2, b, x, sl, hv, hk, hs, o, h5.rc, h5.osl (v := sl), hz⟩
theorem PlI.xx (h : PlI w0 s ra la x rb lb L W) : ∃ b, x = .pointer (some ⟨b, 0, none⟩) := by
  obtain ⟨rs, _, b, sl, hv, _⟩ := h.xz
  exact ⟨b, hv⟩
/-- what is held on the way -/
def BothI (W1 : World) (s x tv uv : Value) (t : Int) (n : Nat) (W : World) : Prop := ∃ rows wm, Bd n rows ∧ Gd rows ∧ wm.length ≤ 1000 ∧ PlI W1 s rows 0 x rows 0 [Ky tv (Tx s t wm), Ky uv (Ux x t wm)] W

set_option maxHeartbeats 4000000 in
/-- hbllaw12.TxnPlays -/
theorem tplays_spec {a : List VOp} {ops : List TOp} {va vo : Value} {na no : Nat} {t : Int} {Wz : World} (ha : Sl Wz 5 va na (vopsC a)) (hna : na = a.length) (ho : Sl Wz 4 vo no (topsC ops)) (hno : no = ops.length) (k0 : ∀ W', Below Wz.heap.size Wz W' → RR (.bool true) W') :
    CallF Try.prog 12 #[va, .int .i64 t, vo] Wz RR := by
  refine sh12_calls ?_
  unfold sh12
  subst hno
  refine tfirst_spec fun W1 hb1 => ?_
  have k : ∀ W', Below W1.heap.size W1 W' → RR (.bool true) W' := fun W' hb => k0 W' (Go.Ez.Below.next hb1 hb)
  replace ho := ho.below hb1
  have ho1 := ho
  clear k0
  refine a_not (iff' ?_)
  refine stores_spec (ha.below hb1) hna fun bs bx rows W2 hB hG h => ?_
  refine a_ext0 (a_ext1 ?_)
  refine x_nilP (iff' ?_)
  refine tfew_spec (ho.below h.blw) rfl fun fo W3 hb3 hfo => ?_
  replace h := h.ext hb3
  refine a_not (ifnb (fun hf => ?_) fun hf => ?_)
  · refine x_nilPn (ift ?_)
    exact tfirst_spec fun W4 hb4 => k W4 (Go.Ez.Below.next h.blw hb4)
  replace hfo := hfo hf
  obtain ⟨kpx, rsx, hx1, hx2, h⟩ := h
  refine VsI.begin (t := t) rfl h fun bt W5 h => ?_
  obtain ⟨kp2, rs2, h3, h4, h⟩ := h
  refine ubegin_spec (t := t) h fun bu W6 h => ?_
  refine x_nilP (iff' ?_)
  generalize htv : (.pointer (some ⟨bt, 0, none⟩) : Value) = tv at *
  generalize huv : (.pointer (some ⟨bu, 0, none⟩) : Value) = uv at *
  generalize hs : (.pointer (some ⟨bs, 0, none⟩) : Value) = s at *
  generalize hx : (.pointer (some ⟨bx, 0, none⟩) : Value) = x at *
  replace h : PlI W1 s rows 0 x rows 0 [Ky tv (Tx s t []), Ky uv (Ux x t [])] W6 := ⟨kpx, rsx, hx1, hx2, kp2, rs2, h3, h4, h.to⟩
  obtain ⟨rz, hrz, hz⟩ := h.tz (v := tv)
  refine tat_spec hz ?_
  clear hz hrz rz
  refine w_neq (ifd_neg (fun h => h rfl) ?_)
  have h0 : BothI W1 s x tv uv t (300 + 0) W6 := ⟨rows, [], hB, hG, by decide, h⟩
  clear h
  refine lpx (α := Nat) (fun i => [nV .i64 i]) (fun i W' => i ≤ ops.length ∧ BothI W1 s x tv uv t (300 + i) W') (fun i => ops.length - i) 0 (fun _ => rfl) rfl ⟨Nat.zero_le _, h0⟩ ?_
  clear h0 hB hG hx1 hx2 h3 h4
  rintro next i W7 hnext ⟨hi, rows, wm, hB, hG, hl, h⟩
  refine app1 ?_
  have ho := ho1.below h.blw
  have hB1 := hB.1
  have tk : ∀ {β : Type} {m : List β}, m.length ≤ 100000 → m.take (1048576 : Int).toNat = m := fun hm => List.take_of_length_le (by show _ ≤ 1048576; omega)
  refine x_lenS ho ?_
  refine a_lss (ifd (fun hc => ?_) fun hc => ?_)
  · obtain ⟨o, hoo⟩ : ∃ d, ops[i]? = some d := ⟨_, List.getElem?_eq_getElem (by omega)⟩
    refine x_idx ho (by omega) fun bb oo hcell => ?_
    refine x_lds (cs := TOp.cells o) rfl (fun j u hu => hcell j u (List.getElem?_eq_some_iff.1 hu).1 ((tops_get hoo (List.getElem?_eq_some_iff.1 hu).1).trans hu)) ?_
    refine (St.start W7).allocS fun bo W h' => ?_
    refine h'.storeS (cs' := [.int .i64 o.kind, strV o.key, strV o.v, strV o.hi]) fun W h' => ?_
    replace h := h.frame h'
    clear h' hcell
    refine a_fld0 (w_ldR (t := 75) (cs := [.int .i64 o.kind, strV o.key, strV o.v, strV o.hi]) h.rc rfl ?_)
    have fin : ∀ {W' : World} {rows : VRows Txt} {wm : List (Txt × Wr)}, Bd (300 + (i + 1)) rows → Gd rows → wm.length ≤ 1000 → PlI W1 s rows 0 x rows 0 [Ky tv (Tx s t wm), Ky uv (Ux x t wm)] W' → BothI W1 s x tv uv t (300 + (i + 1)) W' := fun h1 h2 h3 h4 => ⟨_, _, h1, h2, h3, h4⟩
    refine jni (fun vs W' => vs = [.int .i64 t, vo, s, x, tv, uv, nV .i64 i, .bool true] ∧ BothI W1 s x tv uv t (300 + (i + 1)) W') ?_ ?_
    · rintro vs W8 _ ⟨rfl, h⟩
      refine app8 ?_
      refine jni (fun vs W' => vs = [.int .i64 t, vo, s, x, tv, uv, nV .i64 i] ∧ BothI W1 s x tv uv t (300 + (i + 1)) W') ?_ ?_
      · rintro vs W9 _ ⟨rfl, h⟩
        refine app7 ?_
        refine a_add64 (by omega) (by omega) ⟨rfl, rfl, rfl, rfl, rfl, rfl, ?_⟩
        rw [show ((i : Int) + 1) = ((i + 1 : Nat) : Int) by push_cast; rfl]
        exact hnext (i + 1) W9 (by omega) ⟨by omega, h⟩
      refine a_not (iff' ?_)
      refine a_lss (ifd (fun _ => ?_) fun _ => ⟨rfl, h⟩)
      obtain ⟨rows, wm, hB, hG, hl, h⟩ := h
      obtain ⟨rz, hrz, hz⟩ := h.tz (v := tv)
      refine tclash_spec (n := 300 + (i + 1)) hz (by rw [hrz]; exact hB) (by omega) (by omega) fun W9 hb9 => ?_
      replace h := h.ext hb9
      obtain ⟨ry, hry, hz⟩ := h.uz (u := uv)
      refine uclash_spec (n := 300 + (i + 1)) hz (by rw [hry]; exact hB) (by omega) (by omega) fun W10 hb10 => ?_
      replace h := h.ext hb10
      rw [hrz, hry]
      refine x_neb ?_
      rw [show (!(clashR rows t wm == clashR rows t wm)) = false by simp]
      exact iff' ⟨rfl, rows, wm, hB, hG, hl, h⟩
    refine w_eql (ifd (fun _ => ?_) fun _ => ?_)
    · replace h := h.ext ((Below.refl _ _).drew)
      refine ⟨fun w => Rec w bo 75 [.int .i64 o.kind, strV o.key, strV o.v, strV o.hi], h.rc, ?_⟩
      refine a_fld0 (s_ld (t := 75) (cs := [.int .i64 o.kind, strV o.key, strV o.v, strV o.hi]) (fun w hw => hw) rfl ?_)
      refine a_fld0 (s_ld (t := 75) (cs := [.int .i64 o.kind, strV o.key, strV o.v, strV o.hi]) (fun w hw => hw) rfl ?_)
      refine a_fld0 (s_ld (t := 75) (cs := [.int .i64 o.kind, strV o.key, strV o.v, strV o.hi]) (fun w hw => hw) rfl ?_)
      refine a_fld0 (s_ld (t := 75) (cs := [.int .i64 o.kind, strV o.key, strV o.v, strV o.hi]) (fun w hw => hw) rfl ?_)
      refine h.tput (v := tv) (key := o.key) (z := o.v) hl fun W8 hsw h => ⟨h.rc, ?_⟩
      refine h.uput (u := uv) (key := o.key) (z := o.v) hl fun W9 h => ⟨h.rc, ?_⟩
      refine s_eql ?_
      rw [decide_eq_true rfl]
      exact ⟨rfl, fin (hB.mono (by omega)) hG (wrR_len hsw hl o.key o.v false) h.to⟩
    refine jni (fun vs W' => vs = [.int .i64 t, vo, s, x, tv, uv, nV .i64 i, .bool true] ∧ BothI W1 s x tv uv t (300 + (i + 1)) W') (by rintro vs W' _ ⟨rfl, hrest⟩; exact app8 ⟨rfl, hrest⟩) ?_
    refine w_eql (ifd (fun _ => ?_) fun _ => ?_)
    · replace h := h.ext ((Below.refl _ _).drew)
      refine ⟨fun w => Rec w bo 75 [.int .i64 o.kind, strV o.key, strV o.v, strV o.hi], h.rc, ?_⟩
      refine a_fld0 (s_ld (t := 75) (cs := [.int .i64 o.kind, strV o.key, strV o.v, strV o.hi]) (fun w hw => hw) rfl ?_)
      refine a_fld0 (s_ld (t := 75) (cs := [.int .i64 o.kind, strV o.key, strV o.v, strV o.hi]) (fun w hw => hw) rfl ?_)
      refine h.tdel (v := tv) (key := o.key) hl fun W8 hsw h => ⟨h.rc, ?_⟩
      refine h.udel (u := uv) (key := o.key) hl fun W9 h => ⟨h.rc, ?_⟩
      refine s_eql ?_
      rw [decide_eq_true rfl]
      exact ⟨rfl, fin (hB.mono (by omega)) hG (wrR_len hsw hl o.key [] true) h.to⟩
    refine jni (fun vs W' => vs = [.int .i64 t, vo, s, x, tv, uv, nV .i64 i, .bool true] ∧ BothI W1 s x tv uv t (300 + (i + 1)) W') (by rintro vs W' _ ⟨rfl, hrest⟩; exact app8 ⟨rfl, hrest⟩) ?_
    refine w_eql (ifd (fun _ => ?_) fun _ => ?_)
    · refine a_fld0 (w_ldR (t := 75) (cs := [.int .i64 o.kind, strV o.key, strV o.v, strV o.hi]) h.rc rfl ?_)
      obtain ⟨rz, hrz, hz⟩ := h.tz (v := tv)
      refine tget_spec (n := 300 + i) (key := o.key) hz (by rw [hrz]; exact hB) (by omega) (by omega) fun W9 hb9 => ?_
      replace h := h.ext hb9
      refine a_ext0 (a_ext1 ?_)
      refine a_fld0 (w_ldR (t := 75) (cs := [.int .i64 o.kind, strV o.key, strV o.v, strV o.hi]) h.rc rfl ?_)
      obtain ⟨ry, hry, hz⟩ := h.uz (u := uv)
      refine uget_spec (n := 300 + i) (key := o.key) hz (by rw [hry]; exact hB) (by omega) (by rw [hry]; exact hG) (by omega) fun W10 hb10 => ?_
      replace h := h.ext hb10
      refine a_ext0 (a_ext1 ?_)
      rw [hrz, hry]
      refine jni (fun vs W' => vs = [.int .i64 t, vo, s, x, tv, uv, nV .i64 i, .bool true] ∧ BothI W1 s x tv uv t (300 + (i + 1)) W') (by rintro vs W' _ ⟨rfl, hrest⟩; exact app8 ⟨rfl, hrest⟩) ?_
      refine w_eqlL (ifd_pos rfl ?_)
      refine x_eqb ?_
      rw [show ∀ b : Bool, (b == b) = true from fun b => by cases b <;> rfl]
      exact ⟨rfl, fin (hB.mono (by omega)) hG hl h.to⟩
    refine jni (fun vs W' => vs = [.int .i64 t, vo, s, x, tv, uv, nV .i64 i, .bool true] ∧ BothI W1 s x tv uv t (300 + (i + 1)) W') (by rintro vs W' _ ⟨rfl, hrest⟩; exact app8 ⟨rfl, hrest⟩) ?_
    refine w_eql (ifd (fun _ => ?_) fun _ => ?_)
    · replace h := h.ext ((Below.refl _ _).drew)
      refine ⟨fun w => Rec w bo 75 [.int .i64 o.kind, strV o.key, strV o.v, strV o.hi], h.rc, ?_⟩
      refine a_fld0 (s_ld (t := 75) (cs := [.int .i64 o.kind, strV o.key, strV o.v, strV o.hi]) (fun w hw => hw) rfl ?_)
      refine a_fld0 (s_ld (t := 75) (cs := [.int .i64 o.kind, strV o.key, strV o.v, strV o.hi]) (fun w hw => hw) rfl ?_)
      obtain ⟨rz, hrz, hz⟩ := h.tz (v := tv)
      refine tpre_specZ (n := 300 + i) (p := o.key) hz (by rw [hrz]; exact hB) (by omega) (by omega) (St.start _) fun f A W8 hI of h1 => ⟨(h.ext h1.low).rc, ?_⟩
      have hsl := tpre_len (rwvs rz) t wm o.key
      rw [hrz] at hI hsl
      refine vpairs_spec hI h1 (by omega) fun p1 W9 _ h2 => ?_
      rw [tk (by omega)] at h2
      replace h := h.frame (h2.to (l' := [Ky p1 (Ow 50 2 (tpre rows t wm o.key).length (pcells (tpre rows t wm o.key)))]))
      refine ⟨h.rc, ?_⟩
      obtain ⟨ry, hry, hz⟩ := h.uz (u := uv)
      refine upre_spec (n := 300 + i) (p := o.key) hz (by rw [hry]; exact hB) (by omega) (by rw [hry]; exact hG) (by omega) fun p2 W10 _ h' => ?_
      rw [hry] at h'
      replace h := h.frame h'
      refine pairsEq_spec (h.sl (v' := p1)) (h.sl (v' := p2)) rfl rfl (by omega) fun W11 hb => ?_
      replace h := h.ext hb
      rw [decide_eq_true rfl]
      exact ⟨rfl, fin (hB.mono (by omega)) hG hl h.to⟩
    refine jni (fun vs W' => ∃ c : Bool, vs = [.int .i64 t, vo, s, x, tv, uv, nV .i64 i, .pointer (some ⟨bo, 0, none⟩), .bool c] ∧ PlI W1 s rows 0 x rows 0 [Ky bo (Ob (.cells [.int .i64 o.kind, strV o.key, strV o.v, strV o.hi].toArray 75 (0, 0))), Ky tv (Tx s t wm), Ky uv (Ux x t wm)] W') ?_ ?_
    · rintro vs W8 _ ⟨c, rfl, h⟩
      refine app9 ?_
      refine jni (fun vs W' => vs = [.int .i64 t, vo, s, x, tv, uv, nV .i64 i, .bool true] ∧ BothI W1 s x tv uv t (300 + (i + 1)) W') (by rintro vs W' _ ⟨rfl, hrest⟩; exact app8 ⟨rfl, hrest⟩) ?_
      refine ifb (fun _ => ?_) fun _ => ?_
      · refine a_fld0 (w_ldR (t := 75) (cs := [.int .i64 o.kind, strV o.key, strV o.v, strV o.hi]) h.rc rfl ?_)
        refine h.prog fun L' hV back => hV.last_spec (key := o.key) hB (by omega) fun W9 hV => ?_
        replace h := back _ _ _ hV
        clear hV back
        refine w_max3 (w_min ?_)
        refine a_add64 (by omega) (by omega) ?_
        refine jni (fun vs W' => vs = [.int .i64 t, vo, s, x, tv, uv, nV .i64 i, .bool true] ∧ BothI W1 s x tv uv t (300 + (i + 1)) W') (by rintro vs W' _ ⟨rfl, hrest⟩; exact app8 ⟨rfl, hrest⟩) ?_
        refine a_fld0 (w_ldR (t := 75) (cs := [.int .i64 o.kind, strV o.key, strV o.v, strV o.hi]) h.rc rfl ?_)
        refine w_eql (ifd (fun _ => ?_) fun _ => ?_)
        · replace h := h.ext ((Below.refl _ _).drew)
          refine ⟨fun w => Rec w bo 75 [.int .i64 o.kind, strV o.key, strV o.v, strV o.hi], h.rc, ?_⟩
          refine a_fld0 (s_ld (t := 75) (cs := [.int .i64 o.kind, strV o.key, strV o.v, strV o.hi]) (fun w hw => hw) rfl ?_)
          refine a_fld0 (s_ld (t := 75) (cs := [.int .i64 o.kind, strV o.key, strV o.v, strV o.hi]) (fun w hw => hw) rfl ?_)
          refine a_fld0 (s_ld (t := 75) (cs := [.int .i64 o.kind, strV o.key, strV o.v, strV o.hi]) (fun w hw => hw) rfl ?_)
          refine a_fld0 (s_ld (t := 75) (cs := [.int .i64 o.kind, strV o.key, strV o.v, strV o.hi]) (fun w hw => hw) rfl ?_)
          refine h.prog fun L' hV back => hV.add_spec (key := o.key) (val := o.v) hB (by omega) fun W10 hV => ?_
          replace h := back _ _ _ hV
          refine ⟨h.rc, ?_⟩
          refine h.xput (key := o.key) (val := o.v) hB (by omega) fun W11 h => ⟨h.rc, ?_⟩
          refine s_eql ?_
          rw [decide_eq_true rfl]
          exact ⟨rfl, fin (hB.add _ _ _) (hG.add (fun h => by cases h)) hl h.to⟩
        · replace h := h.ext ((Below.refl _ _).drew)
          refine ⟨fun w => Rec w bo 75 [.int .i64 o.kind, strV o.key, strV o.v, strV o.hi], h.rc, ?_⟩
          refine a_fld0 (s_ld (t := 75) (cs := [.int .i64 o.kind, strV o.key, strV o.v, strV o.hi]) (fun w hw => hw) rfl ?_)
          refine a_fld0 (s_ld (t := 75) (cs := [.int .i64 o.kind, strV o.key, strV o.v, strV o.hi]) (fun w hw => hw) rfl ?_)
          refine h.prog fun L' hV back => hV.kill_spec (key := o.key) hB (by omega) fun W10 hV => ?_
          replace h := back _ _ _ hV
          refine ⟨h.rc, ?_⟩
          refine h.xkill (key := o.key) hB (by omega) fun W11 h => ⟨h.rc, ?_⟩
          refine s_eql ?_
          rw [decide_eq_true rfl]
          exact ⟨rfl, fin (hB.add _ _ _) (hG.add (fun _ => rfl)) hl h.to⟩
      · replace h := h.ext ((Below.refl _ _).drew)
        refine ⟨fun w => Rec w bo 75 [.int .i64 o.kind, strV o.key, strV o.v, strV o.hi], h.rc, ?_⟩
        refine a_fld0 (s_ld (t := 75) (cs := [.int .i64 o.kind, strV o.key, strV o.v, strV o.hi]) (fun w hw => hw) rfl ?_)
        refine a_fld0 (s_ld (t := 75) (cs := [.int .i64 o.kind, strV o.key, strV o.v, strV o.hi]) (fun w hw => hw) rfl ?_)
        refine a_fld0 (s_ld (t := 75) (cs := [.int .i64 o.kind, strV o.key, strV o.v, strV o.hi]) (fun w hw => hw) rfl ?_)
        refine a_fld0 (s_ld (t := 75) (cs := [.int .i64 o.kind, strV o.key, strV o.v, strV o.hi]) (fun w hw => hw) rfl ?_)
        obtain ⟨rz, hrz, hz⟩ := h.tz (v := tv)
        refine tscan_specZ (n := 300 + i) (lo := o.key) (hi := o.hi) hz (by rw [hrz]; exact hB) (by omega) (by omega) (St.start _) fun f A W8 hI of h1 => ⟨(h.ext h1.low).rc, ?_⟩
        have hsl := tscan_len (rwvs rz) t wm o.key o.hi
        rw [hrz] at hI hsl
        refine vpairs_spec hI h1 (by omega) fun p1 W9 _ h2 => ?_
        rw [tk (by omega)] at h2
        replace h := h.frame (h2.to (l' := [Ky p1 (Ow 50 2 (tscan rows t wm o.key o.hi).length (pcells (tscan rows t wm o.key o.hi)))]))
        refine ⟨h.rc, ?_⟩
        obtain ⟨ry, hry, hz⟩ := h.uz (u := uv)
        refine uscan_spec (n := 300 + i) (lo := o.key) (hi := o.hi) hz (by rw [hry]; exact hB) (by omega) (by rw [hry]; exact hG) (by omega) fun p2 W10 _ h' => ?_
        rw [hry] at h'
        replace h := h.frame h'
        refine pairsEq_spec (h.sl (v' := p1)) (h.sl (v' := p2)) rfl rfl (by omega) fun W11 hb => ?_
        replace h := h.ext hb
        rw [decide_eq_true rfl]
        exact ⟨rfl, fin (hB.mono (by omega)) hG hl h.to⟩
    · refine w_eql (ifd (fun _ => ⟨_, rfl, h⟩) fun _ => ?_)
      exact w_eql ⟨_, rfl, h⟩
  · have hml : (wm.map Prod.snd).length = wm.length := by simp
    have lists : ∀ {W L}, PlI W1 s rows 0 x rows 0 (Ky tv (Tx s t wm) :: Ky uv (Ux x t wm) :: L) W → ∀ {KV : Value → Value → Value → World → Prop}, (∀ a b W', Cel1 a → PlI W1 s rows 0 x rows 0 (Ky a (Ow 86 3 wm.length (wcells (wm.map Prod.snd))) :: Ky tv (Tx s t wm) :: Ky uv (Ux x t wm) :: L) W' → KV a b (.bool true) W') →
        CallF Try.prog 56 #[tv] W fun a w => CallF Try.prog 66 #[uv] w fun b w => CallF Try.prog 55 #[a, b] w fun c w => KV a b c w := fun {W L} h {KV} kv => by
      obtain ⟨rz, hrz, hz⟩ := h.tz (v := tv)
      refine twlist_spec hz (by omega) fun p1 W8 o1 h' => ?_
      replace h := h.frame h'
      obtain ⟨ry, hry, hz⟩ := h.uz (u := uv)
      refine uwlist_spec hz (by omega) fun p2 W9 o2 h' => ?_
      replace h := h.frame h'
      refine wrEq_spec (h.sl (v' := p1)) (h.sl (v' := p2)) hml.symm hml.symm rfl (by omega) fun W10 hb => ?_
      replace h := h.ext hb
      exact kv p1 p2 W10 o1 h.to
    refine lists h fun w1 w2 W8 o1 h => ?_
    have h0 : ∃ cs, PlI W1 s rows 0 x rows 0 [Ky w1 (Ow 86 3 wm.length cs), Ky tv (Tx s t wm), Ky uv (Ux x t wm)] W8 := ⟨_, h⟩
    clear h
    refine lpx (α := Nat) (fun i => [nV .i64 i]) (fun i W' => i ≤ wm.length ∧ ∃ cs, PlI W1 s rows 0 x rows 0 [Ky w1 (Ow 86 3 wm.length cs), Ky tv (Tx s t wm), Ky uv (Ux x t wm)] W') (fun i => wm.length - i) 0 (fun _ => rfl) rfl ⟨Nat.zero_le _, h0⟩ ?_
    clear h0 hnext
    rintro next j W9 hnext ⟨hj, cs, h⟩
    refine app1 ?_
    refine x_lenS (h.sl (v' := w1)) ?_
    refine a_lss (ifd (fun hc => ?_) fun hc => ?_)
    · obtain ⟨kp, rs, h1, h2, kp2, rs2, h3, h4, h⟩ := h
      refine h.setI (v := w1) (j := j) (by omega) fun g cap hu _ => ?_
      subst hu
      refine a_fld ?_
      refine h.storeI (n := wm.length) (cap := cap) (sz := 3) (q := j * 3) (by omega) fun W10 h => ?_
      refine a_add64 (by omega) (by omega) ⟨rfl, rfl, rfl, rfl, ?_⟩
      rw [show ((j : Int) + 1) = ((j + 1 : Nat) : Int) by push_cast; rfl]
      exact hnext (j + 1) W10 (by omega) ⟨by omega, cs.set (j * 3) (.string ⟨#[115, 112, 111, 105, 108, 116]⟩), kp, rs, h1, h2, kp2, rs2, h3, h4, h.to⟩
    · replace h : PlI W1 s rows 0 x rows 0 (Ky tv (Tx s t wm) :: Ky uv (Ux x t wm) :: []) W9 := h.to
      refine tfirst_spec fun W10 hb10 => ift (ift ?_)
      replace h := h.ext hb10
      refine lists h fun w3 w4 W11 o3 h => ift ?_
      obtain ⟨rz, hrz, hz⟩ := h.tz (v := tv)
      refine tclash_spec (n := 300 + i) hz (by rw [hrz]; exact hB) (by omega) (by omega) fun W12 hb12 => ?_
      replace h := h.ext hb12
      obtain ⟨ry, hry, hz⟩ := h.uz (u := uv)
      refine uclash_spec (n := 300 + i) hz (by rw [hry]; exact hB) (by omega) (by omega) fun W13 hb13 => ?_
      replace h := h.ext hb13
      rw [hrz, hry]
      refine x_eqb ?_
      rw [show ∀ b : Bool, (b == b) = true from fun b => by cases b <;> rfl]
      refine ift ?_
      obtain ⟨rz, hrz, hz⟩ := h.tz (v := tv)
      have hsl := tscan_len rows t wm [] []
      refine tscanTake_spec (n := 300 + i) (lo := []) (hi := []) (q := 1048576) hz (by rw [hrz]; exact hB) (by omega) (by omega) fun p1 W14 _ h' => ?_
      rw [hrz, tk (by omega)] at h'
      replace h := h.frame h'
      obtain ⟨ry, hry, hz⟩ := h.uz (u := uv)
      refine uscan_spec (n := 300 + i) (lo := []) (hi := []) hz (by rw [hry]; exact hB) (by omega) (by rw [hry]; exact hG) (by omega) fun p2 W15 _ h' => ?_
      rw [hry] at h'
      replace h := h.frame h'
      refine pairsEq_spec (h.sl (v' := p1)) (h.sl (v' := p2)) rfl rfl (by omega) fun W16 hb => ?_
      rw [decide_eq_true rfl]
      exact k W16 (Go.Ez.Below.next h.blw hb)
end
end Go.Proofs.Ytffnabbchghokaa
