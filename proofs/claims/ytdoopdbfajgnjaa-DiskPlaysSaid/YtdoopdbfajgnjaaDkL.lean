/-
  FILES THAT FALL, the document's: files in lists that rise; found, summed, put, taken away; a change done.
-/
import Derived.Test.YtdoopdbfajgnjaaDkG
import Derived.Test.YtdoopdbfajgnjaaShD
namespace Go.Ez
open Go Go.Proofs Go.RowKit
set_option linter.unusedSimpArgs false
set_option linter.unusedVariables false
abbrev Fl := (Txt × Txt) × Sv
def fileC (p : Fl) : List Value := [strV p.1.1, svV p.2]
def FK (zs : Zs) (fs : List Fl) : Prop := ∀ p ∈ fs, PlIn zs (svV p.2) p.1.2
theorem FK.sub {zs zs' : Zs} {fs : List Fl} (h : FK zs fs) (hz : ∀ z ∈ zs, z ∈ zs') : FK zs' fs := fun p hp => (h p hp).sub hz
theorem fileC_len (p : Fl) : (fileC p).length = 2 := rfl
theorem fileC_get {fs : List Fl} {i j : Nat} {p : Fl} (h : fs[i]? = some p) (hj : j < 2) : (rcells fileC fs)[i * 2 + j]? = (fileC p)[j]? := rc_get (f := fileC) (sz := 2) (fun _ => rfl) h hj
theorem fileC_one (fs : List Fl) : ∀ c ∈ rcells fileC fs, c.oneCell' = true := rc_one (fun p c hc => by
  simp only [fileC, List.mem_cons, List.not_mem_nil, or_false] at hc
  rcases hc with rfl | rfl <;> rfl) fs
instance {p : Fl} : OneL (fileC p) := ⟨fun v hv => fileC_one [p] v (by simpa [rcells] using hv)⟩
instance {p : Fl} : Len (fileC p) 2 := ⟨rfl⟩
/-- a pending call in the document's memory -/
def opxC : Chg × Sv → List Value
  | (.puts k d, s) => [.int .i64 1, .int .i64 0, strV k, strV [], svV s]
  | (.cuts k n, _) => [.int .i64 2, .int .i64 (n : Int), strV k, strV [], .slice none 0 0]
  | (.names k t, _) => [.int .i64 3, .int .i64 0, strV t, strV k, .slice none 0 0]
  | (.takes k, _) => [.int .i64 4, .int .i64 0, strV k, strV [], .slice none 0 0]
theorem opxC_len (c : Chg × Sv) : (opxC c).length = 5 := by
  obtain ⟨c, s⟩ := c
  cases c <;> rfl
theorem opxC_one (l : List (Chg × Sv)) : ∀ c ∈ rcells opxC l, c.oneCell' = true := rc_one (fun p c hc => by
  obtain ⟨p, s⟩ := p
  cases p <;>
  · simp only [opxC, List.mem_cons, List.not_mem_nil, or_false] at hc
    rcases hc with rfl | rfl | rfl | rfl | rfl <;> rfl) l
instance {p : Chg × Sv} : OneL (opxC p) := ⟨fun v hv => opxC_one [p] v (by simpa [rcells] using hv)⟩
instance {p : Chg × Sv} : Len (opxC p) 5 := ⟨opxC_len p⟩
theorem By.cutP {W : World} {v' : Value} {x : Txt} {n : Int} (h0 : 0 ≤ n) (h1 : n ≤ x.length) (h : Sl W 1 v' n.toNat ((bytesV x).take (n.toNat * 1))) : By W v' (x.take n.toNat) := by
  have e1 : (x.take n.toNat).length = n.toNat := by rw [List.length_take]; omega
  unfold By
  rw [e1]
  have e2 : bytesV (x.take n.toNat) = (bytesV x).take (n.toNat * 1) := by rw [Nat.mul_one]; simp [bytesV, List.map_take]
  rw [e2]; exact h
/-- a list without a name, and with one -/
def outF (s : Txt) (fs : List Fl) : List Fl := fs.filter fun p => decide (p.1.1 ≠ s)
theorem outF_map (s : Txt) (fs : List Fl) : (outF s fs).map Prod.fst = (fs.map Prod.fst).filter fun p => decide (p.1 ≠ s) := by
  unfold outF
  rw [List.filter_map]; rfl
theorem filter_del {s : Txt} {m : Fm} (hs : Srt m) : m.filter (fun p => decide (p.1 ≠ s)) = delK s m := by
  have hf : Srt (m.filter fun p => decide (p.1 ≠ s)) := hs.filter _
  refine srt_ext hf (srt_del hs) fun k => ?_
  rw [get_del hs]
  refine Option.ext fun u => ?_
  rw [← mem_iff_get hf, List.mem_filter]
  split
  · rename_i hk
    simp [hk]
  · rename_i hk
    rw [mem_iff_get hs]
    simp [hk]
theorem outF_del {s : Txt} {fs : List Fl} (hs : Srt (fs.map Prod.fst)) : (outF s fs).map Prod.fst = delK s (fs.map Prod.fst) := by rw [outF_map, filter_del hs]
theorem outF_fk {zs : Zs} {s : Txt} {fs : List Fl} (h : FK zs fs) : FK zs (outF s fs) := fun p hp => h p (List.mem_filter.1 hp).1
def insF (k : Nat) (p : Fl) (fs : List Fl) : List Fl := fs.take k ++ p :: fs.drop k
theorem insF_put {s x : Txt} {sv : Sv} {fs : List Fl} (hs : Srt (fs.map Prod.fst)) : (insF (posK s ((outF s fs).map Prod.fst)) ((s, x), sv) (outF s fs)).map Prod.fst = putK s x (fs.map Prod.fst) := by
  have hd := outF_del (s := s) hs
  have hsd : Srt ((outF s fs).map Prod.fst) := by rw [hd]; exact srt_del hs
  have hno : hasK s ((outF s fs).map Prod.fst) = false := by
    rw [hasK_get hsd, hd, get_del hs, if_pos rfl]; rfl
  unfold insF
  rw [List.map_append, List.map_cons, List.map_take, List.map_drop]
  have e : putK s x ((outF s fs).map Prod.fst) = ((outF s fs).map Prod.fst).take (posK s ((outF s fs).map Prod.fst)) ++ (s, x) :: ((outF s fs).map Prod.fst).drop (posK s ((outF s fs).map Prod.fst)) := by
    unfold putK
    rw [if_neg (by rw [hno]; simp)]
  show _ ++ (s, x) :: _ = _
  rw [← e, hd]
  refine srt_ext (srt_put (srt_del hs)) (srt_put hs) fun k => ?_
  rw [get_put (srt_del hs), get_put hs, get_del hs]
  by_cases hk : k = s
  · rw [if_pos hk, if_pos hk]
  · rw [if_neg hk, if_neg hk, if_neg hk]
theorem insF_fk {zs : Zs} {k : Nat} {p : Fl} {fs : List Fl} (h : FK zs fs) (hp : PlIn zs (svV p.2) p.1.2) : FK zs (insF k p fs) := by
  intro q hq
  rcases List.mem_append.1 hq with hq | hq
  · exact h q (List.mem_of_mem_take hq)
  · rcases List.mem_cons.1 hq with rfl | hq
    · exact hp
    · exact h q (List.mem_of_mem_drop hq)
theorem posK_take {k : Txt} : ∀ {m : Fm} {i : Nat}, (∀ p ∈ m.take i, OKey.lt p.1 k = true) → (∀ p, m[i]? = some p → OKey.lt p.1 k = false) → i ≤ m.length → posK k m = i
  | [], i, _, _, hi => by
    obtain rfl : i = 0 := by simpa using hi
    rfl
  | p :: m, 0, _, h2, _ => by
    unfold posK
    rw [if_neg (by rw [h2 p rfl]; simp)]
  | p :: m, i + 1, h1, h2, hi => by
    unfold posK
    rw [if_pos (h1 p (by simp))]
    rw [posK_take (m := m) (i := i) (fun q hq => h1 q (by simp [hq])) (fun q hq => h2 q (by simpa using hq)) (by simpa using hi)]
theorem getK_skip {s : Txt} {a b : Fm} (h : ∀ p ∈ a, p.1 ≠ s) : getK s (a ++ b) = getK s b := by
  rw [getK_append]
  have : getK s a = none := by
    cases hg : getK s a with
    | none => rfl
    | some v => exact absurd rfl (h _ (getK_mem hg))
  rw [this]; rfl
end Go.Ez
namespace Go.Proofs.Ytdoopdbfajgnjaa
open Go Go.Ez Go.RowKit
set_option linter.unusedSimpArgs false
set_option linter.unusedVariables false
section
variable {w0 W : World} {l R R1 R2 : List As} {zs : Zs} {v : Value} {RR : Value → World → Prop} {fs : List Fl} {s : Txt}
abbrev FO (fs : List Fl) : Value → As := Ow 109 2 fs.length (rcells fileC fs)
/-- find -/
theorem find_spec {n0 : Nat} (hs : Sl W 2 v n0 (rcells fileC fs)) (hn : n0 = fs.length) (hl : fs.length ≤ 1000000) (k : ∀ n : Int, (n < 0 → getK s (fs.map Prod.fst) = none) → (0 ≤ n → ∃ p : Fl, fs[n.toNat]? = some p ∧ getK s (fs.map Prod.fst) = some p.1.2) → RR (.int .i64 n) W) : CallF Try.prog 75 #[v, strV s] W RR := by
  refine sh75_calls ?_
  unfold sh75
  subst hn
  refine lpx (α := Nat) (fun i => [nV .i64 i]) (fun i W' => W' = W ∧ i ≤ fs.length ∧ ∀ p ∈ (fs.map Prod.fst).take i, p.1 ≠ s) (fun i => fs.length - i) 0 (fun _ => rfl) rfl ⟨rfl, Nat.zero_le _, by simp⟩ ?_
  rintro next i W' hnext ⟨rfl, hi, hno⟩
  refine app1 ?_
  refine x_lenS hs ?_
  refine a_lss (ifd (fun hlt => ?_) fun hlt => ?_)
  · have hil : i < fs.length := by omega
    obtain ⟨p, hp⟩ : ∃ p, fs[i]? = some p := ⟨_, List.getElem?_eq_getElem hil⟩
    have hpm : (fs.map Prod.fst)[i]? = some p.1 := by rw [List.getElem?_map, hp]; rfl
    refine x_fld hs hil (off := 0) (by decide) ((fileC_get hp (by decide)).trans rfl) ?_
    refine w_eqlL (ifd (fun he => ?_) fun he => ?_)
    · refine k (i : Int) (fun hx => by omega) fun _ => ⟨p, by simpa using hp, ?_⟩
      have hx := List.getElem?_eq_some_iff.1 hpm
      rw [← List.take_append_drop i (fs.map Prod.fst), getK_skip hno, List.drop_eq_getElem_cons hx.1, hx.2]
      unfold getK
      rw [if_pos he]
    · refine a_add64 (by omega) (by omega) ?_
      rw [show ((i : Int) + 1) = ((i + 1 : Nat) : Int) by push_cast; rfl]
      refine ⟨rfl, rfl, hnext (i + 1) W' (by omega) ⟨rfl, by omega, ?_⟩⟩
      intro q hq
      rw [List.take_add_one, hpm] at hq
      rcases List.mem_append.1 hq with hq | hq
      · exact hno q hq
      · simp only [Option.toList_some, List.mem_singleton] at hq
        subst hq; exact he
  · obtain rfl : i = fs.length := by omega
    rw [List.take_of_length_le (by simp)] at hno
    refine k (-1) (fun _ => ?_) fun hx => by omega
    have := getK_skip (b := []) hno
    rw [List.append_nil] at this
    exact this
/-- data -/
theorem data_spec {n0 : Nat} (hs : Sl W 2 v n0 (rcells fileC fs)) (hn : n0 = fs.length) (hl : fs.length ≤ 1000000) (hk : FK zs fs) (k : ∀ v', PlIn zs v' (gt s (fs.map Prod.fst)) → RR v' W) : CallF Try.prog 76 #[v, strV s] W RR := by
  refine sh76_calls ?_
  unfold sh76
  subst hn
  refine find_spec (s := s) hs rfl hl fun n h1 h2 => ?_
  refine a_lss (ifd (fun hlt => ?_) fun hlt => ?_)
  · exact k _ (.inr ⟨rfl, by unfold gt; rw [h1 hlt]; rfl⟩)
  · obtain ⟨p, hp, hg⟩ := h2 (by omega)
    obtain ⟨i, rfl⟩ := Int.eq_ofNat_of_zero_le (by omega : 0 ≤ n)
    rw [Int.toNat_natCast] at hp
    have hil := (List.getElem?_eq_some_iff.1 hp).1
    refine x_fld hs hil (off := 1) (by decide) ((fileC_get hp (by decide)).trans rfl) ?_
    refine k _ ?_
    unfold gt
    rw [hg]
    exact hk p (List.mem_of_getElem? hp)
/-- used -/
theorem usedx_spec {n0 : Nat} (hs : Sl W 2 v n0 (rcells fileC fs)) (hn : n0 = fs.length) (hl : fs.length ≤ 1000000) (ht : tot (fs.map Prod.fst) ≤ 1073741824) (hk : ∀ p ∈ fs, By W (svV p.2) p.1.2) (k : RR (nV .i64 (tot (fs.map Prod.fst))) W) : CallF Try.prog 77 #[v] W RR := by
  refine sh77_calls ?_
  unfold sh77
  subst hn
  refine lpx (α := Nat) (fun i => [nV .i64 (tot ((fs.map Prod.fst).take i)), nV .i64 i]) (fun i W' => W' = W ∧ i ≤ fs.length) (fun i => fs.length - i) 0 (fun _ => rfl) rfl ⟨rfl, Nat.zero_le _⟩ ?_
  rintro next i W' hnext ⟨rfl, hi⟩
  refine app2 ?_
  refine x_lenS hs ?_
  refine a_lss (ifd (fun hlt => ?_) fun hlt => ?_)
  · have hil : i < fs.length := by omega
    obtain ⟨p, hp⟩ : ∃ p, fs[i]? = some p := ⟨_, List.getElem?_eq_getElem hil⟩
    have hpm : (fs.map Prod.fst)[i]? = some p.1 := by rw [List.getElem?_map, hp]; rfl
    refine x_fld hs hil (off := 1) (by decide) ((fileC_get hp (by decide)).trans rfl) ?_
    refine x_lenS (hk p (List.mem_of_getElem? hp)) ?_
    have e1 : tot ((fs.map Prod.fst).take (i + 1)) = tot ((fs.map Prod.fst).take i) + p.1.2.length := by
      rw [List.take_add_one, hpm, tot_append]
      simp [tot]
    have e2 : tot ((fs.map Prod.fst).take (i + 1)) ≤ tot (fs.map Prod.fst) := by
      have : tot (fs.map Prod.fst) = tot ((fs.map Prod.fst).take (i + 1)) + tot ((fs.map Prod.fst).drop (i + 1)) := by rw [← tot_append, List.take_append_drop]
      omega
    refine a_add64 (by omega) (by omega) ?_
    refine a_add64 (by omega) (by omega) ?_
    rw [show ((i : Int) + 1) = ((i + 1 : Nat) : Int) by push_cast; rfl, show ((tot ((fs.map Prod.fst).take i) : Nat) : Int) + ((p.1.2.length : Nat) : Int) = ((tot ((fs.map Prod.fst).take (i + 1)) : Nat) : Int) by rw [e1]; push_cast; rfl]
    exact ⟨rfl, hnext (i + 1) W' (by omega) ⟨rfl, by omega⟩⟩
  · obtain rfl : i = fs.length := by omega
    rw [List.take_of_length_le (by simp)]
    exact k
/-- without -/
theorem without_spec {n0 : Nat} (hs : Sl W 2 v n0 (rcells fileC fs)) (hn : n0 = fs.length) (hl : fs.length ≤ 1000000) (k : ∀ v' W', Cel1 v' → St W G0 [Ky v' (FO (outF s fs))] W' → RR v' W') : CallF Try.prog 85 #[v, strV s] W RR := by
  refine sh85_calls ?_
  unfold sh85
  subst hn
  have hnil : St W G0 (Ky (.slice none 0 0 : Value) (FO (outF s (fs.take 0))) :: []) W := (St.start W).nilOw
  refine lpx (α := Nat × Value) (fun p => [p.2, nV .i64 p.1]) (fun p W' => p.1 ≤ fs.length ∧ Cel1 p.2 ∧ St W G0 [Ky p.2 (FO (outF s (fs.take p.1)))] W') (fun p => fs.length - p.1) (0, .slice none 0 0) (fun _ => rfl) rfl ⟨Nat.zero_le _, ⟨rfl⟩, hnil⟩ ?_
  rintro next ⟨i, u⟩ W' hnext ⟨hi, ou, h⟩
  simp only at hi ou h
  refine app2 ?_
  refine x_lenS hs ?_
  refine a_lss (ifd (fun hlt => ?_) fun hlt => ?_)
  · have hil : i < fs.length := by simp only at hlt; omega
    obtain ⟨p, hp⟩ : ∃ p, fs[i]? = some p := ⟨_, List.getElem?_eq_getElem hil⟩
    have hsu : outF s (fs.take (i + 1)) = outF s (fs.take i) ++ (if p.1.1 ≠ s then [p] else []) := by
      rw [List.take_add_one, hp]
      unfold outF
      rw [List.filter_append]
      congr 1
      by_cases hx : p.1.1 = s <;> simp [hx]
    have hll : (outF s (fs.take i)).length ≤ 1000000 := by
      have := List.length_filter_le (fun p : Fl => decide (p.1.1 ≠ s)) (fs.take i)
      rw [List.length_take] at this
      unfold outF; omega
    refine jni (fun vs W' => ∃ u', vs = [v, strV s, u', nV .i64 i] ∧ Cel1 u' ∧ St W G0 [Ky u' (FO (outF s (fs.take (i + 1))))] W') ?_ ?_
    · rintro vs W2 _ ⟨u', rfl, ou', h⟩
      refine app4 ?_
      refine a_add64 (by omega) (by omega) ?_
      rw [show ((i : Int) + 1) = ((i + 1 : Nat) : Int) by push_cast; rfl]
      exact ⟨rfl, rfl, hnext (i + 1, u') W2 (by simp only; omega) ⟨by simp only; omega, ou', h⟩⟩
    refine x_fld (hs.below h.low) hil (off := 0) (by decide) ((fileC_get hp (by decide)).trans rfl) ?_
    refine w_neqL (ifd (fun hne => ?_) fun hne => ?_)
    · rw [if_pos hne] at hsu
      refine x_idx (hs.below h.low) hil fun g o hc => ?_
      refine x_lds (cs := fileC p) rfl (fun j u hu => hc j u (List.getElem?_eq_some_iff.1 hu).1 (by rw [fileC_get hp (List.getElem?_eq_some_iff.1 hu).1, hu])) ?_
      refine h.lit (vs := [.agg [strV p.1.1, svV p.2].toArray]) (fun u1 W1 o1 h => ?_) (by decide)
      refine h.app (v := u) (m := 1) (news := fileC p) (h.osl (v := u1)) (fun x hx => fileC_one [p] x (by simpa [rcells] using hx)) (by unfold maxLen; omega) (by omega) fun u2 W2 o2 h _ => ?_
      refine ⟨u2, rfl, o2, ?_⟩
      have e1 : rcells fileC (outF s (fs.take i)) ++ fileC p = rcells fileC (outF s (fs.take (i + 1))) := by rw [hsu, rc_append]; simp [rcells]
      have e2 : (outF s (fs.take i)).length + 1 = (outF s (fs.take (i + 1))).length := by rw [hsu]; simp
      rw [e1, e2] at h
      exact h.to
    · rw [if_neg hne, List.append_nil] at hsu
      refine ⟨u, rfl, ou, ?_⟩
      rw [hsu]; exact h
  · have hil : i = fs.length := by simp only at hlt; omega
    subst hil
    rw [List.take_length] at h
    exact k u W' ou h
/-- with -/
theorem with_spec {n0 : Nat} {x : Txt} {sv : Sv} (hs : Sl W 2 v n0 (rcells fileC fs)) (hn : n0 = fs.length) (hl : fs.length ≤ 1000000) (k : ∀ v' W', Cel1 v' → St W G0 [Ky v' (FO (insF (posK s ((outF s fs).map Prod.fst)) ((s, x), sv) (outF s fs)))] W' → RR v' W') : CallF Try.prog 84 #[v, strV s, svV sv] W RR := by
  refine sh84_calls ?_
  unfold sh84
  refine without_spec (s := s) hs hn hl fun u W1 ou h => ?_
  have hll : (outF s fs).length ≤ 1000000 := by
    have := List.length_filter_le (fun p : Fl => decide (p.1.1 ≠ s)) fs
    unfold outF; omega
  generalize outF s fs = gs at *
  have hu : ∀ {W' : World}, Below W1.heap.size W1 W' → Sl W' 2 u gs.length (rcells fileC gs) := fun hb => Sl.below (h.osl (v := u)) hb
  refine jni (fun vs W' => vs = [u, strV s, svV sv, nV .i64 (posK s (gs.map Prod.fst))] ∧ W' = W1) ?_ ?_
  · rintro vs W2 _ ⟨rfl, rfl⟩
    refine app4 ?_
    have hpl := posK_le s (gs.map Prod.fst)
    rw [List.length_map] at hpl
    generalize posK s (gs.map Prod.fst) = q at *
    replace h := h.drew
    have hsl : Sl W2.drew 2 u gs.length (rcells fileC gs) := h.osl (v := u)
    refine ⟨fun _ => True, trivial, ?_⟩
    refine a_sliceH (SlT.el (P := Try.prog) (t := 84)) hsl (by omega) (by omega) fun a ha => ?_
    refine a_sliceL (SlT.el (P := Try.prog) (t := 84)) hsl (by omega) (by omega) fun c hc => ?_
    rw [Int.toNat_natCast, ← rc_take (f := fileC) (sz := 2) (fun _ => rfl)] at ha
    rw [Int.toNat_natCast, ← rc_drop (f := fileC) (sz := 2) (fun _ => rfl)] at hc
    have h2 := St.start W2.drew
    have fin : ∀ {W3 : World} {L R3 R4 : List As} {v1 v2 : Value} {n1 n2 : Nat} {xs : List Value} [i : Has L v1 (Ow 109 2 n1 xs) R3] [j : Has R3 v2 (Ow 109 2 n2 (fileC ((s, x), sv))) R4], St W2.drew G0 L W3 → n1 = (gs.take q).length → n2 = 1 → xs = rcells fileC (gs.take q) →
        RunV Try.prog (Builtin.append_ #[84, 84] 84 #[v1, v2]) W3 fun t35 w => RunV Try.prog (Builtin.append_ #[84, 84] 84 #[t35, c]) w fun t39 w => RR t39 w := by
      intro W3 L R3 R4 v1 v2 n1 n2 xs i j h2 e1 e2 e3
      subst e1; subst e2; subst e3
      have h3 := has2 (k := v1) (k' := v2) h2
      have hlq : (gs.take q).length = q := by rw [List.length_take]; omega
      refine h3.app (v := v1) (m := 1) (news := fileC ((s, x), sv)) (h3.osl (v := v2)) (fun y hy => fileC_one [((s, x), sv)] y (by simpa [rcells] using hy)) (by unfold maxLen; omega) (by omega) fun v3 W4 o3 h3 _ => ?_
      refine h3.app (v := v3) (h3.sl0 hc) (fileC_one _) (by unfold maxLen; omega) (by omega) fun v4 W5 o4 h3 _ => ?_
      have e1 : rcells fileC (gs.take q) ++ fileC ((s, x), sv) ++ rcells fileC (gs.drop q) = rcells fileC (insF q ((s, x), sv) gs) := by
        unfold insF
        rw [rc_append, rc_cons, List.append_assoc]
      have e2 : (gs.take q).length + 1 + (gs.length - q) = (insF q ((s, x), sv) gs).length := by
        unfold insF
        simp only [List.length_append, List.length_cons, List.length_drop]; omega
      rw [e1, e2] at h3
      have h4 : St W2.drew G0 [Ky v4 (FO (insF q ((s, x), sv) gs))] W5 := h3.to
      exact k v4 W5 o4 (h.frame1 h4).to
    have hlq : (gs.take q).length = q := by rw [List.length_take]; omega
    refine ⟨?_, ?_, trivial⟩
    · refine h2.lit (vs := []) (cs := []) (fun v0 W3 o0 h2 => ?_) (by decide)
      refine ⟨?_, ?_, trivial⟩
      · refine h2.app (v := v0) (h2.sl0 ha) (fileC_one _) (by unfold maxLen; omega) (by omega) fun v1 W3 o1 h2 _ => ?_
        refine x_bld (cells := [strV s, svV sv].toArray) rfl ?_
        refine h2.lit (vs := [.agg [strV s, svV sv].toArray]) (fun v2 W3 o2 h2 => ?_) (by decide)
        exact fin (v1 := v1) (v2 := v2) h2 (by omega) rfl (List.nil_append _)
      · refine x_bld (cells := [strV s, svV sv].toArray) rfl ?_
        refine ⟨?_, ?_, trivial⟩
        · refine h2.app (v := v0) (h2.sl0 ha) (fileC_one _) (by unfold maxLen; omega) (by omega) fun v1 W3 o1 h2 _ => ?_
          refine h2.lit (vs := [.agg [strV s, svV sv].toArray]) (fun v2 W3 o2 h2 => ?_) (by decide)
          exact fin (v1 := v1) (v2 := v2) h2 (by omega) rfl (List.nil_append _)
        · refine h2.lit (vs := [.agg [strV s, svV sv].toArray]) (fun v2 W3 o2 h2 => ?_) (by decide)
          refine h2.app (v := v0) (h2.sl0 ha) (fileC_one _) (by unfold maxLen; omega) (by omega) fun v1 W3 o1 h2 _ => ?_
          exact fin (v1 := v1) (v2 := v2) h2 (by omega) rfl (List.nil_append _)
    · refine x_bld (cells := [strV s, svV sv].toArray) rfl ?_
      refine ⟨?_, ?_, trivial⟩
      · refine h2.lit (vs := []) (cs := []) (fun v0 W3 o0 h2 => ?_) (by decide)
        refine ⟨?_, ?_, trivial⟩
        · refine h2.app (v := v0) (h2.sl0 ha) (fileC_one _) (by unfold maxLen; omega) (by omega) fun v1 W3 o1 h2 _ => ?_
          refine h2.lit (vs := [.agg [strV s, svV sv].toArray]) (fun v2 W3 o2 h2 => ?_) (by decide)
          exact fin (v1 := v1) (v2 := v2) h2 (by omega) rfl (List.nil_append _)
        · refine h2.lit (vs := [.agg [strV s, svV sv].toArray]) (fun v2 W3 o2 h2 => ?_) (by decide)
          refine h2.app (v := v0) (h2.sl0 ha) (fileC_one _) (by unfold maxLen; omega) (by omega) fun v1 W3 o1 h2 _ => ?_
          exact fin (v1 := v1) (v2 := v2) h2 (by omega) rfl (List.nil_append _)
      · refine h2.lit (vs := [.agg [strV s, svV sv].toArray]) (fun v2 W3 o2 h2 => ?_) (by decide)
        refine h2.lit (vs := []) (cs := []) (fun v0 W3 o0 h2 => ?_) (by decide)
        refine h2.app (v := v0) (h2.sl0 ha) (fileC_one _) (by unfold maxLen; omega) (by omega) fun v1 W3 o1 h2 _ => ?_
        exact fin (v1 := v1) (v2 := v2) h2 (by omega) rfl (List.nil_append _)
  · refine lpx (α := Nat) (fun i => [nV .i64 i]) (fun i W' => W' = W1 ∧ i ≤ gs.length ∧ ∀ p ∈ (gs.map Prod.fst).take i, OKey.lt p.1 s = true) (fun i => gs.length - i) 0 (fun _ => rfl) rfl ⟨rfl, Nat.zero_le _, by simp⟩ ?_
    rintro next i W' hnext ⟨rfl, hi, hall⟩
    refine app1 ?_
    refine x_lenS (hu (Below.refl _ _)) ?_
    refine a_lss (ifd (fun hlt => ?_) fun hlt => ?_)
    · have hil : i < gs.length := by omega
      obtain ⟨p, hp⟩ : ∃ p, gs[i]? = some p := ⟨_, List.getElem?_eq_getElem hil⟩
      have hpm : (gs.map Prod.fst)[i]? = some p.1 := by rw [List.getElem?_map, hp]; rfl
      refine x_fld (hu (Below.refl _ _)) hil (off := 0) (by decide) ((fileC_get hp (by decide)).trans rfl) ?_
      refine x_lssL (ifb (fun hx => ?_) fun hx => ?_)
      · refine a_add64 (by omega) (by omega) ?_
        rw [show ((i : Int) + 1) = ((i + 1 : Nat) : Int) by push_cast; rfl]
        refine ⟨rfl, rfl, rfl, hnext (i + 1) W' (by omega) ⟨rfl, by omega, ?_⟩⟩
        intro q hq
        rw [List.take_add_one, hpm] at hq
        rcases List.mem_append.1 hq with hq | hq
        · exact hall q hq
        · simp only [Option.toList_some, List.mem_singleton] at hq
          subst hq; exact hx
      · have e := posK_take (k := s) (m := gs.map Prod.fst) (i := i) hall (fun q hq => by rw [hpm] at hq; cases hq; exact hx) (by rw [List.length_map]; omega)
        exact ⟨by rw [e], rfl⟩
    · have e := posK_take (k := s) (m := gs.map Prod.fst) (i := i) hall (fun q hq => by rw [List.getElem?_eq_none (by rw [List.length_map]; omega)] at hq; cases hq) (by rw [List.length_map]; omega)
      exact ⟨by rw [e], rfl⟩
end
end Go.Proofs.Ytdoopdbfajgnjaa
