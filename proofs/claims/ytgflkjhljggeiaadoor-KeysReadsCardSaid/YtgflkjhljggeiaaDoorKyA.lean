/-
  KEYS: names and keys: what each function answers.
-/
import Derived.Test.YtgflkjhljggeiaaDoorKyN
import Derived.Test.YtgflkjhljggeiaaDoorKyP
import Derived.Laws.IdiomStrings
namespace Go.Proofs.YtgflkjhljggeiaaDoor
open Go Go.Ez Go.RowKit Go.Lib
set_option linter.unusedSimpArgs false
set_option linter.unusedVariables false
section
variable {P : Program} {W : World} {KW : Value → World → Prop}
theorem x_byt {src dst e : TypeId} {s : Txt} [u : Und P src .string] [u1 : Und P dst (.slice e)] [u2 : Und P e (.int .u8)] (k : ∀ v W', By W' v s → Below W.heap.size W W' → KW v W') : RunV P (convert src dst (strV s)) W KW := by
  have hsz : (⟨s.toArray⟩ : ByteArray).size = s.length := by show s.toArray.size = _; simp
  refine .of (run_bytes_of_string W src dst e ⟨s.toArray⟩ u.eq u1.eq u2.eq) (k _ _ ?_ ?_)
  · refine ⟨_, _, by rw [hsz], ?_, by rw [bytesV_length]; omega, fun j x hj => ⟨_, _, rfl, ?_⟩, fun h => by cases h⟩
    · have := grownCap_ge W (⟨s.toArray⟩ : ByteArray).size 0 e
      rw [hsz] at this
      exact this
    · rw [Nat.zero_add, show W.heap.size = W.drew.heap.size from rfl, World.cell?_alloc_mark]
      have hjl : j < s.length := by have := (List.getElem?_eq_some_iff.1 hj).1; rwa [bytesV_length] at this
      rw [bytesRow_at ⟨s.toArray⟩ _ j (by show j < s.toArray.size; simpa using hjl)]
      unfold bytesV at hj
      rw [List.getElem?_map, List.getElem?_eq_getElem hjl] at hj
      simpa [byteV] using hj
  · exact (Below.refl W.heap.size W).drew.alloc (Nat.le_refl _) _
end
section
variable {w0 W W' : World} {l R : List As} {RR : Value → World → Prop} {t s : Txt} {c : UInt8} {b n : Nat} {v : Value}
/-- keys.Name -/
theorem kname_spec (hs : s.length ≤ 9223372036854775807) (k : RR (.bool (nameS s)) W) : CallF Tryd.prog 14 #[strV s] W RR := by
  refine sh14_calls ?_
  unfold sh14
  refine x_len ?_
  refine lpx (α := Nat) (fun i => [nV .i64 i]) (fun i W' => i ≤ s.length ∧ (∀ c ∈ s.take i, nameC c) ∧ W' = W) (fun i => s.length - i) 0 (fun _ => rfl) rfl ⟨Nat.zero_le _, by simp, rfl⟩ ?_
  rintro next i W1 hnext ⟨hi, hall, rfl⟩
  refine app1 ?_
  refine a_lss (ifd (fun hc => ?_) fun hc => ?_)
  · have hil : i < s.length := by omega
    have ga : s[i]? = some s[i] := List.getElem?_eq_getElem hil
    generalize s[i] = c at ga
    have hmem : c ∈ s := List.mem_of_getElem? ga
    have no : ¬ nameC c → RR (.bool false) W1 := fun hn => by
      have : nameS s = false := decide_eq_false fun hh => hn (hh.1 c hmem)
      rw [this] at k; exact k
    refine x_index ga ?_
    refine jni (fun vs W' => vs = [strV s, nV .i64 s.length, nV .i64 i] ∧ nameC c ∧ W' = W1) ?_ ?_
    · rintro vs W' _ ⟨rfl, hn, rfl⟩
      refine app3 ?_
      refine a_add64 (by omega) (by omega) ⟨rfl, rfl, ?_⟩
      rw [show ((i : Int) + 1) = ((i + 1 : Nat) : Int) by push_cast; rfl]
      refine hnext (i + 1) _ (by omega) ⟨by omega, fun d hd => ?_, rfl⟩
      rw [List.take_add_one, ga, List.mem_append] at hd
      rcases hd with hd | hd
      · exact hall d hd
      · rw [List.mem_singleton.1 hd]; exact hn
    · have hy : ¬ (c.toNat = 45) → ¬ (c = 45) := fun h1 h2 => h1 (by rw [h2]; rfl)
      refine a_geq (ifd (fun g1 => a_leq (ifd (fun g2 => a_not (iff' ⟨rfl, .inl (by omega), rfl⟩)) fun g2 => ?_)) fun g1 => ?_)
      all_goals
        refine a_geq (ifd (fun g3 => a_leq (ifd (fun g4 => a_not (iff' ⟨rfl, .inr (.inl (by omega)), rfl⟩)) fun g4 => ?_)) fun g3 => ?_)
        all_goals
          refine w_eql (a_not (ifnd (fun g5 => no ?_) fun g5 => ⟨rfl, .inr (.inr (by omega)), rfl⟩))
          unfold nameC
          omega
  · have hi2 : i = s.length := by omega
    rw [hi2, List.take_length] at hall
    refine w_neqL (b := []) (ifd (fun hne => x_len (a_leq ?_)) fun heq => ?_)
    · have : decide ((s.length : Int) ≤ 20) = nameS s := by
        unfold nameS
        exact decide_eq_decide.2 ⟨fun hh => ⟨hall, hne, by omega⟩, fun hh => by have := hh.2.2; omega⟩
      rw [this]; exact k
    · have : nameS s = false := decide_eq_false fun hh => hh.2.1 (Classical.not_not.1 heq)
      rw [this] at k; exact k
theorem name_len {s : Txt} (h : nameS s = true) : s.length ≤ 20 := (name_no h).2.2
theorem cell_lt {w : World} {bk o : Nat} {v : Value} (h : w.cell? ⟨bk, o, none⟩ = some v) : bk < w.heap.size := by
  rcases Nat.lt_or_ge bk w.heap.size with hh | hh
  · exact hh
  · unfold World.cell? at h
    simp only [Array.getElem?_eq_none hh] at h
    cases h
/-- keys.joined -/
theorem joined_spec {m : Txt} {ns : List Txt} (h : St w0 G0 l W) (hv : Sl W 1 v ns.length (ns.map strV)) (hl : ns.length = 1 ∨ ns.length = 2) (hsz : ∀ a ∈ ns, a.length ≤ 9223372036854775807) (hm : m.length ≤ 100) (k : ∀ W', St w0 G0 l W' → RR (strV (jnS m ns)) W') :
    CallF Tryd.prog 29 #[strV m, v] W RR := by
  refine sh29_calls ?_
  unfold sh29
  refine x_lenS hv ?_
  refine lpx (α := Nat) (fun i => [nV .i64 i]) (fun i W' => i ≤ ns.length ∧ (∀ a ∈ ns.take i, nameS a = true) ∧ W' = W) (fun i => ns.length - i) 0 (fun _ => rfl) rfl ⟨Nat.zero_le _, by simp, rfl⟩ ?_
  rintro next i W1 hnext ⟨hi, hall, rfl⟩
  refine app1 ?_
  refine a_lss (ifd (fun hc => ?_) fun hc => ?_)
  · have hil : i < ns.length := by omega
    have ga : ns[i]? = some ns[i] := List.getElem?_eq_getElem hil
    generalize ns[i] = a at ga
    have hmem : a ∈ ns := List.mem_of_getElem? ga
    refine x_at hv (show (ns.map strV)[i]? = some (strV a) by rw [List.getElem?_map, ga]; rfl) ?_
    refine kname_spec (hsz a hmem) (a_not (ifnb (fun hn => ?_) fun hn => ?_))
    · have : jnS m ns = [] := by
        unfold jnS
        rw [if_neg]
        intro hh
        rw [List.all_eq_true] at hh
        rw [hh a hmem] at hn; cases hn
      rw [this] at k; exact k W1 h
    · refine a_add64 (by omega) (by omega) ⟨rfl, rfl, rfl, rfl, ?_⟩
      rw [show ((i : Int) + 1) = ((i + 1 : Nat) : Int) by push_cast; rfl]
      refine hnext (i + 1) _ (by omega) ⟨by omega, fun d hd => ?_, rfl⟩
      rw [List.take_add_one, ga, List.mem_append] at hd
      rcases hd with hd | hd
      · exact hall d hd
      · rw [List.mem_singleton.1 hd]; exact hn
  · have hi2 : i = ns.length := by omega
    rw [hi2, List.take_length] at hall
    have hj : jnS m ns = m ++ 47 :: slash ns := by unfold jnS; rw [if_pos (List.all_eq_true.2 hall)]
    have hjoin : Lib.join ns [47] = slash ns ∧ (slash ns).length ≤ 100 := by
      match ns, hl with
      | [a], _ =>
        have := name_len (hall a (by simp))
        exact ⟨join_one _ _, by simp only [slash]; omega⟩
      | [a, b], _ =>
        have := name_len (hall a (by simp))
        have := name_len (hall b (by simp))
        exact ⟨by simp [Lib.join, List.intercalate, slash], by simp only [slash, List.length_append, List.length_cons]; omega⟩
    refine a_cat (m := [47]) (by simp; omega) ?_
    obtain ⟨ao, cap, rfl, hnc, hln, hcs, _⟩ := hv
    have hpos : 0 < ns.length := by omega
    obtain ⟨bk, o, rfl, hc0⟩ := hcs 0 (strV ns[0]) (by rw [List.getElem?_map, List.getElem?_eq_getElem hpos]; rfl)
    have hbk := cell_lt hc0
    have hmap : (ns.map fun t => (⟨t.toArray⟩ : ByteArray)).map (·.data.toList) = ns := by rw [List.map_map]; simp [Function.comp_def]
    have key := Any.strings_Join Tryd.lays156 ⟨⟨by kernel_rfl, by kernel_rfl⟩, Tryd.underlying5, Tryd.isAgg5, Tryd.sizeOf5, Tryd.zeroValue5, by kernel_rfl, by kernel_rfl, by kernel_rfl, by decide⟩ bk o cap (ns.map fun t => (⟨t.toArray⟩ : ByteArray)) ⟨#[47]⟩ W1
      (fun j x hx => by
        rw [List.getElem?_map] at hx
        cases hg : ns[j]? with
        | none => rw [hg] at hx; cases hx
        | some a =>
          rw [hg] at hx
          cases hx
          obtain ⟨b', o', e1, e2⟩ := hcs j (strV a) (by rw [List.getElem?_map, hg]; rfl)
          cases e1
          exact e2)
      hbk (by rw [List.length_map]; omega) (by rw [List.length_map]; exact hnc) (by rw [hmap]; show (Lib.join ns [47]).length ≤ _; rw [hjoin.1]; omega)
    rw [hmap, List.length_map] at key
    refine callF_of key fun e W' hq => ⟨_, hq.1, ?_⟩
    replace h := h.ext hq.2
    have e47 : Lib.join ns (⟨#[47]⟩ : ByteArray).data.toList = slash ns := hjoin.1
    rw [e47]
    refine a_cat (by simp; omega) ?_
    have : m ++ [47] ++ slash ns = jnS m ns := by rw [hj]; simp
    rw [this]
    exact k W' h
theorem jnS_len {m : Txt} {ns : List Txt} (hm : m.length ≤ 1) (hl : ns.length = 1 ∨ ns.length = 2) : (jnS m ns).length ≤ 50 := by
  unfold jnS
  split
  · rename_i hh
    rw [List.all_eq_true] at hh
    match ns, hl with
    | [a], _ =>
      have := name_len (hh a (by simp))
      simp only [slash, List.length_append, List.length_cons]; omega
    | [a, b], _ =>
      have := name_len (hh a (by simp))
      have := name_len (hh b (by simp))
      simp only [slash, List.length_append, List.length_cons]; omega
  · simp
theorem joined1_spec {m a : Txt} {X : Nat} (h : St w0 G0 l W) (ha : a.length ≤ 9223372036854775807) (hm : m.length ≤ 100) (k : ∀ W', St w0 G0 l W' → RR (strV (jnS m [a])) W') :
    RunV Tryd.prog (Instr.buildSlice 41 1 #[(0, strV a)]) W fun t w => CallF Tryd.prog 29 #[strV m, t] w RR :=
  h.lit fun u W _ h => joined_spec (ns := [a]) h (h.osl (v := u)) (.inl rfl) (fun b hb => by rw [List.mem_singleton.1 hb]; exact ha) hm fun W' h => k W' h.tail
theorem joined2_spec {m a b : Txt} (h : St w0 G0 l W) (ha : a.length ≤ 9223372036854775807) (hb : b.length ≤ 9223372036854775807) (hm : m.length ≤ 100) (k : ∀ W', St w0 G0 l W' → RR (strV (jnS m [a, b])) W') :
    RunV Tryd.prog (Instr.buildSlice 41 2 #[(0, strV a), (1, strV b)]) W fun t w => CallF Tryd.prog 29 #[strV m, t] w RR :=
  h.lit fun u W _ h => joined_spec (ns := [a, b]) h (h.osl (v := u)) (.inr rfl) (fun c hc => by
    rcases List.mem_cons.1 hc with rfl | hc
    · exact ha
    · rw [List.mem_singleton.1 hc]; exact hb) hm fun W' h => k W' h.tail
/-- keys.begun -/
theorem begun_spec (hs : s.length ≤ 1000) (k : RR (strV (bgn s)) W) : CallF Tryd.prog 28 #[strV s] W RR := by
  refine sh28_calls ?_
  unfold sh28
  unfold bgn at k
  refine w_eqlL (b := []) (ifd (fun e => by rw [if_pos e] at k; exact k) fun e => ?_)
  rw [if_neg e] at k
  exact a_cat (m := [47]) (by simp; omega) k
/-- keys.numbered -/
theorem numb_spec {n : Int} (hT : PowTab w0) (h : St w0 G0 l W) (hn : n ≤ 9223372036854775807) (hs : s.length ≤ 1000) (k : ∀ W', St w0 G0 l W' → RR (strV (numb s n)) W') : CallF Tryd.prog 30 #[strV s, .int .i64 n] W RR := by
  refine sh30_calls ?_
  unfold sh30
  unfold numb at k
  refine digits_spec hT h hn fun W h => a_ext0 (a_ext1 ?_)
  refine w_eqlL (b := []) (ifd (fun e => by rw [if_pos (.inl e)] at k; exact k W h) fun e => ?_)
  refine a_not (ifnb (fun e2 => by rw [if_pos (.inr e2)] at k; exact k W h) fun e2 => ?_)
  rw [if_neg (by simp [e, e2])] at k
  have hl : (digR n 6).1.length ≤ 20 := by
    unfold digR
    split
    · simp
    · rw [dgs_len]; decide
  refine a_cat (m := [47]) (by simp; omega) (a_cat (by simp; omega) ?_)
  rw [List.append_assoc, List.singleton_append]
  exact k W h
/-- keys.Entries -/
theorem ents_spec (h : St w0 G0 l W) (hs : s.length ≤ 9223372036854775807) (k : ∀ W', St w0 G0 l W' → RR (strV (bgn (jnS [101] [s]))) W') : CallF Tryd.prog 9 #[strV s] W RR := by
  refine sh9_calls ?_
  unfold sh9
  refine joined1_spec (X := 0) (m := [101]) h hs (by decide) fun W h => ?_
  exact begun_spec (Nat.le_trans (jnS_len (by decide) (.inl rfl)) (by decide)) (k W h)
/-- keys.Entry -/
theorem ent_spec {n : Int} (hT : PowTab w0) (h : St w0 G0 l W) (hs : s.length ≤ 9223372036854775807) (hn : n ≤ 9223372036854775807) (k : ∀ W', St w0 G0 l W' → RR (strV (numb (jnS [101] [s]) n)) W') : CallF Tryd.prog 10 #[strV s, .int .i64 n] W RR := by
  refine sh10_calls ?_
  unfold sh10
  refine joined1_spec (X := 0) (m := [101]) h hs (by decide) fun W h => ?_
  exact numb_spec hT h hn (Nat.le_trans (jnS_len (by decide) (.inl rfl)) (by decide)) k
theorem feed_spec (h : St w0 G0 l W) (hs : s.length ≤ 9223372036854775807) (k : ∀ W', St w0 G0 l W' → RR (strV (jnS [102] [s])) W') : CallF Tryd.prog 23 #[strV s] W RR := by
  refine sh23_calls ?_
  unfold sh23
  exact joined1_spec (X := 0) (m := [102]) h hs (by decide) k
theorem sub_spec (h : St w0 G0 l W) (hs : s.length ≤ 9223372036854775807) (ht : t.length ≤ 9223372036854775807) (k : ∀ W', St w0 G0 l W' → RR (strV (jnS [115] [s, t])) W') : CallF Tryd.prog 20 #[strV s, strV t] W RR := by
  refine sh20_calls ?_
  unfold sh20
  exact joined2_spec (m := [115]) h hs ht (by decide) k
theorem folder_spec (h : St w0 G0 l W) (hs : s.length ≤ 9223372036854775807) (ht : t.length ≤ 9223372036854775807) (k : ∀ W', St w0 G0 l W' → RR (strV (jnS [100] [s, t])) W') : CallF Tryd.prog 22 #[strV s, strV t] W RR := by
  refine sh22_calls ?_
  unfold sh22
  exact joined2_spec (m := [100]) h hs ht (by decide) k
theorem marks_spec (h : St w0 G0 l W) (hs : s.length ≤ 9223372036854775807) (ht : t.length ≤ 9223372036854775807) (k : ∀ W', St w0 G0 l W' → RR (strV (jnS [109] [s, t])) W') : CallF Tryd.prog 25 #[strV s, strV t] W RR := by
  refine sh25_calls ?_
  unfold sh25
  exact joined2_spec (m := [109]) h hs ht (by decide) k
theorem state_spec {n : Int} (hT : PowTab w0) (h : St w0 G0 l W) (hs : s.length ≤ 9223372036854775807) (ht : t.length ≤ 9223372036854775807) (hn : n ≤ 9223372036854775807) (k : ∀ W', St w0 G0 l W' → RR (strV (numb (jnS [114] [s, t]) n)) W') : CallF Tryd.prog 21 #[strV s, strV t, .int .i64 n] W RR := by
  refine sh21_calls ?_
  unfold sh21
  refine joined2_spec (m := [114]) h hs ht (by decide) fun W h => ?_
  exact numb_spec hT h hn (Nat.le_trans (jnS_len (by decide) (.inr rfl)) (by decide)) k
/-- keys.Guid -/
theorem guid_spec (h : St w0 G0 l W) (hs : s.length ≤ 9223372036854775807) (k : ∀ W', St w0 G0 l W' → RR (strV (guidS s t)) W') : CallF Tryd.prog 24 #[strV s, strV t] W RR := by
  refine sh24_calls ?_
  unfold sh24
  unfold guidS at k
  refine joined1_spec (X := 0) (m := [103]) h hs (by decide) fun W h => ?_
  have hjl := jnS_len (m := [103]) (ns := [s]) (by decide) (.inl rfl)
  refine w_eqlL (b := []) (ifd (fun e => by rw [if_pos (.inl e)] at k; exact k W h) fun e1 => ?_)
  refine w_eqlL (b := []) (ifd (fun e => by rw [if_pos (.inr (.inl e))] at k; exact k W h) fun e2 => ?_)
  refine x_len (a_gtr (ifd (fun e => by rw [if_pos (.inr (.inr (by omega)))] at k; exact k W h) fun e3 => ?_))
  rw [if_neg (by intro hh; rcases hh with hh | hh | hh; exact e1 hh; exact e2 hh; omega)] at k
  refine a_cat (m := [47]) (by simp; omega) ?_
  refine x_byt fun u W2 hu hb => ?_
  refine hex_spec (St.start W2) hu (by omega) fun W3 h3 => ?_
  refine a_cat (by rw [hexS_len, List.length_append, List.length_singleton]; omega) ?_
  rw [List.append_assoc, List.singleton_append]
  exact k W3 ((h.ext hb).ext h3.low)
end
end Go.Proofs.YtgflkjhljggeiaaDoor
