/-
  KEYS: split, key, Parse, first: what each answers.
-/
import Derived.Test.YtgflkjhljggeiaaDoorKyA
import Derived.Lib.AtoiErrMem
namespace Go.Proofs.YtgflkjhljggeiaaDoor
open Go Go.Ez Go.RowKit Go.Lib
set_option linter.unusedSimpArgs false
set_option linter.unusedVariables false
/-- the tables and variables as they are laid -/
structure KTabs (W : World) : Prop where
  pow : PowTab W
  mlen : ∃ m, W.cell? ⟨Tryd.lays146_ren.g 1, 0, none⟩ = some (.int .i64 m)
  syn : ∃ ev, W.cell? ⟨Tryd.laysC172_ren.g 15, 0, none⟩ = some ev ∧ (ev = .nilIface ∨ ∃ te pe, ev = .iface te pe)
  rng : ∃ ev, W.cell? ⟨Tryd.laysC172_ren.g 16, 0, none⟩ = some ev ∧ (ev = .nilIface ∨ ∃ te pe, ev = .iface te pe)
theorem cell_below {w w' : World} {b o : Nat} {v : Value} (h : w.cell? ⟨b, o, none⟩ = some v) (hb : Below w.heap.size w w') : w'.cell? ⟨b, o, none⟩ = some v := by
  rw [hb.cell (cell_lt h)]; exact h
def ptV (p : Pts) : Value := .agg #[.int .i64 p.kind, strV p.user, strV p.feed, strV p.name, strV p.guid, .int .i64 p.num]
abbrev PtO (p : Pts) : Nat → As := Ob (.cells [.int .i64 p.kind, strV p.user, strV p.feed, strV p.name, strV p.guid, .int .i64 p.num].toArray 23 (0, 0))
theorem splitB_size (sep : ByteArray) : ∀ (k : Nat) (s x : ByteArray), x ∈ splitB sep 0 k s → x.size ≤ s.size
  | 0, s, x, h => by rw [splitB_zero, List.mem_singleton] at h; rw [h]; exact Nat.le_refl _
  | k + 1, s, x, h => by
    unfold splitB at h
    split at h
    · rw [List.mem_singleton] at h; rw [h]; exact Nat.le_refl _
    · rcases List.mem_cons.1 h with rfl | h
      · rw [ByteArray.size_extract]; omega
      · have := splitB_size sep k _ x h
        rw [ByteArray.size_extract] at this
        omega
theorem splF_len {s t : Txt} (h : t ∈ splF s) : t.length ≤ s.length := by
  unfold splF at h
  obtain ⟨x, hx, rfl⟩ := List.mem_map.1 h
  have := splitB_size _ _ _ x hx
  have e : (⟨s.toArray⟩ : ByteArray).size = s.length := by show s.toArray.size = _; simp
  rw [e] at this
  have e2 : x.data.toList.length = x.size := by show x.data.toList.length = x.data.size; simp
  omega
theorem splA_len {s : Txt} (i : Nat) : ((splF s ++ [[], [], [], []]).getD i []).length ≤ s.length := by
  rw [List.getD_eq_getElem?_getD]
  cases h : (splF s ++ [[], [], [], []])[i]? with
  | none => simp
  | some t =>
    have := List.mem_of_getElem? h
    rcases List.mem_append.1 this with h1 | h1
    · exact splF_len h1
    · simp only [List.mem_cons, List.not_mem_nil, or_false, or_self] at h1
      rw [h1]; simp
section
variable {w0 W W' : World} {l R : List As} {RR : Value → World → Prop} {t s : Txt} {c : UInt8} {b n : Nat} {v : Value}
theorem ktabs_at {l : List As} (hT : KTabs w0) (h : St w0 G0 l W) : KTabs W := by
  obtain ⟨h1, ⟨m, h2⟩, ⟨e1, h3, h3'⟩, ⟨e2, h4, h4'⟩⟩ := hT
  exact ⟨powTab_at h1 h, ⟨m, cell_below h2 h.low⟩, ⟨e1, cell_below h3 h.low, h3'⟩, ⟨e2, cell_below h4 h.low, h4'⟩⟩
theorem atoi_spec (hT : KTabs w0) (h : St w0 G0 l W) (hs : s.length ≤ 281474976710656) (k : ∀ e W', St w0 G0 l W' → RR (.tuple #[.int .i64 (atoiV s), e]) W') : CallF Tryd.prog 38 #[strV s] W RR := by
  have hsz : (⟨s.toArray⟩ : ByteArray).size = s.length := by show s.toArray.size = _; simp
  obtain ⟨h1, _, ⟨e1, h3, h3'⟩, ⟨e2, h4, h4'⟩⟩ := ktabs_at hT h
  unfold atoiV at k
  cases ha : atoiAll s
  · rename_i z
    rw [ha] at k
    refine callF_of (Any.strconv_Atoi_ok Tryd.laysC172 ⟨s.toArray⟩ (by omega) z ha W) fun e W' hq => ⟨_, hq.1, k _ W' ?_⟩
    rcases hq.2 with rfl | ⟨t, rfl⟩
    · exact h
    · exact h.ext (bytesWorld_below _ _ _)
  · rw [ha] at k
    refine callF_of (Any.strconv_Atoi_syntax Tryd.laysC172 ⟨s.toArray⟩ (by omega) ha e1 W h3 h3') fun e W' hq => ?_
    obtain ⟨N, he, _, _, hb⟩ := hq
    exact ⟨_, he, k _ W' (h.ext hb)⟩
  · rw [ha] at k
    refine callF_of (Any.strconv_Atoi_range Tryd.laysC172 ⟨s.toArray⟩ (by omega) ha e2 W h4 h4') fun e W' hq => ?_
    obtain ⟨N, he, _, _, hb⟩ := hq
    exact ⟨_, he, k _ W' (h.ext hb)⟩
/-- strings.Split, at a slash -/
theorem split1_spec (hT : KTabs w0) (h : St w0 G0 l W) (hs : s.length ≤ 1000000) (k : ∀ v W', Cel1 v → St w0 G0 (Ky v (Ow 9 1 (splF s).length ((splF s).map strV)) :: l) W' → RR v W') : CallF Tryd.prog 37 #[strV s, .string ⟨#[47]⟩] W RR := by
  have hsz : (⟨s.toArray⟩ : ByteArray).size = s.length := by show s.toArray.size = _; simp
  obtain ⟨_, ⟨m, h2⟩, _, _⟩ := ktabs_at hT h
  refine callF_of (Any.strings_Split Tryd.lays146 (by kernel_rfl) ⟨s.toArray⟩ ⟨#[47]⟩ m W (by omega) h2 (by decide)) fun e W' hq => ?_
  obtain ⟨he, rfl⟩ := hq
  refine ⟨_, he, k _ _ ⟨rfl⟩ ?_⟩
  have hlen := splitB_all ⟨#[47]⟩ (by decide) 0 _ ⟨s.toArray⟩ rfl
  have hl2 : (splF s).length = countB ⟨s.toArray⟩ ⟨#[47]⟩ + 1 := by unfold splF; rw [List.length_map]; exact hlen
  have hcs : (splitB ⟨#[47]⟩ 0 (countB ⟨s.toArray⟩ ⟨#[47]⟩) ⟨s.toArray⟩).map Value.string = (splF s).map strV := by
    unfold splF
    rw [List.map_map]
    congr 1
  have hle := countB_le ⟨#[47]⟩ (by decide) s.length ⟨s.toArray⟩ (by omega)
  rw [hcs, ← hl2]
  have how := World.ownsRow_lit (base := W.heap.size) (e := 9) (size := 1) W ((splF s).map strV).toArray (splF s).length (Nat.le_refl _) (by unfold maxLen; omega) (by simp)
  rw [show Tryd.lays146_ren.t 9 = 9 from rfl]
  exact h.newOw (B := W.heap.size) ((Below.refl _ W).alloc (Nat.le_refl _) _) (by simpa using how) (Nat.le_refl _)
/-- keys.split -/
theorem split_spec (hT : KTabs w0) (h : St w0 G0 l W) (hs : s.length ≤ 1000000) (k : ∀ W', St w0 G0 l W' → RR (ptV (splS s)) W') : CallF Tryd.prog 26 #[strV s] W RR := by
  refine sh26_calls ?_
  unfold sh26
  refine h.allocS fun b W h => ?_
  refine split1_spec hT h hs fun v W ov h => ?_
  refine h.lit fun u W ou h => ?_
  have hu := h.osl (v := u)
  have hle : (splF s).length ≤ 1000001 := by
    unfold splF
    rw [List.length_map, splitB_all ⟨#[47]⟩ (by decide) 0 _ ⟨s.toArray⟩ rfl]
    have := countB_le ⟨#[47]⟩ (by decide) s.length ⟨s.toArray⟩ (by show s.toArray.size ≤ _; simp)
    have hsz : (⟨s.toArray⟩ : ByteArray).size = s.length := by show s.toArray.size = _; simp
    omega
  refine h.app (v := v) hu (fun c hc => by simp only [List.mem_cons, List.not_mem_nil, or_false, or_self] at hc; rw [hc]; rfl) (by unfold maxLen; omega) (by omega) fun v' W o' h _ => ?_
  clear hu
  have hat : ∀ i, i < 4 → ((splF s).map strV ++ [Value.string ⟨#[]⟩, Value.string ⟨#[]⟩, Value.string ⟨#[]⟩, Value.string ⟨#[]⟩])[i]? = some (strV ((splF s ++ [[], [], [], []]).getD i [])) := fun i hi => by
    have e : (splF s).map strV ++ [Value.string ⟨#[]⟩, Value.string ⟨#[]⟩, Value.string ⟨#[]⟩, Value.string ⟨#[]⟩] = (splF s ++ [[], [], [], []]).map strV := by rw [List.map_append]; rfl
    have hl : i < (splF s ++ [[], [], [], []]).length := by rw [List.length_append]; simp; omega
    rw [e, List.getElem?_map, List.getD_eq_getElem?_getD, List.getElem?_eq_getElem hl]; rfl
  have hln : ∀ i, ((splF s ++ [[], [], [], []]).getD i []).length ≤ s.length := fun i => splA_len i
  unfold splS at k
  generalize hA : (fun i => (splF s ++ [[], [], [], []]).getD i []) = A at k
  have hat' : ∀ i, i < 4 → ((splF s).map strV ++ [Value.string ⟨#[]⟩, Value.string ⟨#[]⟩, Value.string ⟨#[]⟩, Value.string ⟨#[]⟩])[i]? = some (strV (A i)) := fun i hi => by rw [← hA]; exact hat i hi
  have hln' : ∀ i, (A i).length ≤ s.length := fun i => by rw [← hA]; exact hln i
  clear hat hln hA
  generalize (splF s).map strV ++ [Value.string ⟨#[]⟩, Value.string ⟨#[]⟩, Value.string ⟨#[]⟩, Value.string ⟨#[]⟩] = cs at *
  generalize (splF s).length + 4 = N at *
  refine x_at (i := 2) (h.osl (v := v')) (hat' 2 (by decide)) ?_
  refine atoi_spec hT h (by have := hln' 2; omega) fun e1 W h => a_ext0 (a_ext1 ?_)
  refine x_at (i := 3) (h.osl (v := v')) (hat' 3 (by decide)) ?_
  refine atoi_spec hT h (by have := hln' 3; omega) fun e1 W h => a_ext0 (a_ext1 ?_)
  refine x_at (i := 2) (h.osl (v := v')) (hat' 2 (by decide)) ?_
  refine unhex_spec h (by have := hln' 2; omega) fun z W oz h => a_ext0 (a_ext1 ?_)
  refine x_at (i := 0) (h.osl (v := v')) (hat' 0 (by decide)) ?_
  unfold splA at k
  refine w_eqlL (b := [102]) (ifd (fun q => ?_) fun q1 => ?_)
  · rw [if_pos q] at k
    refine x_at (i := 1) (h.osl (v := v')) (hat' 1 (by decide)) ?_
    refine x_bld (cells := #[.int .i64 1, strV [], strV (A 1), strV [], strV [], .int .i64 0]) rfl ?_
    refine h.storeS (b := b) (cs' := [.int .i64 1, strV [], strV (A 1), strV [], strV [], .int .i64 0]) fun W h => h.loadS ?_
    exact k W h.to
  rw [if_neg q1] at k
  refine w_eqlL (b := [101]) (ifd (fun q => ?_) fun q2 => ?_)
  · rw [if_pos q] at k
    refine x_at (i := 1) (h.osl (v := v')) (hat' 1 (by decide)) ?_
    refine x_bld (cells := #[.int .i64 2, strV [], strV (A 1), strV [], strV [], .int .i64 (atoiV (A 2))]) rfl ?_
    refine h.storeS (b := b) (cs' := [.int .i64 2, strV [], strV (A 1), strV [], strV [], .int .i64 (atoiV (A 2))]) fun W h => h.loadS ?_
    exact k W h.to
  rw [if_neg q2] at k
  have two : ∀ {j1 j2 : Nat}, j1 < 4 → j2 < 4 → True := fun _ _ => trivial
  refine w_eqlL (b := [103]) (ifd (fun q => ?_) fun q3 => ?_)
  · rw [if_pos q] at k
    refine ⟨St w0 G0 _, h.drew, ?_⟩
    replace h := h.drew
    refine x_sat (i := 1) (h.osl (v := v')) (fun w hw => hw.osl (v := v')) (hat' 1 (by decide)) ?_
    refine ss_str (fun w hw => (hw.osl (v := z) : By w z ((unhR (A 2)).getD []))) ?_
    refine x_bld (cells := #[.int .i64 3, strV [], strV (A 1), strV [], strV ((unhR (A 2)).getD []), .int .i64 0]) rfl ?_
    refine h.storeS (b := b) (cs' := [.int .i64 3, strV [], strV (A 1), strV [], strV ((unhR (A 2)).getD []), .int .i64 0]) fun W h => h.loadS ?_
    exact k W h.to
  rw [if_neg q3] at k
  refine w_eqlL (b := [115]) (ifd (fun q => ?_) fun q4 => ?_)
  · rw [if_pos q] at k
    refine ⟨St w0 G0 _, h.drew, ?_⟩
    replace h := h.drew
    refine x_sat (i := 1) (h.osl (v := v')) (fun w hw => hw.osl (v := v')) (hat' 1 (by decide)) ?_
    refine x_sat (i := 2) (h.osl (v := v')) (fun w hw => hw.osl (v := v')) (hat' 2 (by decide)) ?_
    refine x_bld (cells := #[.int .i64 4, strV (A 1), strV (A 2), strV [], strV [], .int .i64 0]) rfl ?_
    refine h.storeS (b := b) (cs' := [.int .i64 4, strV (A 1), strV (A 2), strV [], strV [], .int .i64 0]) fun W h => h.loadS ?_
    exact k W h.to
  rw [if_neg q4] at k
  refine w_eqlL (b := [100]) (ifd (fun q => ?_) fun q5 => ?_)
  · rw [if_pos q] at k
    refine ⟨St w0 G0 _, h.drew, ?_⟩
    replace h := h.drew
    refine x_sat (i := 1) (h.osl (v := v')) (fun w hw => hw.osl (v := v')) (hat' 1 (by decide)) ?_
    refine x_sat (i := 2) (h.osl (v := v')) (fun w hw => hw.osl (v := v')) (hat' 2 (by decide)) ?_
    refine x_bld (cells := #[.int .i64 5, strV (A 1), strV [], strV (A 2), strV [], .int .i64 0]) rfl ?_
    refine h.storeS (b := b) (cs' := [.int .i64 5, strV (A 1), strV [], strV (A 2), strV [], .int .i64 0]) fun W h => h.loadS ?_
    exact k W h.to
  rw [if_neg q5] at k
  refine w_eqlL (b := [114]) (ifd (fun q => ?_) fun q6 => ?_)
  · rw [if_pos q] at k
    refine ⟨St w0 G0 _, h.drew, ?_⟩
    replace h := h.drew
    refine x_sat (i := 1) (h.osl (v := v')) (fun w hw => hw.osl (v := v')) (hat' 1 (by decide)) ?_
    refine x_sat (i := 2) (h.osl (v := v')) (fun w hw => hw.osl (v := v')) (hat' 2 (by decide)) ?_
    refine x_bld (cells := #[.int .i64 6, strV (A 1), strV (A 2), strV [], strV [], .int .i64 (atoiV (A 3))]) rfl ?_
    refine h.storeS (b := b) (cs' := [.int .i64 6, strV (A 1), strV (A 2), strV [], strV [], .int .i64 (atoiV (A 3))]) fun W h => h.loadS ?_
    exact k W h.to
  rw [if_neg q6] at k
  refine w_eqlL (b := [109]) (ifd (fun q => ?_) fun q7 => ?_)
  · rw [if_pos q] at k
    refine ⟨St w0 G0 _, h.drew, ?_⟩
    replace h := h.drew
    refine x_sat (i := 1) (h.osl (v := v')) (fun w hw => hw.osl (v := v')) (hat' 1 (by decide)) ?_
    refine x_sat (i := 2) (h.osl (v := v')) (fun w hw => hw.osl (v := v')) (hat' 2 (by decide)) ?_
    refine x_bld (cells := #[.int .i64 7, strV (A 1), strV (A 2), strV [], strV [], .int .i64 0]) rfl ?_
    refine h.storeS (b := b) (cs' := [.int .i64 7, strV (A 1), strV (A 2), strV [], strV [], .int .i64 0]) fun W h => h.loadS ?_
    exact k W h.to
  rw [if_neg q7] at k
  refine x_bld (cells := #[.int .i64 0, strV [], strV [], strV [], strV [], .int .i64 0]) rfl ?_
  refine h.storeS (b := b) (cs' := [.int .i64 0, strV [], strV [], strV [], strV [], .int .i64 0]) fun W h => h.loadS ?_
  exact k W h.to
end
end Go.Proofs.YtgflkjhljggeiaaDoor
