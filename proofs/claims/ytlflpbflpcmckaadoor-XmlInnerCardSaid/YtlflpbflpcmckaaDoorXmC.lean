/-
  XML: wants, blanks, sign, until, name, full: what each answers.
-/
import Derived.Test.YtlflpbflpcmckaaDoorXmB
import Derived.Test.YtlflpbflpcmckaaDoorXmShf
import Derived.Lib.MapLaws
import Derived.Lib.TrimU
namespace Go.Proofs.YtlflpbflpcmckaaDoor
open Go Go.Ez Go.RowKit Go.Lib
set_option linter.unusedSimpArgs false
set_option linter.unusedVariables false
/-- the sign that begins a text -/
def decX (t : Txt) : Int × Nat := ((decodeL t).1, (decodeL t).2)
theorem decX_ok : XRd.DecOk decX := ⟨fun t _ => decodeL_width t, fun t h => decodeL_le t h⟩
/-- the tables as they are laid, and an error's variable -/
structure XTabs (w : World) : Prop where
  u : Utf8Tabs 1 2 w
  s : ∃ ev, w.cell? ⟨3, 0, none⟩ = some ev ∧ (ev = .nilIface ∨ ∃ te pe, ev = .iface te pe)
theorem callF_of {g : FuncId} {args : Array Value} {w : World} {Q : Ending → World → Prop} {R : Value → World → Prop} (h : Calls Tryd.prog g args w Q) (k : ∀ e w', Q e w' → ∃ v, e = .returned v ∧ R v w') : CallF Tryd.prog g args w R := Calls.mono h k
section
variable {w0 W W' : World} {G : Nat → Prop} {l R : List As} {RR : Value → World → Prop} {t s p : Txt} {c : XC} {x : UInt8} {b n : Nat} {r : XRd}
theorem xtabs_at {l : List As} (hT : XTabs w0) (h : St w0 G0 l W) : XTabs W := by
  obtain ⟨h1, e1, h3, h3'⟩ := hT
  have hb := h.low
  have cell : ∀ {a : Addr} {v : Value}, w0.cell? a = some v → W.cell? a = some v := fun {a v} hc => by
    exact (World.cell?_of_block (a := a) (hb.block a.block (World.block_lt_of_cell? _ _ hc))).trans hc
  exact ⟨Utf8Tabs_below h1 hb, e1, cell h3, h3'⟩
theorem dec_spec (hT : XTabs w0) (h : St w0 G0 l W) (hs : s ≠ []) (k : ∀ W', St w0 G0 l W' → RR (.tuple #[.int .i32 (decX s).1, nV .i64 (decX s).2]) W') : CallF Tryd.prog 64 #[strV s] W RR :=
  callF_of (Any.utf8_DecodeRuneInString Tryd.lays197 ⟨s.toArray⟩ W (xtabs_at hT h).u) fun e W' hq => by
    have hd : decodeGo ⟨s.toArray⟩ = decodeL s := by
      unfold decodeGo decodeL
      rw [if_neg]
      show ¬ s.toArray.size = 0
      simpa using hs
    rw [hd] at hq
    exact ⟨_, hq.1, k W' (h.ext hq.2)⟩
theorem bl_idx : (0 ≤ (firstIdx ⟨#[32, 9, 10, 13]⟩ x : Int)) ↔ XRd.isBl x = true := by
  have h : ∀ x : Fin 256, decide (0 ≤ (firstIdx ⟨#[32, 9, 10, 13]⟩ (UInt8.ofNat x.val) : Int)) = XRd.isBl (UInt8.ofNat x.val) := by decide +kernel
  have := h ⟨x.toNat, x.toNat_lt⟩
  simp only [UInt8.ofNat_toNat] at this
  rw [← this, decide_eq_true_iff]
/-- wants -/
theorem wants_spec [i : Has l b (Xo r c) R] (h : St w0 G l W) (hok : r.Ok) (hs : r.s.length ≤ 1000000) (hp : p.length ≤ 1000) (k : ∀ W', St w0 G (Ky b (Xo (XRd.wants p r) c) :: R) W' → RR (.tuple #[]) W') : CallF Tryd.prog 39 #[.pointer (some ⟨b, 0, none⟩), strV p] W RR := by
  refine sh39_calls ?_
  unfold sh39
  replace h := h.find (k := b) (X := Xo r c)
  generalize hRES : XRd.wants p r = RES at k
  refine lpx (α := Nat × XRd) (fun A => [nV .i64 A.1]) (fun A W' => A.1 ≤ p.length ∧ A.2.Ok ∧ A.2.s = r.s ∧ XRd.wants (p.drop A.1) A.2 = RES ∧ St w0 G (Ky b (Xo A.2 c) :: R) W') (fun A => p.length - A.1) (0, r) (fun _ => rfl) rfl ⟨Nat.zero_le _, hok, rfl, by rw [List.drop_zero, hRES], h⟩ ?_
  clear h
  rintro next ⟨i, q⟩ W1 hnext ⟨h1, h2, h3, he, h⟩
  simp only at h1 h2 h3 he h
  refine app1 ?_
  (repeat (first | (with_reducible refine ift ?_) | (with_reducible refine iff' ?_) | (with_reducible refine a_lss ?_) | (with_reducible refine a_leq ?_) | (with_reducible refine a_gtr ?_) | (with_reducible refine a_geq ?_) | (with_reducible refine w_eql ?_) | (with_reducible refine w_neq ?_) | (with_reducible refine s_eql ?_) | (with_reducible refine s_neq ?_) | ((with_reducible refine a_add64 ?h0 ?h1 ?_); (case h0 => omega); (case h1 => omega);  skip) | ((with_reducible refine a_sub64 ?h0 ?h1 ?_); (case h0 => omega); (case h1 => omega);  skip) | ((with_reducible refine a_mul64 ?h0 ?h1 ?_); (case h0 => omega); (case h1 => omega);  skip) | (with_reducible refine a_notd ?_) | (with_reducible refine a_not ?_) | (with_reducible refine a_ext0 ?_) | (with_reducible refine a_ext1 ?_) | (with_reducible refine a_ext2 ?_) | (with_reducible refine x_len ?_) | (with_reducible refine x_lens ?_) | (with_reducible refine x_eqb ?_) | (with_reducible refine x_neb ?_) | (with_reducible refine x_nilP ?_) | (with_reducible refine x_nilPn ?_) | (with_reducible refine x_nilF ?_) | (with_reducible refine x_nilFF ?_) | (with_reducible refine w_eqlL ?_) | (with_reducible refine w_neqL ?_) | (with_reducible refine s_eqlL ?_) | (with_reducible refine ifnt ?_) | (with_reducible refine ifnf ?_) | (with_reducible refine x_eqB ?_) | (with_reducible refine x_neB ?_) | (with_reducible refine x_lssL ?_) | (with_reducible refine x_gtrL ?_) | (with_reducible refine x_geqL ?_) | (with_reducible refine s_neqL ?_) | (with_reducible refine St.load h ?_) | (with_reducible refine St.loadS h ?_) | (with_reducible refine a_fld0 ?_) | (with_reducible refine St.store h fun W h => ?_) | (with_reducible refine St.storeS h fun W h => ?_) | (with_reducible refine St.alloc h fun b W h => ?_) | (with_reducible refine St.allocS h fun b W h => ?_) | (with_reducible refine a_nil ?_) | (with_reducible refine ss_load ?_) | (with_reducible refine ss_loadS ?_) | (with_reducible refine ss_eqb ?_)))
  refine ifd (fun hc => ?_) fun hc => ?_
  · have hi : i < p.length := by omega
    have ga : p[i]? = some p[i] := List.getElem?_eq_getElem hi
    rw [List.drop_eq_getElem_cons hi] at he
    generalize p[i] = a at ga he
    (repeat (first | (with_reducible refine ift ?_) | (with_reducible refine iff' ?_) | (with_reducible refine a_lss ?_) | (with_reducible refine a_leq ?_) | (with_reducible refine a_gtr ?_) | (with_reducible refine a_geq ?_) | (with_reducible refine w_eql ?_) | (with_reducible refine w_neq ?_) | (with_reducible refine s_eql ?_) | (with_reducible refine s_neq ?_) | ((with_reducible refine a_add64 ?h0 ?h1 ?_); (case h0 => omega); (case h1 => omega);  skip) | ((with_reducible refine a_sub64 ?h0 ?h1 ?_); (case h0 => omega); (case h1 => omega);  skip) | ((with_reducible refine a_mul64 ?h0 ?h1 ?_); (case h0 => omega); (case h1 => omega);  skip) | (with_reducible refine a_notd ?_) | (with_reducible refine a_not ?_) | (with_reducible refine a_ext0 ?_) | (with_reducible refine a_ext1 ?_) | (with_reducible refine a_ext2 ?_) | (with_reducible refine x_len ?_) | (with_reducible refine x_lens ?_) | (with_reducible refine x_eqb ?_) | (with_reducible refine x_neb ?_) | (with_reducible refine x_nilP ?_) | (with_reducible refine x_nilPn ?_) | (with_reducible refine x_nilF ?_) | (with_reducible refine x_nilFF ?_) | (with_reducible refine w_eqlL ?_) | (with_reducible refine w_neqL ?_) | (with_reducible refine s_eqlL ?_) | (with_reducible refine ifnt ?_) | (with_reducible refine ifnf ?_) | (with_reducible refine x_eqB ?_) | (with_reducible refine x_neB ?_) | (with_reducible refine x_lssL ?_) | (with_reducible refine x_gtrL ?_) | (with_reducible refine x_geqL ?_) | (with_reducible refine s_neqL ?_) | (with_reducible refine St.load h ?_) | (with_reducible refine St.loadS h ?_) | (with_reducible refine a_fld0 ?_) | (with_reducible refine St.store h fun W h => ?_) | (with_reducible refine St.storeS h fun W h => ?_) | (with_reducible refine St.alloc h fun b W h => ?_) | (with_reducible refine St.allocS h fun b W h => ?_) | (with_reducible refine a_nil ?_) | (with_reducible refine ss_load ?_) | (with_reducible refine ss_loadS ?_) | (with_reducible refine ss_eqb ?_)))
    refine ifd (fun hq => ?_) fun hq => ?_
    · unfold XRd.wants at he
      rw [if_pos hq] at he
      refine see_spec (n := 0) (r := q) (c := c) h h2 (by rw [h3]; exact hs) (by decide) fun W h => ?_
      have hst := XRd.stp_see (n := 0) h2
      have hat : (q.see 0).2.at_ = q.at_ := XRd.see_at
      have hss : (q.see 0).2.s = q.s := XRd.see_s
      have hchar : (q.see 0).2.e = 0 → q.at_ < q.s.length := fun he => by
        obtain ⟨x, hx, _⟩ := XRd.see_e he
        exact XRd.lt_of_at hx
      generalize q.see 0 = y at *
      obtain ⟨y1, y2⟩ := y
      simp only at *
      have hlt := h2.le hq
      have hsl : q.s.length = r.s.length := by rw [h3]
      have nx : ∀ (z : XRd) W', z.at_ = q.at_ → z.s = q.s → (z.e = 0 → z.at_ < q.s.length) → XRd.wants (p.drop (i + 1)) (z.on 1) = RES → St w0 G (Ky b (Xo (z.on 1) c) :: R) W' → appN 1 next [nV .i64 (i + 1)] W' := fun z W' e1 e2 e3 e4 h' => by
        refine hnext (i + 1, z.on 1) W' (by simp only; omega) ⟨by simp only; omega, ⟨?_, fun hz => ?_⟩, by show z.s = r.s; rw [e2, h3], e4, h'⟩
        · show z.at_ + 1 ≤ z.s.length + 1; rw [e1, e2]; omega
        · show z.at_ + 1 ≤ z.s.length
          have := e3 hz
          rw [e1] at this ⊢; rw [e2]; omega
      refine jni (fun vs W' => vs = [.pointer (some ⟨b, 0, none⟩), strV p, nV .i64 i] ∧ ∃ z : XRd, z.at_ = q.at_ ∧ z.s = q.s ∧ (z.e = 0 → z.at_ < q.s.length) ∧ XRd.wants (p.drop (i + 1)) (z.on 1) = RES ∧ St w0 G (Ky b (Xo z c) :: R) W') ?_ ?_
      · rintro vs W _ ⟨rfl, z, e1, e2, e3, e4, h⟩
        refine app3 ?_
        clear hat hss hst hchar
        (repeat (first | (with_reducible refine ift ?_) | (with_reducible refine iff' ?_) | (with_reducible refine a_lss ?_) | (with_reducible refine a_leq ?_) | (with_reducible refine a_gtr ?_) | (with_reducible refine a_geq ?_) | (with_reducible refine w_eql ?_) | (with_reducible refine w_neq ?_) | (with_reducible refine s_eql ?_) | (with_reducible refine s_neq ?_) | ((with_reducible refine a_add64 ?h0 ?h1 ?_); (case h0 => omega); (case h1 => omega);  skip) | ((with_reducible refine a_sub64 ?h0 ?h1 ?_); (case h0 => omega); (case h1 => omega);  skip) | ((with_reducible refine a_mul64 ?h0 ?h1 ?_); (case h0 => omega); (case h1 => omega);  skip) | (with_reducible refine a_notd ?_) | (with_reducible refine a_not ?_) | (with_reducible refine a_ext0 ?_) | (with_reducible refine a_ext1 ?_) | (with_reducible refine a_ext2 ?_) | (with_reducible refine x_len ?_) | (with_reducible refine x_lens ?_) | (with_reducible refine x_eqb ?_) | (with_reducible refine x_neb ?_) | (with_reducible refine x_nilP ?_) | (with_reducible refine x_nilPn ?_) | (with_reducible refine x_nilF ?_) | (with_reducible refine x_nilFF ?_) | (with_reducible refine w_eqlL ?_) | (with_reducible refine w_neqL ?_) | (with_reducible refine s_eqlL ?_) | (with_reducible refine ifnt ?_) | (with_reducible refine ifnf ?_) | (with_reducible refine x_eqB ?_) | (with_reducible refine x_neB ?_) | (with_reducible refine x_lssL ?_) | (with_reducible refine x_gtrL ?_) | (with_reducible refine x_geqL ?_) | (with_reducible refine s_neqL ?_) | (with_reducible refine St.load h ?_) | (with_reducible refine St.loadS h ?_) | (with_reducible refine a_fld0 ?_) | (with_reducible refine St.store h fun W h => ?_) | (with_reducible refine St.storeS h fun W h => ?_) | (with_reducible refine St.alloc h fun b W h => ?_) | (with_reducible refine St.allocS h fun b W h => ?_) | (with_reducible refine a_nil ?_) | (with_reducible refine ss_load ?_) | (with_reducible refine ss_loadS ?_) | (with_reducible refine ss_eqb ?_)))
        · refine ⟨rfl, rfl, ?_⟩
          rw [show ((i : Int) + 1) = ((i + 1 : Nat) : Int) by push_cast; rfl]
          refine nx z W e1 e2 e3 e4 ?_
          exact h
      · (repeat (first | (with_reducible refine ift ?_) | (with_reducible refine iff' ?_) | (with_reducible refine a_lss ?_) | (with_reducible refine a_leq ?_) | (with_reducible refine a_gtr ?_) | (with_reducible refine a_geq ?_) | (with_reducible refine w_eql ?_) | (with_reducible refine w_neq ?_) | (with_reducible refine s_eql ?_) | (with_reducible refine s_neq ?_) | ((with_reducible refine a_add64 ?h0 ?h1 ?_); (case h0 => omega); (case h1 => omega);  skip) | ((with_reducible refine a_sub64 ?h0 ?h1 ?_); (case h0 => omega); (case h1 => omega);  skip) | ((with_reducible refine a_mul64 ?h0 ?h1 ?_); (case h0 => omega); (case h1 => omega);  skip) | (with_reducible refine a_notd ?_) | (with_reducible refine a_not ?_) | (with_reducible refine a_ext0 ?_) | (with_reducible refine a_ext1 ?_) | (with_reducible refine a_ext2 ?_) | (with_reducible refine x_len ?_) | (with_reducible refine x_lens ?_) | (with_reducible refine x_eqb ?_) | (with_reducible refine x_neb ?_) | (with_reducible refine x_nilP ?_) | (with_reducible refine x_nilPn ?_) | (with_reducible refine x_nilF ?_) | (with_reducible refine x_nilFF ?_) | (with_reducible refine w_eqlL ?_) | (with_reducible refine w_neqL ?_) | (with_reducible refine s_eqlL ?_) | (with_reducible refine ifnt ?_) | (with_reducible refine ifnf ?_) | (with_reducible refine x_eqB ?_) | (with_reducible refine x_neB ?_) | (with_reducible refine x_lssL ?_) | (with_reducible refine x_gtrL ?_) | (with_reducible refine x_geqL ?_) | (with_reducible refine s_neqL ?_) | (with_reducible refine St.load h ?_) | (with_reducible refine St.loadS h ?_) | (with_reducible refine a_fld0 ?_) | (with_reducible refine St.store h fun W h => ?_) | (with_reducible refine St.storeS h fun W h => ?_) | (with_reducible refine St.alloc h fun b W h => ?_) | (with_reducible refine St.allocS h fun b W h => ?_) | (with_reducible refine a_nil ?_) | (with_reducible refine ss_load ?_) | (with_reducible refine ss_loadS ?_) | (with_reducible refine ss_eqb ?_)))
        refine ifd (fun hy => ?_) fun hy => ?_
        · refine x_index ga ?_
          (repeat (first | (with_reducible refine ift ?_) | (with_reducible refine iff' ?_) | (with_reducible refine a_lss ?_) | (with_reducible refine a_leq ?_) | (with_reducible refine a_gtr ?_) | (with_reducible refine a_geq ?_) | (with_reducible refine w_eql ?_) | (with_reducible refine w_neq ?_) | (with_reducible refine s_eql ?_) | (with_reducible refine s_neq ?_) | ((with_reducible refine a_add64 ?h0 ?h1 ?_); (case h0 => omega); (case h1 => omega);  skip) | ((with_reducible refine a_sub64 ?h0 ?h1 ?_); (case h0 => omega); (case h1 => omega);  skip) | ((with_reducible refine a_mul64 ?h0 ?h1 ?_); (case h0 => omega); (case h1 => omega);  skip) | (with_reducible refine a_notd ?_) | (with_reducible refine a_not ?_) | (with_reducible refine a_ext0 ?_) | (with_reducible refine a_ext1 ?_) | (with_reducible refine a_ext2 ?_) | (with_reducible refine x_len ?_) | (with_reducible refine x_lens ?_) | (with_reducible refine x_eqb ?_) | (with_reducible refine x_neb ?_) | (with_reducible refine x_nilP ?_) | (with_reducible refine x_nilPn ?_) | (with_reducible refine x_nilF ?_) | (with_reducible refine x_nilFF ?_) | (with_reducible refine w_eqlL ?_) | (with_reducible refine w_neqL ?_) | (with_reducible refine s_eqlL ?_) | (with_reducible refine ifnt ?_) | (with_reducible refine ifnf ?_) | (with_reducible refine x_eqB ?_) | (with_reducible refine x_neB ?_) | (with_reducible refine x_lssL ?_) | (with_reducible refine x_gtrL ?_) | (with_reducible refine x_geqL ?_) | (with_reducible refine s_neqL ?_) | (with_reducible refine St.load h ?_) | (with_reducible refine St.loadS h ?_) | (with_reducible refine a_fld0 ?_) | (with_reducible refine St.store h fun W h => ?_) | (with_reducible refine St.storeS h fun W h => ?_) | (with_reducible refine St.alloc h fun b W h => ?_) | (with_reducible refine St.allocS h fun b W h => ?_) | (with_reducible refine a_nil ?_) | (with_reducible refine ss_load ?_) | (with_reducible refine ss_loadS ?_) | (with_reducible refine ss_eqb ?_)))
          refine ifd (fun hn => ?_) fun hn => ?_
          · refine fail_spec (r := y2) (c := c) h fun W h => ?_
            refine ⟨rfl, y2.fail 4, by rw [XRd.fail_at, hat], by rw [XRd.fail_s, hss], fun hz => absurd hz (XRd.fail_ne (by decide)), ?_, h⟩
            rw [← he]; unfold XRd.failIf; rw [if_pos (decide_eq_true ⟨hy, hn⟩)]
          · refine ⟨rfl, y2, hat, hss, fun _ => by rw [hat]; exact hchar hy, ?_, h⟩
            rw [← he]; unfold XRd.failIf; rw [if_neg (by rw [decide_eq_false (fun hx => hn hx.2)]; decide)]
        · refine ⟨rfl, y2, hat, hss, fun hz => absurd hz hy, ?_, h⟩
          rw [← he]; unfold XRd.failIf; rw [if_neg (by rw [decide_eq_false (fun hx => hy hx.1)]; decide)]
    · rw [XRd.wants_no hq] at he
      rw [he] at h
      exact k W1 h
  · have hi : i = p.length := by omega
    rw [hi, List.drop_length] at he
    have he2 : q = RES := he
    rw [he2] at h
    exact k W1 h
end
end Go.Proofs.YtlflpbflpcmckaaDoor
