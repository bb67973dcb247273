/-
  EZ: slices opened: the block, its cells, what lies behind the length: cut, copied, cleared, appended to: laws of the forms.
-/
import Derived.Test.YtlflpbflpcmckaaDoorEzSep
import Derived.Lib.AppendZerosOnto
import Derived.Lib.Overlaps
namespace Go.Ez
open Go Go.Proofs Go.RowKit
set_option linter.unusedSimpArgs false
set_option linter.unusedVariables false

section
variable {P : Program} {w0 W W' : World} {G : Nat → Prop} {l R : List As} {K : Value → Prop} {KW : Value → World → Prop} {KU : World → Prop}

theorem Mod.setRow (W : World) (g : Nat) (cs : Array Value) : Mod [g] W (W.setRow g cs) :=
  ⟨rfl, rfl, rfl, by simp, fun i _ hn => setRow_other W g i cs (by simpa using hn)⟩

/-- a block that can grow, opened -/
theorem St.openOw {e : TypeId} {sz n : Nat} {xs : List Value} {v : Value} [i : Has l v (Ow e sz n xs) R] (h : St w0 G l W) :
    (v = .slice none 0 0 ∧ n = 0 ∧ xs = [] ∧ St w0 G R W) ∨
    ∃ (g cap : Nat) (cur : List Value), v = .slice (some ⟨g, 0, none⟩) n cap ∧ n ≤ cap ∧ cap ≤ maxLen ∧ cur.length = cap * sz ∧ cur.take (n * sz) = xs ∧ St w0 G (Ky g (Ob (.cells cur.toArray e (0, 0))) :: R) W := by
  have h' := h.find (k := v) (X := Ow e sz n xs)
  have how := h'.ow (v := v)
  rcases how.2 with ⟨rfl, rfl⟩ | ⟨g, cap, cur, rfl, hg, hh, hn, hm, hc, ht⟩
  · have hx : xs = [] := List.eq_nil_of_length_eq_zero (by simpa using how.1)
    refine .inl ⟨rfl, rfl, hx, ?_⟩
    obtain ⟨F, ⟨F1, F2, h1, h2, hd, hF⟩, hG⟩ := h'.own
    exact { h' with own := ⟨F2, h2, fun b hb => hG b ((hF b).2 (.inr hb))⟩ }
  · refine .inr ⟨g, cap, cur.toList, rfl, hn, hm, by simpa using hc, ht, ?_⟩
    refine h'.conv fun F hF => ⟨fun x => ?_, by simpa using hh⟩
    rw [hF.1 x]; simp [Value.ownBlock, eq_comm]
/-- and shut -/
theorem St.shutOw {e : TypeId} {sz n cap g : Nat} {cur xs : List Value} [i : Has l g (Ob (.cells cur.toArray e (0, 0))) R] (h : St w0 G l W) (hn : n ≤ cap) (hm : cap ≤ maxLen) (hc : cur.length = cap * sz) (ht : cur.take (n * sz) = xs) :
    St w0 G (Ky (.slice (some ⟨g, 0, none⟩) n cap) (Ow e sz n xs) :: R) W := by
  refine (h.find (k := g) (X := Ob (.cells cur.toArray e (0, 0)))).conv fun F hF => ⟨fun x => ?_, ⟨?_, .inr ⟨g, cap, cur.toArray, rfl, Nat.zero_le _, hF.2, hn, hm, by simpa using hc, by simpa using ht⟩⟩⟩
  · rw [hF.1 x]; simp [Value.ownBlock, eq_comm]
  · rw [← ht, List.length_take, hc]
    exact Nat.min_eq_left (Nat.mul_le_mul_right _ hn)
theorem St.cellOf {g j : Nat} {t : TypeId} {cur : List Value} {v : Value} [i : Has l g (Ob (.cells cur.toArray t (0, 0))) R] (h : St w0 G l W) (hv : cur[j]? = some v) : W.cell? ⟨g, j, none⟩ = some v := (h.rc (b := g) (t := t) (cs := cur)).cell hv

/-- where a cut begins -/
def offs (cap lo o sz : Nat) : Nat := if cap = lo then o else o + lo * sz
theorem x_slL {t e : TypeId} {sz bytes g o n cap lo : Nat} {z : Value} {k0 : IntKind} [S : SlT P t e sz bytes z] (h1 : lo ≤ n) (k : K (.slice (some ⟨g, offs cap lo o sz, none⟩) (n - lo) (cap - lo))) : RunA P (Instr.sliceAt t (.slice (some ⟨g, o, none⟩) n cap) (some (.int k0 (lo : Int))) none none) K := by
  have ht : P.underlying t = some (.slice (P.elem t)) := by rw [S.el.und]; simp [Program.elem, S.el.und]
  have hel : P.elem t = e := by simp [Program.elem, S.el.und]
  refine .of (fun w => ?_) k
  rw [run_sliceAt_slice w t _ _ _ _ ht, run_slice_l w t _ n cap ht k0 (lo : Int) (by omega) (by omega), hel, S.el.size]
  simp only [Result.andThen, sliced, Int.toNat_natCast, offs]
  by_cases hc : cap = lo
  · rw [if_pos hc, if_pos hc]
  · rw [if_neg hc, if_neg hc]; simp [addr_add]
theorem x_slH {t e : TypeId} {sz bytes g o n cap hi : Nat} {z : Value} {k0 : IntKind} [S : SlT P t e sz bytes z] (h1 : hi ≤ cap) (k : K (.slice (some ⟨g, o, none⟩) hi cap)) : RunA P (Instr.sliceAt t (.slice (some ⟨g, o, none⟩) n cap) none (some (.int k0 (hi : Int))) none) K := by
  have ht : P.underlying t = some (.slice (P.elem t)) := by rw [S.el.und]; simp [Program.elem, S.el.und]
  have hel : P.elem t = e := by simp [Program.elem, S.el.und]
  refine .of (fun w => ?_) k
  rw [run_sliceAt_slice w t _ _ _ _ ht, run_slice_h w t _ n cap ht k0 (hi : Int) (by omega) (by omega), hel, S.el.size]
  simp only [Result.andThen, sliced, Int.toNat_natCast]
  by_cases hc : cap = 0
  · rw [if_pos hc]; simp
  · rw [if_neg hc]; simp [addr_add]
theorem x_slLH {t e : TypeId} {sz bytes g o n cap lo hi : Nat} {z : Value} {k0 k1 : IntKind} [S : SlT P t e sz bytes z] (h1 : lo ≤ hi) (h2 : hi ≤ cap) (k : K (.slice (some ⟨g, offs cap lo o sz, none⟩) (hi - lo) (cap - lo))) : RunA P (Instr.sliceAt t (.slice (some ⟨g, o, none⟩) n cap) (some (.int k0 (lo : Int))) (some (.int k1 (hi : Int))) none) K := by
  have ht : P.underlying t = some (.slice (P.elem t)) := by rw [S.el.und]; simp [Program.elem, S.el.und]
  have hel : P.elem t = e := by simp [Program.elem, S.el.und]
  refine .of (fun w => ?_) k
  rw [run_sliceAt_slice w t _ _ _ _ ht, run_slice_lh w t _ n cap ht k0 k1 (lo : Int) (hi : Int) (by omega) (by omega) (by omega), hel, S.el.size]
  simp only [Result.andThen, sliced, Int.toNat_natCast, offs]
  by_cases hc : cap = lo
  · rw [if_pos hc, if_pos hc]
  · rw [if_neg hc, if_neg hc]; simp [addr_add]
theorem x_sl3 {t e : TypeId} {sz bytes n cap lo hi mx : Nat} {z : Value} {ao : Option Addr} {k0 k1 k2 : IntKind} [S : SlT P t e sz bytes z] (h1 : lo ≤ hi) (h2 : hi ≤ mx) (h3 : mx ≤ cap) (k : ∀ v, K v) : RunA P (Instr.sliceAt t (.slice ao n cap) (some (.int k0 (lo : Int))) (some (.int k1 (hi : Int))) (some (.int k2 (mx : Int)))) K := by
  have ht : P.underlying t = some (.slice (P.elem t)) := by rw [S.el.und]; simp [Program.elem, S.el.und]
  have hel : P.elem t = e := by simp [Program.elem, S.el.und]
  refine .of (v := Go.sliced ao lo hi mx sz) (fun w => ?_) (k _)
  rw [run_sliceAt_slice w t _ _ _ _ ht, run_slice_lhm w t ao n cap ht k0 k1 k2 (lo : Int) (hi : Int) (mx : Int) (by omega) (by omega) (by omega) (by omega), hel, S.el.size]
  simp [Result.andThen]
/-- a cut whose value is not used -/
theorem x_slAny {t e : TypeId} {sz bytes n lo : Nat} {z v : Value} {xs : List Value} {k0 : IntKind} [S : SlT P t e sz bytes z] (hs : Sl W sz v n xs) (h1 : lo ≤ n) (k : ∀ v, K v) : RunA P (Instr.sliceAt t v (some (.int k0 (lo : Int))) none none) K :=
  a_sliceL S.el hs (by omega) (by omega) fun v _ => k v
theorem St.ne {κ κ' : Type} {b b' : Nat} {o o' : Obj} {R' : List As} [i : Has l b (Ob o) R] [j : Has R b' (Ob o') R'] (h : St w0 G l W) : b ≠ b' := by
  rintro rfl
  obtain ⟨F, ⟨F1, F2, h1, h2, hd, hF⟩, hG⟩ := (h.find (k := b) (X := Ob o)).own
  obtain ⟨F3, F4, h3, h4, hd2, hF2⟩ := j.to F2 W h2
  exact hd b ((h1.1 b).2 rfl) ((hF2 b).2 (.inl ((h3.1 b).2 rfl)))
/-- two slices in two blocks do not lie over one another -/
theorem St.apart {f : FuncId} {t e e' tR : TypeId} {sz bytes g g' o o' n c n' c' : Nat} {z : Value} {cur cur' : List Value} {R' : List As} [S : SlT P t e sz bytes z] [i : Has l g (Ob (.cells cur.toArray e (0, 0))) R] [j : Has R g' (Ob (.cells cur'.toArray e' (0, 0))) R'] (h : St w0 G l W)
    (hrun : ∀ args, (callFunc f args).run P W = ((Extern.SlicesOverlaps.overlaps #[t, t] #[tR] args).run P W).andThen fun v w' => .ok (.value v) w') (h0 : cur'.length ≠ 0)
    (k : KW (.bool false) W) : RunO P (callFunc f #[.slice (some ⟨g, o, none⟩) n c, .slice (some ⟨g', o', none⟩) n' c']) W KW := by
  have hrc := h.rc (b := g) (t := e) (cs := cur)
  have hrc' : Rec W g' e' cur' := by
    obtain ⟨F, ⟨F1, F2, h1, h2, hd, hF⟩, hG⟩ := (h.find (k := g) (X := Ob (.cells cur.toArray e (0, 0)))).own
    obtain ⟨F3, F4, h3, h4, hd2, hF2⟩ := j.to F2 W h2
    exact h3.2
  have hne := h.ne (κ := Nat) (κ' := Nat) (b := g) (b' := g') (o := .cells cur.toArray e (0, 0)) (o' := .cells cur'.toArray e' (0, 0))
  refine .of (v := .bool false) (w' := W) ?_ k
  rw [hrun, Lib.run_overlaps_apart W t tR e S.el.und sz S.el.size ⟨g, o, none⟩ ⟨g', o', none⟩ n c n' c' hne e e' cur.length cur'.length (by simp [World.shape?, show W.heap[g]? = _ from hrc]) (by simp [World.shape?, show W.heap[g']? = _ from hrc']) h0 (hrc.frozen o) (hrc.frozen _)]
  rfl
theorem x_cap {t e ty : TypeId} {n c : Nat} {ao : Option Addr} [u : Und P t (.slice e)] (k : K (nV .i64 c)) : RunW P (Builtin.cap_ #[t] ty #[.slice ao n c]) W K :=
  .of (by
    have ht : P.underlying t = some (.slice (P.elem t)) := by rw [u.eq]; simp [Program.elem, u.eq]
    rw [run_cap_slice W t ty ao n c ht]; rfl) k
theorem x_lenE {t e ty : TypeId} {n c : Nat} {ao : Option Addr} [u : Und P t (.slice e)] (k : K (nV .i64 n)) : RunW P (Builtin.len_ #[t] ty #[.slice ao n c]) W K := w_len u.eq k

theorem splice_len {α : Type} {a cs : List α} {o : Nat} (h : o + cs.length ≤ a.length) : (a.take o ++ cs ++ a.drop (o + cs.length)).length = a.length := by
  simp only [List.length_append, List.length_take, List.length_drop]; omega
/-- 'copy' into a block -/
theorem St.copy {t t2 ty e e' : TypeId} {sz bytes m g o dLen dCap sLen sCap : Nat} {z : Value} {a : Addr} {cur cs : List Value} [S : SlT P t e sz bytes z] [i : Has l g (Ob (.cells cur.toArray e' (0, 0))) R] (h : St w0 G l W) (hm : m = Nat.min sLen dLen) (hl : cs.length = m * sz)
    (hsrc : ∀ j v, cs[j]? = some v → W.cell? (a.add j) = some v) (hfit : o + cs.length ≤ cur.length) (h1 : ∀ c ∈ cs, c.oneCell' = true)
    (k : ∀ W', St w0 G (Ky g (Ob (.cells (cur.take o ++ cs ++ cur.drop (o + cs.length)).toArray e' (0, 0))) :: R) W' → KW (nV .i64 m) W') : RunV P (Builtin.copy_ #[t, t2] ty #[.slice (some ⟨g, o, none⟩) dLen dCap, .slice (some a) sLen sCap]) W KW := by
  have hrc := h.rc (b := g) (t := e') (cs := cur)
  have hld := run_loadCells_list (P := P) W a cs hsrc
  have hst := run_storeCells_at P g o e' cs 0 cur.toArray W hrc (by simpa using hfit) h1
  refine .of (v := nV .i64 m) (w' := W.setRow g (cur.take o ++ cs ++ cur.drop (o + cs.length)).toArray) ?_ (k _ ?_)
  · rw [hl] at hld
    simp only [Builtin.copy_, run_underlying S.el.und, Builtin.lenOf, Builtin.firstCells, S.el.size, ← hm, Sem.run_bind, Sem.run_pure, Result.andThen, List.getElem?_toArray, List.getElem?_cons_zero, List.getElem?_cons_succ, hld]
    simp only [Nat.add_zero] at hst
    rw [hst]
    simp [goInt]
  · exact h.setB (b := g) (o := .cells cur.toArray e' (0, 0)) (Mod.setRow _ _ _) (setRow_heap W g _ _ e' (0, 0) hrc)

/-- 'append' where there is room -/
theorem St.appRoom {t e ty : TypeId} {sz bytes m c g n cap : Nat} {z : Value} {a : Addr} {cur news : List Value} [S : SlT P t e sz bytes z] [i : Has l g (Ob (.cells cur.toArray e (0, 0))) R] (h : St w0 G l W) (hl : news.length = m * sz)
    (hsrc : ∀ j v, news[j]? = some v → W.cell? (a.add j) = some v) (h1 : ∀ c ∈ news, c.oneCell' = true) (hroom : n + m ≤ cap) (hfit : n * sz + news.length ≤ cur.length)
    (k : ∀ W', St w0 G (Ky g (Ob (.cells (cur.take (n * sz) ++ news ++ cur.drop (n * sz + news.length)).toArray e (0, 0))) :: R) W' → KW (.slice (some ⟨g, 0, none⟩) (n + m) cap) W') : RunV P (Builtin.append_ #[t, t] ty #[.slice (some ⟨g, 0, none⟩) n cap, .slice (some a) m c]) W KW := by
  obtain ⟨i, hi, hz, hs, hby⟩ := info_parts S.el.info
  have hrc := h.rc (b := g) (t := e) (cs := cur)
  have hr := run_append_room (P := P) W t ty e i S.el.und hi g n cap cur.toArray hrc a m c news (by rw [hs]; exact hl) hsrc h1 hroom (by rw [hs]; simpa using hfit)
  rw [hs] at hr
  refine .of hr (k _ ?_)
  exact h.setB (b := g) (o := .cells cur.toArray e (0, 0)) (Mod.setRow _ _ _) (setRow_heap W g _ _ e (0, 0) hrc)

/-- some zeros -/
def zerosL (z : Value) (n : Nat) : List Value := (Builtin.zeroCells z.cells n).toList
theorem zerosL_length {z : Value} {n sz : Nat} (h : z.cells.size = sz) : (zerosL z n).length = n * sz := by simp [zerosL, Builtin.zeroCells, h]
/-- 'append(v[:n], make(.., k)...)' where there is no room -/
theorem St.appZeros {t tn e ty : TypeId} {sz bytes n cap q : Nat} {kn kq : IntKind} {z : Value} {a : Addr} {olds : List Value} [S : SlT P t e sz bytes z] [u : Und P tn (.int kn)] (h : St w0 G l W) (hl : olds.length = n * sz)
    (hsrc : ∀ j v, olds[j]? = some v → W.cell? (a.add j) = some v) (h0 : 0 < q) (hg : cap < n + q) (hb : (n + q) * bytes ≤ 140737488355328) (hm : n + q ≤ maxLen)
    (k : ∀ g cap' rest W', n + q ≤ cap' → cap' ≤ maxLen → rest.length = (cap' - (n + q)) * sz → St w0 G (Ky g (Ob (.cells (olds ++ zerosL z q ++ rest).toArray e (0, 0))) :: l) W' → (∀ j v, olds[j]? = some v → W'.cell? (a.add j) = some v) → KW (.slice (some ⟨g, 0, none⟩) (n + q) cap') W') :
    RunV P (Builtin.append_ #[t, tn] ty #[.slice (some a) n cap, .int kq (q : Int)]) W KW := by
  obtain ⟨i, hi, hz, hs, hby⟩ := info_parts S.el.info
  have hpos := S.el.pos
  have hld := run_loadCells_list (P := P) W.drew a olds hsrc
  rw [hl] at hld
  have hfit := growslice_fits (need := n + q) (old := cap) (bytes := bytes) (by omega) hb
  have hr := Lib.run_append_grow_zeros (P := P) W t tn ty e i z kq kn S.el.und u.eq hi hz (some a) n cap olds (by simpa [Builtin.firstCells, hs] using hld) q h0 (by rw [hs]; exact hpos) (by omega) (by simp only [maxLen] at hm; omega)
    (by rw [hby]; have : q * bytes ≤ (n + q) * bytes := Nat.mul_le_mul_right _ (by omega); omega) (by rw [hby]; exact hfit)
  refine .of hr ?_
  have hge := grownCap_ge W (n + q) cap e
  have hcm := grownCap_le_maxLen W (n + q) cap e hm
  have hb : Below W.heap.size W (W.drew.alloc (.cells (olds.toArray ++ Builtin.zeroCells z.cells q ++ Builtin.zeroCells z.cells (grownCap W (n + q) cap e - (n + q))) e)) := ((Below.refl _ W).drew).alloc (Nat.le_refl _) _
  refine k W.heap.size _ (zerosL z (grownCap W (n + q) cap e - (n + q))) _ hge hcm (zerosL_length S.el.cells) (h.newB hb (Nat.le_refl _) ?_) ?_
  · have : (olds ++ zerosL z q ++ zerosL z (grownCap W (n + q) cap e - (n + q))).toArray = olds.toArray ++ Builtin.zeroCells z.cells q ++ Builtin.zeroCells z.cells (grownCap W (n + q) cap e - (n + q)) := by simp [zerosL]
    rw [this]
    exact World.alloc_heap_new W.drew _
  · intro j v hv
    have hc := hsrc j v hv
    rw [hb.cell (World.block_lt_of_cell? _ _ hc)]
    exact hc
/-- 'clear' a part of a block -/
theorem St.clear {t e e' ty : TypeId} {sz bytes g o n c : Nat} {z : Value} {cur : List Value} [S : SlT P t e sz bytes z] [i : Has l g (Ob (.cells cur.toArray e' (0, 0))) R] (h : St w0 G l W) (hz1 : ∀ c ∈ zerosL z n, c.oneCell' = true) (hfit : o + n * sz ≤ cur.length)
    (k : ∀ W', St w0 G (Ky g (Ob (.cells (cur.take o ++ zerosL z n ++ cur.drop (o + n * sz)).toArray e' (0, 0))) :: R) W' → KW (.tuple #[]) W') : RunV P (Builtin.clear_ #[t] ty #[.slice (some ⟨g, o, none⟩) n c]) W KW := by
  have hrc := h.rc (b := g) (t := e') (cs := cur)
  have hzl := zerosL_length (n := n) S.el.cells
  cases n with
  | zero =>
    refine .of (v := .tuple #[]) (w' := W) (by simp [Builtin.clear_, run_underlying S.el.und]) (k W ?_)
    have hz0 : zerosL z 0 = [] := List.eq_nil_of_length_eq_zero (by simpa using hzl)
    have : cur.take o ++ zerosL z 0 ++ cur.drop (o + 0 * sz) = cur := by rw [hz0]; simp
    rw [this]
    exact h.find (k := g) (X := Ob (.cells cur.toArray e' (0, 0)))
  | succ n =>
    have hst := run_storeCells_at P g o e' (zerosL z (n + 1)) 0 cur.toArray W hrc (by rw [hzl]; simpa using hfit) hz1
    refine .of (v := .tuple #[]) (w' := W.setRow g (cur.take o ++ zerosL z (n + 1) ++ cur.drop (o + (n + 1) * sz)).toArray) ?_ (k _ ?_)
    · simp only [Nat.add_zero, hzl] at hst
      have hst' : (storeCells ⟨g, o, none⟩ (Builtin.zeroCells z.cells (n + 1)).toList).run P W = _ := hst
      simp [Builtin.clear_, run_underlying S.el.und, S.el.zero, hst']
    · exact h.setB (b := g) (o := .cells cur.toArray e' (0, 0)) (Mod.setRow _ _ _) (setRow_heap W g _ _ e' (0, 0) hrc)

theorem take_len0 {α : Type} {a b : List α} {n : Nat} (h : a.length = n) : (a ++ b).take n = a := by rw [← h, List.take_left]
/-- 'append(v[:i], v[j:]...)' : what stands between is gone -/
theorem St.cutOut {t e ty : TypeId} {sz bytes g n cap i j : Nat} {z : Value} {xs : List Value} [S : SlT P t e sz bytes z] [hh : Has l (.slice (some ⟨g, 0, none⟩) n cap) (Ow e sz n xs) R] (h : St w0 G l W) (hij : i ≤ j) (hj : j ≤ n) (hx : ∀ c ∈ xs, c.oneCell' = true)
    (k : ∀ W', St w0 G (Ky (.slice (some ⟨g, 0, none⟩) (i + (n - j)) cap) (Ow e sz (i + (n - j)) (xs.take (i * sz) ++ xs.drop (j * sz))) :: R) W' → KW (.slice (some ⟨g, 0, none⟩) (i + (n - j)) cap) W') :
    RunV P (Builtin.append_ #[t, t] ty #[.slice (some ⟨g, 0, none⟩) i cap, .slice (some ⟨g, offs cap j 0 sz, none⟩) (n - j) (cap - j)]) W KW := by
  have hlen : xs.length = n * sz := (h.ow (v := .slice (some ⟨g, 0, none⟩) n cap)).1
  rcases h.openOw (v := .slice (some ⟨g, 0, none⟩) n cap) with ⟨h0, _⟩ | ⟨g', cap', cur, hv, hnc, hcm, hcl, htk, h⟩
  · cases h0
  · cases hv
    have hnl : (xs.drop (j * sz)).length = (n - j) * sz := by rw [List.length_drop, hlen, ← Nat.sub_mul]
    have hle : (i + (n - j)) * sz ≤ cap * sz := Nat.mul_le_mul_right _ (by omega)
    rw [Nat.add_mul] at hle
    refine St.appRoom (g := g) (n := i) (m := n - j) (news := xs.drop (j * sz)) h hnl (fun q x hq => ?_) (fun c hc => hx c (List.mem_of_mem_drop hc)) (by omega) (by rw [hnl, hcl]; exact hle) fun W h => ?_
    · rw [addr_add]
      have hql := (List.getElem?_eq_some_iff.1 hq).1
      rw [hnl] at hql
      have hjn : j < n := by
        rcases Nat.lt_or_ge j n with h1 | h1
        · exact h1
        · rw [show n - j = 0 by omega, Nat.zero_mul] at hql; omega
      have ho : offs cap j 0 sz = j * sz := by unfold offs; rw [if_neg (by omega), Nat.zero_add]
      rw [ho]
      rw [← htk, List.getElem?_drop, List.getElem?_take] at hq
      split at hq
      · exact h.cellOf (g := g) hq
      · cases hq
    · have hA : cur.take (i * sz) = xs.take (i * sz) := by rw [← htk, List.take_take, Nat.min_eq_left (Nat.mul_le_mul_right _ (by omega))]
      refine k W (h.shutOw (g := g) (n := i + (n - j)) (cap := cap) (xs := xs.take (i * sz) ++ xs.drop (j * sz)) (by omega) hcm ?_ ?_)
      · rw [splice_len (by rw [hnl, hcl]; exact hle), hcl]
      · rw [hA]
        refine take_len0 ?_
        rw [List.length_append, List.length_take, hlen, hnl, Nat.add_mul, Nat.min_eq_left (Nat.mul_le_mul_right _ (by omega))]

/-! ### what is owned, cut -/
def cutV : Value → Nat → Value
  | .slice a _ c, k => .slice a k c
  | v, _ => v
theorem x_cutOw {t e : TypeId} {sz bytes n k : Nat} {z v : Value} {xs : List Value} {k0 : IntKind} [S : SlT P t e sz bytes z] [i : Has l v (Ow e sz n xs) R] (h : St w0 G l W) (hk : k ≤ n) (kk : K (cutV v k)) : RunA P (Instr.sliceAt t v none (some (.int k0 (k : Int))) none) K := by
  rcases own_block_some (h.ow (v := v)) with ⟨rfl, rfl, rfl⟩ | ⟨g, cap, rfl, hnc⟩
  · obtain rfl : k = 0 := by omega
    have ht : P.underlying t = some (.slice (P.elem t)) := by rw [S.el.und]; simp [Program.elem, S.el.und]
    have hel : P.elem t = e := by simp [Program.elem, S.el.und]
    refine .of (v := .slice none 0 0) (fun w => ?_) kk
    rw [run_sliceAt_slice w t _ _ _ _ ht, run_slice_h w t none 0 0 ht k0 ((0 : Nat) : Int) (by omega) (by omega), hel, S.el.size]
    rfl
  · exact x_slH (S := S) (by omega) kk
theorem St.cutOw {e : TypeId} {sz n k : Nat} {v : Value} {xs : List Value} [i : Has l v (Ow e sz n xs) R] (h : St w0 G l W) (hk : k ≤ n) : St w0 G (Ky (cutV v k) (Ow e sz k (xs.take (k * sz))) :: R) W := by
  have hlen := (h.ow (v := v)).1
  refine (h.find (k := v) (X := Ow e sz n xs)).conv fun F hF => ?_
  have hF' : (∀ x, F x ↔ v.ownBlock = some x) ∧ W.ownsRow 0 e sz v n xs := hF
  have hl : (xs.take (k * sz)).length = k * sz := by
    rw [List.length_take, hlen]
    exact Nat.min_eq_left (Nat.mul_le_mul_right _ hk)
  rcases hF'.2.2 with ⟨rfl, rfl⟩ | ⟨g, cap, cur, rfl, hg, hh, hn, hm, hc, ht⟩
  · obtain rfl : k = 0 := by omega
    exact ⟨hF'.1, hl, .inl ⟨rfl, rfl⟩⟩
  · refine ⟨hF'.1, hl, .inr ⟨g, cap, cur, rfl, hg, hh, by omega, hm, hc, ?_⟩⟩
    rw [← ht, List.take_take, Nat.min_eq_left (Nat.mul_le_mul_right _ hk)]
/-- a part behind a place, read -/
theorem x_cutRd {t e : TypeId} {sz bytes n k : Nat} {z v : Value} {xs : List Value} {k0 : IntKind} {w1 : World} [S : SlT P t e sz bytes z] (hs : Sl w1 sz v n xs) (hk : k ≤ n) (kk : ∀ v', Sl w1 sz v' (n - k) (xs.drop (k * sz)) → K v') : RunA P (Instr.sliceAt t v (some (.int k0 (k : Int))) none none) K := by
  have hlen : xs.length = n * sz := by obtain ⟨_, _, _, _, h, _⟩ := hs; exact h
  refine a_sliceL S.el hs (by omega) (by omega) fun v' h => kk v' ?_
  simpa using h

/-! ### a slice from a place on, one by one -/
def cut1 (sz : Nat) : Value → Value
  | .slice a n c => Go.sliced a 1 n c sz
  | v => v
def cutF (v : Value) (sz : Nat) : Nat → Value
  | 0 => v
  | i + 1 => cut1 sz (cutF v sz i)
theorem Sl.cutF {w1 : World} {sz n : Nat} {v : Value} {cs : List Value} (hs : Sl w1 sz v n cs) : ∀ {i : Nat}, i ≤ n → Sl w1 sz (cutF v sz i) (n - i) (cs.drop (i * sz))
  | 0, _ => by rw [Nat.zero_mul]; exact hs
  | i + 1, hi => by
    have h := Sl.cutF hs (i := i) (by omega)
    have h0 := h
    obtain ⟨ao, cap, hv, hnc, hl, hc, hnil⟩ := h
    unfold Go.Ez.cutF
    rw [hv] at h0 ⊢
    have := h0.sliced (lo := 1) (hi := n - i) (by omega) (Nat.le_refl _)
    rw [Nat.one_mul, List.drop_drop, List.take_of_length_le (by
      rw [List.length_drop]
      have hcl : cs.length = n * sz := by obtain ⟨_, _, _, _, h, _⟩ := hs; exact h
      rw [hcl, show i * sz + sz = (i + 1) * sz by rw [Nat.add_mul, Nat.one_mul], ← Nat.sub_mul, show n - (i + 1) = n - i - 1 by omega]
      exact Nat.le_refl _)] at this
    rw [show n - (i + 1) = n - i - 1 by omega, show (i + 1) * sz = i * sz + sz by rw [Nat.add_mul, Nat.one_mul]]
    exact this
theorem x_cutF {t e : TypeId} {sz bytes n i : Nat} {z v : Value} {cs : List Value} {k0 : IntKind} {w1 : World} [S : SlT P t e sz bytes z] (hs : Sl w1 sz v n cs) (hi : i + 1 ≤ n) (k : K (cutF v sz (i + 1))) : RunA P (Instr.sliceAt t (cutF v sz i) (some (.int k0 1)) none none) K := by
  obtain ⟨ao, cap, hv, hnc, hl, hc, hnil⟩ := hs.cutF (i := i) (by omega)
  have ht : P.underlying t = some (.slice (P.elem t)) := by rw [S.el.und]; simp [Program.elem, S.el.und]
  have hel : P.elem t = e := by simp [Program.elem, S.el.und]
  have k' : K (cut1 sz (cutF v sz i)) := k
  rw [hv] at k' ⊢
  refine .of (fun w => ?_) k'
  rw [run_sliceAt_slice w t _ _ _ _ ht, run_slice_l w t _ (n - i) cap ht k0 1 (by omega) (by omega), hel, S.el.size]
  rfl

/-! ### elements that are read -/
theorem x_idx {t e : TypeId} {sz bytes n i : Nat} {z v : Value} {k0 : IntKind} {cs : List Value} {w1 : World} [S : SlT P t e sz bytes z] (hs : Sl w1 sz v n cs) (hi : i < n)
    (k : ∀ b o, (∀ j u, j < sz → cs[i * sz + j]? = some u → w1.cell? ⟨b, o + j, none⟩ = some u) → K (.pointer (some ⟨b, o, none⟩))) : RunA P (Instr.indexAt t v (.int k0 (i : Int))) K :=
  a_indexS S.el.und S.el.size S.el.pos hs (by omega) (by omega) fun b o h => k b o (by simpa using h)
theorem x_lds {e : TypeId} {b o sz : Nat} {cs zs : List Value} [T : TyS P e sz zs] (hl : cs.length = sz) (hc : ∀ j u, cs[j]? = some u → W.cell? ⟨b, o + j, none⟩ = some u) (k : K (.agg cs.toArray)) : RunW P (Instr.loadAt e (.pointer (some ⟨b, o, none⟩))) W K :=
  .of (by
    have := run_loadCells_list (P := P) W ⟨b, o, none⟩ cs (fun j v hj => by rw [addr_add]; exact hc j v hj)
    rw [hl] at this
    simp [Instr.loadAt, Instr.sureAddr, loadVar, T.agg, T.size, this]) k
theorem x_ld {t : TypeId} {b o : Nat} {v z : Value} [T : Ty1 P t z] (hc : W.cell? ⟨b, o, none⟩ = some v) (k : K v) : RunW P (Instr.loadAt t (.pointer (some ⟨b, o, none⟩))) W K := w_load T.agg hc k
theorem x_sld {S : World → Prop} {t : TypeId} {b o : Nat} {v z : Value} [T : Ty1 P t z] (hc : ∀ w, S w → w.cell? ⟨b, o, none⟩ = some v) (k : K v) : RunS P S (Instr.loadAt t (.pointer (some ⟨b, o, none⟩))) K := s_load T.agg hc k
/-- one cell each -/
theorem x_at {t e : TypeId} {bytes n i : Nat} {z v : Value} {k0 : IntKind} {cs : List Value} {u z' : Value} [S : SlT P t e 1 bytes z] [T : Ty1 P e z'] (hs : Sl W 1 v n cs) (hu : cs[i]? = some u) (k : K u) : RunA P (Instr.indexAt t v (.int k0 (i : Int))) fun p => RunW P (Instr.loadAt e p) W K := by
  have hi : i < n := by
    obtain ⟨_, _, _, _, hl, _⟩ := hs
    have := (List.getElem?_eq_some_iff.1 hu).1
    omega
  refine x_idx hs hi fun b o hc => x_ld (hc 0 u (by omega) (by simpa using hu)) k
theorem x_sat {S' : World → Prop} {w1 : World} {t e : TypeId} {bytes n i : Nat} {z v : Value} {k0 : IntKind} {cs : List Value} {u z' : Value} [S : SlT P t e 1 bytes z] [T : Ty1 P e z'] (hs : Sl w1 1 v n cs) (hS : ∀ w, S' w → Sl w 1 v n cs) (hu : cs[i]? = some u) (k : K u) : RunA P (Instr.indexAt t v (.int k0 (i : Int))) fun p => RunS P S' (Instr.loadAt e p) K := by
  obtain ⟨ao, cap, rfl, hnc, hl, hc, _⟩ := hs
  have hlt := (List.getElem?_eq_some_iff.1 hu).1
  obtain ⟨b, o, rfl, h2⟩ := hc i u hu
  refine a_indexAt S.el.und S.el.size (by omega) (by omega) ?_
  rw [Int.toNat_natCast, Nat.mul_one]
  refine x_sld (fun w hw => ?_) k
  obtain ⟨ao', cap', e1, _, _, hc', _⟩ := hS w hw
  cases e1
  obtain ⟨b', o', e2, e3⟩ := hc' i u hu
  cases e2
  exact e3

/-- a field of an element -/
theorem x_fld {t e t' : TypeId} {sz bytes n i f off : Nat} {z z' v u : Value} {k0 : IntKind} {cs : List Value} [S : SlT P t e sz bytes z] [F : Fld P e f off] [T : Ty1 P t' z'] (hs : Sl W sz v n cs) (hi : i < n) (ho : off < sz) (hu : cs[i * sz + off]? = some u) (k : K u) :
    RunA P (Instr.indexAt t v (.int k0 (i : Int))) fun p => RunA P (Instr.fieldAt e p f) fun q => RunW P (Instr.loadAt t' q) W K :=
  x_idx hs hi fun b o hc => a_fld (x_ld (hc off u ho hu) k)
theorem x_sfld {S' : World → Prop} {w1 : World} {t e t' : TypeId} {sz bytes n i f off : Nat} {z z' v u : Value} {k0 : IntKind} {cs : List Value} [S : SlT P t e sz bytes z] [F : Fld P e f off] [T : Ty1 P t' z'] (hs : Sl w1 sz v n cs) (hS : ∀ w, S' w → Sl w sz v n cs) (hi : i < n) (ho : off < sz) (hu : cs[i * sz + off]? = some u) (k : K u) :
    RunA P (Instr.indexAt t v (.int k0 (i : Int))) fun p => RunA P (Instr.fieldAt e p f) fun q => RunS P S' (Instr.loadAt t' q) K := by
  obtain ⟨ao, cap, rfl, hnc, hl, hc, _⟩ := hs
  obtain ⟨b, o, rfl, h2⟩ := hc _ u hu
  refine a_indexAt S.el.und S.el.size (by omega) (by omega) ?_
  rw [Int.toNat_natCast]
  refine a_fld ?_
  refine x_sld (fun w hw => ?_) k
  obtain ⟨ao', cap', e1, _, _, hc', _⟩ := hS w hw
  cases e1
  obtain ⟨b', o', e2, e3⟩ := hc' _ u hu
  cases e2
  rw [Nat.add_assoc]
  exact e3

/-! ### functions -/
theorem callV_fn {g : Nat} {args : Array Value} (he : Enters P g) (h : CallF P g args W KW) : CallV P (.func (.func g) #[] #[]) args W KW := .inl ⟨g, #[], #[], rfl, he, by simpa using h⟩
theorem callV_cl {g : Nat} {args lb : Array Value} (he : Enters P g) (h : CallF P g (args ++ lb) W KW) : CallV P (.func (.func g) #[] lb) args W KW := .inl ⟨g, #[], lb, rfl, he, by simpa using h⟩
theorem callV_bd {g : Nat} {args fs : Array Value} (he : Enters P g) (h : CallF P g (fs ++ args) W KW) : CallV P (.func (.func g) fs #[]) args W KW := .inl ⟨g, fs, #[], rfl, he, by simpa using h⟩

/-! ### texts held against one another -/
theorem s_neqL {S : World → Prop} {t : TypeId} {X Y : Operand} {a b : List UInt8} (h : K (.bool (decide (a ≠ b)))) : RunS P S (bin .neq t X Y (.string ⟨a.toArray⟩) (.string ⟨b.toArray⟩)) K :=
  ⟨_, fun w _ => by
    obtain ⟨v, hv, hk⟩ := w_neqL (P := P) (w := w) (K := fun v => v = .bool (decide (a ≠ b))) (t := t) (X := X) (Y := Y) (a := a) (b := b) rfl
    rw [hv, hk], h⟩
theorem x_lssL {t : TypeId} {X Y : Operand} {a b : List UInt8} (h : K (.bool (Op.bytesLess a b))) : RunA P (bin .lss t X Y (.string ⟨a.toArray⟩) (.string ⟨b.toArray⟩)) K :=
  .of (fun w => by simp [bin, eqGuard, binOp, Op.stringOp, ByteArray.toList_mk]) h
theorem x_geqL {t : TypeId} {X Y : Operand} {a b : List UInt8} (h : K (.bool (!Op.bytesLess a b))) : RunA P (bin .geq t X Y (.string ⟨a.toArray⟩) (.string ⟨b.toArray⟩)) K :=
  .of (fun w => by simp [bin, eqGuard, binOp, Op.stringOp, ByteArray.toList_mk]) h
theorem x_gtrL0 {t : TypeId} {X Y : Operand} {a b : List UInt8} (h : K (.bool (!(Op.bytesLess a b || a == b)))) : RunA P (bin .gtr t X Y (.string ⟨a.toArray⟩) (.string ⟨b.toArray⟩)) K :=
  .of (fun w => by simp [bin, eqGuard, binOp, Op.stringOp, ByteArray.toList_mk]) h
theorem x_leqL0 {t : TypeId} {X Y : Operand} {a b : List UInt8} (h : K (.bool (Op.bytesLess a b || a == b))) : RunA P (bin .leq t X Y (.string ⟨a.toArray⟩) (.string ⟨b.toArray⟩)) K :=
  .of (fun w => by simp [bin, eqGuard, binOp, Op.stringOp, ByteArray.toList_mk]) h
end
end Go.Ez
