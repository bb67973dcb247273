/-
  VERSIONS: pairs taken, held against one another; the law's operations: what each function answers.
-/
import Derived.Test.YtffnabbchghokaaVerD
namespace Go.Proofs.Ytffnabbchghokaa
open Go Go.Ez Go.RowKit
set_option linter.unusedSimpArgs false
set_option linter.unusedVariables false

/-- an operation of the law -/
structure VOp where
  kind : Int
  at_ : Int
  key : Txt
  v : Txt
  hi : Txt
def VOp.cells (o : VOp) : List Value := [.int .i64 o.kind, .int .i64 o.at_, strV o.key, strV o.v, strV o.hi]
abbrev vopsC (l : List VOp) : List Value := rcells VOp.cells l
theorem vops_get {l : List VOp} {i j : Nat} {o : VOp} (h : l[i]? = some o) (hj : j < 5) : (vopsC l)[i * 5 + j]? = (VOp.cells o)[j]? := rc_get (f := VOp.cells) (sz := 5) (fun _ => rfl) h hj
/-- the rows behind a put -/
def putR (rows : VRows Txt) (low : Int) (o : VOp) : VRows Txt := if o.kind = 0 then (addR rows low o.key (o.at_, o.v, false)).2 else if o.kind = 1 then (addR rows low o.key (o.at_, [], true)).2 else rows

/-- what Pairs has taken -/
def PsC (bn bl : Nat) (n : Int) (ps : List (Txt × Txt)) (i : Nat) : As := As.ex fun v : Value => As.all True [Ky bn (Ob (.cells [(.int .i64 n : Value)].toArray 3 (0, 0))), Ky bl (Ob (.cells [v].toArray 41 (0, 0))), Ky v (Ow 50 2 i (pcells (ps.take i)))]

section
variable {w0 W W' : World} {G : Nat → Prop} {l R R1 : List As} {rs : Rsvs} {low : Int} {v : Value} {RR : Value → World → Prop} {kp : List (Value × List (Ver Txt))}

/-- hbllaw11.Pairs -/
theorem vpairs_spec {f : Value} {A : Value → As} {ps : List (Txt × Txt)} {n : Int} [i : Has l f A R] (hI : Itr Try.prog w0 G f (tellP ps) A) (h : St w0 G l W) (hl : ps.length ≤ 1000000)
    (k : ∀ v W', Cel1 v → St w0 G (Ky v (Ow 50 2 (ps.take n.toNat).length (pcells (ps.take n.toNat))) :: Ky f A :: R) W' → RR v W') :
    CallF Try.prog 24 #[f, .int .i64 n] W RR := by
  refine sh24_calls ?_
  unfold sh24
  obtain ⟨gf, lb, rfl, _⟩ := id hI
  replace h := h.find (k := (.func (.func gf) #[] lb : Value)) (X := A)
  refine h.boxV fun bn W h => ?_
  refine h.alloc fun bl W h => ?_
  (repeat (first | (with_reducible refine ift ?_) | (with_reducible refine iff' ?_) | (with_reducible refine a_lss ?_) | (with_reducible refine a_leq ?_) | (with_reducible refine a_gtr ?_) | (with_reducible refine a_geq ?_) | (with_reducible refine w_eql ?_) | (with_reducible refine w_neq ?_) | (with_reducible refine s_eql ?_) | (with_reducible refine s_neq ?_) | ((with_reducible refine a_add64 ?h0 ?h1 ?_); (case h0 => omega); (case h1 => omega);  skip) | ((with_reducible refine a_sub64 ?h0 ?h1 ?_); (case h0 => omega); (case h1 => omega);  skip) | ((with_reducible refine a_mul64 ?h0 ?h1 ?_); (case h0 => omega); (case h1 => omega);  skip) | (with_reducible refine a_notd ?_) | (with_reducible refine a_not ?_) | (with_reducible refine a_ext0 ?_) | (with_reducible refine a_ext1 ?_) | (with_reducible refine a_ext2 ?_) | (with_reducible refine x_len ?_) | (with_reducible refine x_lens ?_) | (with_reducible refine x_eqb ?_) | (with_reducible refine x_neb ?_) | (with_reducible refine x_nilP ?_) | (with_reducible refine x_nilPn ?_) | (with_reducible refine x_nilF ?_) | (with_reducible refine x_nilFF ?_) | (with_reducible refine w_eqlL ?_) | (with_reducible refine w_neqL ?_) | (with_reducible refine s_eqlL ?_) | (with_reducible refine ifnt ?_) | (with_reducible refine ifnf ?_) | (with_reducible refine x_eqB ?_) | (with_reducible refine x_neB ?_) | (with_reducible refine x_lssL ?_) | (with_reducible refine x_gtrL ?_) | (with_reducible refine x_geqL ?_) | (with_reducible refine s_neqL ?_) | (with_reducible refine St.load h ?_) | (with_reducible refine St.loadS h ?_) | (with_reducible refine a_fld0 ?_) | (with_reducible refine St.store h fun W h => ?_) | (with_reducible refine St.storeS h fun W h => ?_) | (with_reducible refine St.alloc h fun b W h => ?_) | (with_reducible refine St.allocS h fun b W h => ?_) | (with_reducible refine a_nil ?_) | (with_reducible refine ss_load ?_) | (with_reducible refine ss_loadS ?_) | (with_reducible refine ss_eqb ?_)))
  refine ifd (fun hc => ?_) fun hc => ?_
  · have e : n.toNat = 0 := by omega
    simp only [e, List.take_zero, List.length_nil, show pcells ([] : List (Txt × Txt)) = [] from rfl] at k
    exact k _ W ⟨rfl⟩ (h.nilOw (e := 50) (sz := 2)).to
  have hlen : ∀ x ∈ tellP ps, x.length = 2 := by
    intro x hx
    obtain ⟨k, _, rfl⟩ := List.mem_map.1 hx
    rfl
  have hnil : St w0 G (Ky (.slice none 0 0) (Ow 50 2 0 (pcells (ps.take 0))) :: _) W := h.nilOw
  refine rngI (C := fun i => As.all ((i : Int) < n) [PsC bn bl n ps i]) (fun c i => As.all (c = .exit 0 ∧ (i : Int) = n) [PsC bn bl n ps i]) hI hlen (l := R) ?_ ?_ ?_ ?_
  · exact St.shut1 (by omega) (St.shutE (.slice none 0 0) (St.shut3 trivial hnil.to))
  · intro i x hxi ll rec I' W kn kst h hn hk
    obtain ⟨p, hp, rfl⟩ : ∃ p, ps[i]? = some p ∧ x = [strV p.1, strV p.2] := by
      rw [List.getElem?_map] at hxi
      cases hk0 : ps[i]? with
      | none => rw [hk0] at hxi; cases hxi
      | some k0 => rw [hk0] at hxi; cases hxi; exact ⟨k0, rfl, rfl⟩
    have hil := (List.getElem?_eq_some_iff.1 hp).1
    refine app2 ?_
    refine ⟨h.ob (b := ll), ?_⟩
    replace h := h.putO (b := ll) (o := .loop (rec .ready none)) (.loop (rec .busy none))
    have h' := h.find (k := i) (X := fun i : Nat => As.all ((i : Int) < n) [PsC bn bl n ps i])
    clear h
    obtain ⟨hin, h⟩ := St.open1 h'
    obtain ⟨v, h⟩ := St.openE h
    replace h := (St.open3 h).2
    have ov : Cel1 v := .of_own (h.ow (v := v))
    refine app4 ?_
    (repeat (first | (with_reducible refine ift ?_) | (with_reducible refine iff' ?_) | (with_reducible refine a_lss ?_) | (with_reducible refine a_leq ?_) | (with_reducible refine a_gtr ?_) | (with_reducible refine a_geq ?_) | (with_reducible refine w_eql ?_) | (with_reducible refine w_neq ?_) | (with_reducible refine s_eql ?_) | (with_reducible refine s_neq ?_) | ((with_reducible refine a_add64 ?h0 ?h1 ?_); (case h0 => omega); (case h1 => omega);  skip) | ((with_reducible refine a_sub64 ?h0 ?h1 ?_); (case h0 => omega); (case h1 => omega);  skip) | ((with_reducible refine a_mul64 ?h0 ?h1 ?_); (case h0 => omega); (case h1 => omega);  skip) | (with_reducible refine a_notd ?_) | (with_reducible refine a_not ?_) | (with_reducible refine a_ext0 ?_) | (with_reducible refine a_ext1 ?_) | (with_reducible refine a_ext2 ?_) | (with_reducible refine x_len ?_) | (with_reducible refine x_lens ?_) | (with_reducible refine x_eqb ?_) | (with_reducible refine x_neb ?_) | (with_reducible refine x_nilP ?_) | (with_reducible refine x_nilPn ?_) | (with_reducible refine x_nilF ?_) | (with_reducible refine x_nilFF ?_) | (with_reducible refine w_eqlL ?_) | (with_reducible refine w_neqL ?_) | (with_reducible refine s_eqlL ?_) | (with_reducible refine ifnt ?_) | (with_reducible refine ifnf ?_) | (with_reducible refine x_eqB ?_) | (with_reducible refine x_neB ?_) | (with_reducible refine x_lssL ?_) | (with_reducible refine x_gtrL ?_) | (with_reducible refine x_geqL ?_) | (with_reducible refine s_neqL ?_) | (with_reducible refine St.load h ?_) | (with_reducible refine St.loadS h ?_) | (with_reducible refine a_fld0 ?_) | (with_reducible refine St.store h fun W h => ?_) | (with_reducible refine St.storeS h fun W h => ?_) | (with_reducible refine St.alloc h fun b W h => ?_) | (with_reducible refine St.allocS h fun b W h => ?_) | (with_reducible refine a_nil ?_) | (with_reducible refine ss_load ?_) | (with_reducible refine ss_loadS ?_) | (with_reducible refine ss_eqb ?_)))
    refine x_bld (cells := [strV p.1, strV p.2].toArray) rfl ?_
    refine h.lit (vs := [.agg [strV p.1, strV p.2].toArray]) (cs := [strV p.1, strV p.2]) (fun u2 W o2 h => ?_) (by decide)
    refine St.app (v := v) h (h.osl (v := u2)) (by simp [Value.oneCell']) (by unfold maxLen; omega) (by omega) fun v' W o' h _ => ?_
    have e : pcells (ps.take i) ++ [strV p.1, strV p.2] = pcells (ps.take (i + 1)) := by
      rw [List.take_add_one, hp, pcells_append]; rfl
    rw [e] at h
    (repeat (first | (with_reducible refine ift ?_) | (with_reducible refine iff' ?_) | (with_reducible refine a_lss ?_) | (with_reducible refine a_leq ?_) | (with_reducible refine a_gtr ?_) | (with_reducible refine a_geq ?_) | (with_reducible refine w_eql ?_) | (with_reducible refine w_neq ?_) | (with_reducible refine s_eql ?_) | (with_reducible refine s_neq ?_) | ((with_reducible refine a_add64 ?h0 ?h1 ?_); (case h0 => omega); (case h1 => omega);  skip) | ((with_reducible refine a_sub64 ?h0 ?h1 ?_); (case h0 => omega); (case h1 => omega);  skip) | ((with_reducible refine a_mul64 ?h0 ?h1 ?_); (case h0 => omega); (case h1 => omega);  skip) | (with_reducible refine a_notd ?_) | (with_reducible refine a_not ?_) | (with_reducible refine a_ext0 ?_) | (with_reducible refine a_ext1 ?_) | (with_reducible refine a_ext2 ?_) | (with_reducible refine x_len ?_) | (with_reducible refine x_lens ?_) | (with_reducible refine x_eqb ?_) | (with_reducible refine x_neb ?_) | (with_reducible refine x_nilP ?_) | (with_reducible refine x_nilPn ?_) | (with_reducible refine x_nilF ?_) | (with_reducible refine x_nilFF ?_) | (with_reducible refine w_eqlL ?_) | (with_reducible refine w_neqL ?_) | (with_reducible refine s_eqlL ?_) | (with_reducible refine ifnt ?_) | (with_reducible refine ifnf ?_) | (with_reducible refine x_eqB ?_) | (with_reducible refine x_neB ?_) | (with_reducible refine x_lssL ?_) | (with_reducible refine x_gtrL ?_) | (with_reducible refine x_geqL ?_) | (with_reducible refine s_neqL ?_) | (with_reducible refine St.load h ?_) | (with_reducible refine St.loadS h ?_) | (with_reducible refine a_fld0 ?_) | (with_reducible refine St.store h fun W h => ?_) | (with_reducible refine St.storeS h fun W h => ?_) | (with_reducible refine St.alloc h fun b W h => ?_) | (with_reducible refine St.allocS h fun b W h => ?_) | (with_reducible refine a_nil ?_) | (with_reducible refine ss_load ?_) | (with_reducible refine ss_loadS ?_) | (with_reducible refine ss_eqb ?_)))
    refine x_lenS (h.osl (v := v')) ?_
    (repeat (first | (with_reducible refine ift ?_) | (with_reducible refine iff' ?_) | (with_reducible refine a_lss ?_) | (with_reducible refine a_leq ?_) | (with_reducible refine a_gtr ?_) | (with_reducible refine a_geq ?_) | (with_reducible refine w_eql ?_) | (with_reducible refine w_neq ?_) | (with_reducible refine s_eql ?_) | (with_reducible refine s_neq ?_) | ((with_reducible refine a_add64 ?h0 ?h1 ?_); (case h0 => omega); (case h1 => omega);  skip) | ((with_reducible refine a_sub64 ?h0 ?h1 ?_); (case h0 => omega); (case h1 => omega);  skip) | ((with_reducible refine a_mul64 ?h0 ?h1 ?_); (case h0 => omega); (case h1 => omega);  skip) | (with_reducible refine a_notd ?_) | (with_reducible refine a_not ?_) | (with_reducible refine a_ext0 ?_) | (with_reducible refine a_ext1 ?_) | (with_reducible refine a_ext2 ?_) | (with_reducible refine x_len ?_) | (with_reducible refine x_lens ?_) | (with_reducible refine x_eqb ?_) | (with_reducible refine x_neb ?_) | (with_reducible refine x_nilP ?_) | (with_reducible refine x_nilPn ?_) | (with_reducible refine x_nilF ?_) | (with_reducible refine x_nilFF ?_) | (with_reducible refine w_eqlL ?_) | (with_reducible refine w_neqL ?_) | (with_reducible refine s_eqlL ?_) | (with_reducible refine ifnt ?_) | (with_reducible refine ifnf ?_) | (with_reducible refine x_eqB ?_) | (with_reducible refine x_neB ?_) | (with_reducible refine x_lssL ?_) | (with_reducible refine x_gtrL ?_) | (with_reducible refine x_geqL ?_) | (with_reducible refine s_neqL ?_) | (with_reducible refine St.load h ?_) | (with_reducible refine St.loadS h ?_) | (with_reducible refine a_fld0 ?_) | (with_reducible refine St.store h fun W h => ?_) | (with_reducible refine St.storeS h fun W h => ?_) | (with_reducible refine St.alloc h fun b W h => ?_) | (with_reducible refine St.allocS h fun b W h => ?_) | (with_reducible refine a_nil ?_) | (with_reducible refine ss_load ?_) | (with_reducible refine ss_loadS ?_) | (with_reducible refine ss_eqb ?_)))
    refine ifd (fun hc => ?_) fun hc => ?_
    · exact hk (.exit 0) W (St.swap (St.shut1 ⟨rfl, hc⟩ (St.shutE v' (St.shut3 trivial h.to))))
    · exact hn W (St.swap (St.shut1 (by omega) (St.shutE v' (St.shut3 trivial h.to))))
  · intro DD W h
    obtain ⟨hin, h⟩ := St.open1 h.swap
    obtain ⟨v, h⟩ := St.openE h
    replace h := (St.open3 h).2
    rw [List.length_map] at hin h
    (repeat (first | (with_reducible refine ift ?_) | (with_reducible refine iff' ?_) | (with_reducible refine a_lss ?_) | (with_reducible refine a_leq ?_) | (with_reducible refine a_gtr ?_) | (with_reducible refine a_geq ?_) | (with_reducible refine w_eql ?_) | (with_reducible refine w_neq ?_) | (with_reducible refine s_eql ?_) | (with_reducible refine s_neq ?_) | ((with_reducible refine a_add64 ?h0 ?h1 ?_); (case h0 => omega); (case h1 => omega);  skip) | ((with_reducible refine a_sub64 ?h0 ?h1 ?_); (case h0 => omega); (case h1 => omega);  skip) | ((with_reducible refine a_mul64 ?h0 ?h1 ?_); (case h0 => omega); (case h1 => omega);  skip) | (with_reducible refine a_notd ?_) | (with_reducible refine a_not ?_) | (with_reducible refine a_ext0 ?_) | (with_reducible refine a_ext1 ?_) | (with_reducible refine a_ext2 ?_) | (with_reducible refine x_len ?_) | (with_reducible refine x_lens ?_) | (with_reducible refine x_eqb ?_) | (with_reducible refine x_neb ?_) | (with_reducible refine x_nilP ?_) | (with_reducible refine x_nilPn ?_) | (with_reducible refine x_nilF ?_) | (with_reducible refine x_nilFF ?_) | (with_reducible refine w_eqlL ?_) | (with_reducible refine w_neqL ?_) | (with_reducible refine s_eqlL ?_) | (with_reducible refine ifnt ?_) | (with_reducible refine ifnf ?_) | (with_reducible refine x_eqB ?_) | (with_reducible refine x_neB ?_) | (with_reducible refine x_lssL ?_) | (with_reducible refine x_gtrL ?_) | (with_reducible refine x_geqL ?_) | (with_reducible refine s_neqL ?_) | (with_reducible refine St.load h ?_) | (with_reducible refine St.loadS h ?_) | (with_reducible refine a_fld0 ?_) | (with_reducible refine St.store h fun W h => ?_) | (with_reducible refine St.storeS h fun W h => ?_) | (with_reducible refine St.alloc h fun b W h => ?_) | (with_reducible refine St.allocS h fun b W h => ?_) | (with_reducible refine a_nil ?_) | (with_reducible refine ss_load ?_) | (with_reducible refine ss_loadS ?_) | (with_reducible refine ss_eqb ?_)))
    refine ⟨h.ob (b := DD), ?_⟩
    have ov : Cel1 v := .of_own (h.ow (v := v))
    replace h := h.putO (b := DD) (o := .deferred (some [])) (.deferred none)
    rw [List.take_length] at h
    have e : ps.take n.toNat = ps := List.take_of_length_le (by omega)
    rw [e] at k
    exact k v _ ov h.to
  · intro DD c i W hi h
    obtain ⟨⟨hcc, hin⟩, h2⟩ := St.open1 h.swap
    subst hcc
    clear h
    obtain ⟨v, h⟩ := St.openE h2
    replace h := (St.open3 h).2
    show RunW _ _ _ _
    (repeat (first | (with_reducible refine ift ?_) | (with_reducible refine iff' ?_) | (with_reducible refine a_lss ?_) | (with_reducible refine a_leq ?_) | (with_reducible refine a_gtr ?_) | (with_reducible refine a_geq ?_) | (with_reducible refine w_eql ?_) | (with_reducible refine w_neq ?_) | (with_reducible refine s_eql ?_) | (with_reducible refine s_neq ?_) | ((with_reducible refine a_add64 ?h0 ?h1 ?_); (case h0 => omega); (case h1 => omega);  skip) | ((with_reducible refine a_sub64 ?h0 ?h1 ?_); (case h0 => omega); (case h1 => omega);  skip) | ((with_reducible refine a_mul64 ?h0 ?h1 ?_); (case h0 => omega); (case h1 => omega);  skip) | (with_reducible refine a_notd ?_) | (with_reducible refine a_not ?_) | (with_reducible refine a_ext0 ?_) | (with_reducible refine a_ext1 ?_) | (with_reducible refine a_ext2 ?_) | (with_reducible refine x_len ?_) | (with_reducible refine x_lens ?_) | (with_reducible refine x_eqb ?_) | (with_reducible refine x_neb ?_) | (with_reducible refine x_nilP ?_) | (with_reducible refine x_nilPn ?_) | (with_reducible refine x_nilF ?_) | (with_reducible refine x_nilFF ?_) | (with_reducible refine w_eqlL ?_) | (with_reducible refine w_neqL ?_) | (with_reducible refine s_eqlL ?_) | (with_reducible refine ifnt ?_) | (with_reducible refine ifnf ?_) | (with_reducible refine x_eqB ?_) | (with_reducible refine x_neB ?_) | (with_reducible refine x_lssL ?_) | (with_reducible refine x_gtrL ?_) | (with_reducible refine x_geqL ?_) | (with_reducible refine s_neqL ?_) | (with_reducible refine St.load h ?_) | (with_reducible refine St.loadS h ?_) | (with_reducible refine a_fld0 ?_) | (with_reducible refine St.store h fun W h => ?_) | (with_reducible refine St.storeS h fun W h => ?_) | (with_reducible refine St.alloc h fun b W h => ?_) | (with_reducible refine St.allocS h fun b W h => ?_) | (with_reducible refine a_nil ?_) | (with_reducible refine ss_load ?_) | (with_reducible refine ss_loadS ?_) | (with_reducible refine ss_eqb ?_)))
    refine ⟨h.ob (b := DD), ?_⟩
    have ov : Cel1 v := .of_own (h.ow (v := v))
    replace h := h.putO (b := DD) (o := .deferred (some [])) (.deferred none)
    rw [List.length_map] at hi
    have e : n.toNat = i := by omega
    rw [e, List.length_take, Nat.min_eq_left hi] at k
    exact k v _ ov h.to

/-- hblref.Pairs -/
theorem pairsEq_spec {xs ys : List (Txt × Txt)} {a b : Value} {n m : Nat} (ha : Sl W 2 a n (pcells xs)) (hb : Sl W 2 b m (pcells ys)) (hn : n = xs.length) (hm : m = ys.length) (hl : xs.length ≤ 100000000000) (k : ∀ W', Below W.heap.size W W' → RR (.bool (decide (xs = ys))) W') :
    CallF Try.prog 27 #[a, b] W RR := by
  refine sh27_calls ?_
  unfold sh27
  subst hn; subst hm
  refine x_lenS ha (x_lenS hb ?_)
  refine w_neq (ifd (fun hne => ?_) fun heq => ?_)
  · have := k W (Below.refl _ _)
    rw [decide_eq_false (fun e => hne (by rw [e]))] at this
    exact this
  have hel : ys.length = xs.length := by omega
  refine lpx (α := Nat) (fun i => [nV .i64 i]) (fun i W' => i ≤ xs.length ∧ xs.take i = ys.take i ∧ Below W.heap.size W W') (fun i => xs.length - i) 0 (fun _ => rfl) rfl ⟨Nat.zero_le _, rfl, Below.refl _ _⟩ ?_
  rintro next i W1 hnext ⟨hi, he, hb1⟩
  refine app1 ?_
  refine x_lenS ha ?_
  refine a_lss (ifd (fun hc => ?_) fun hc => ?_)
  · obtain ⟨d, hd⟩ : ∃ d, xs[i]? = some d := ⟨_, List.getElem?_eq_getElem (by omega)⟩
    obtain ⟨e, hee⟩ : ∃ d, ys[i]? = some d := ⟨_, List.getElem?_eq_getElem (by omega)⟩
    have hb2 : Below W.heap.size W W1.drew := hb1.drew
    refine ⟨fun W2 => W2 = _, rfl, ?_⟩
    have ga := pcells_get hd
    have gb := pcells_get hee
    refine x_sfld (ha.below hb2) (fun _ e => by subst e; exact ha.below hb2) (by omega) (by decide) ga.1 ?_
    refine x_sfld (hb.below hb2) (fun _ e => by subst e; exact hb.below hb2) (by omega) (by decide) gb.1 ?_
    refine s_neqL (ifd (fun hne => ?_) fun heq1 => ?_)
    · have := k _ hb2
      rw [decide_eq_false (fun e => hne (by rw [e, hee] at hd; cases hd; rfl))] at this
      exact this
    refine x_sfld (ha.below hb2) (fun _ e => by subst e; exact ha.below hb2) (by omega) (by decide) ga.2 ?_
    refine x_sfld (hb.below hb2) (fun _ e => by subst e; exact hb.below hb2) (by omega) (by decide) gb.2 ?_
    refine s_neqL (ifd (fun hne => ?_) fun heq2 => ?_)
    · have := k _ hb2
      rw [decide_eq_false (fun e => hne (by rw [e, hee] at hd; cases hd; rfl))] at this
      exact this
    have hde : d = e := Prod.ext (Classical.not_not.1 heq1) (Classical.not_not.1 heq2)
    refine a_add64 (by omega) (by omega) ⟨rfl, rfl, ?_⟩
    rw [show ((i : Int) + 1) = ((i + 1 : Nat) : Int) by push_cast; rfl]
    refine hnext (i + 1) _ (by omega) ⟨by omega, ?_, hb2⟩
    rw [List.take_add_one, List.take_add_one, hd, hee, he, hde]
  · have hil : i = xs.length := by omega
    subst hil
    rw [List.take_length, ← hel, List.take_length] at he
    have := k _ hb1
    rw [decide_eq_true he] at this
    exact this

/-- hbllaw11.few -/
theorem vfew_spec {ops : List VOp} {v : Value} {n : Nat} (hv : Sl W 5 v n (vopsC ops)) (hn : n = ops.length) (k : ∀ b, (b = true → ops.length ≤ 300) → RR (.bool b) W) :
    CallF Try.prog 21 #[v] W RR := by
  refine sh21_calls ?_
  unfold sh21
  subst hn
  refine jni (fun vs W' => vs = [v] ∧ W' = W) ?_ ?_
  · rintro vs W' _ ⟨rfl, rfl⟩
    refine app1 ?_
    refine x_lenS hv (a_leq ?_)
    exact k _ fun h => by have := of_decide_eq_true h; omega
  refine lpx (α := Nat) (fun i => [nV .i64 i]) (fun i W' => i ≤ ops.length ∧ i ≤ 300 ∧ W' = W) (fun i => ops.length - i) 0 (fun _ => rfl) rfl ⟨Nat.zero_le _, Nat.zero_le _, rfl⟩ ?_
  rintro next i W1 hnext ⟨hi, hi3, rfl⟩
  refine app1 ?_
  refine x_lenS hv ?_
  refine a_lss (ifd (fun hc => ?_) fun hc => ?_)
  · refine a_lss (ifd (fun hc3 => ?_) fun hc3 => ?_)
    · obtain ⟨o, ho⟩ : ∃ d, ops[i]? = some d := ⟨_, List.getElem?_eq_getElem (by omega)⟩
      refine x_fld hv (by omega) (by decide) ((vops_get ho (j := 2) (by decide)).trans rfl) ?_
      refine x_len (a_gtr (ifd (fun _ => k false fun h => by cases h) fun _ => ?_))
      refine x_fld hv (by omega) (by decide) ((vops_get ho (j := 3) (by decide)).trans rfl) ?_
      refine x_len (a_gtr (ifd (fun _ => k false fun h => by cases h) fun _ => ?_))
      refine x_fld hv (by omega) (by decide) ((vops_get ho (j := 4) (by decide)).trans rfl) ?_
      refine x_len (a_gtr (ifd (fun _ => k false fun h => by cases h) fun _ => ?_))
      refine a_add64 (by omega) (by omega) ⟨rfl, ?_⟩
      rw [show ((i : Int) + 1) = ((i + 1 : Nat) : Int) by push_cast; rfl]
      exact hnext (i + 1) _ (by omega) ⟨by omega, by omega, rfl⟩
    · exact ⟨rfl, rfl⟩
  · exact ⟨rfl, rfl⟩

/-- hbllaw11.put -/
theorem lput_spec {n : Nat} {o : VOp} [i : Has l PoolK.a (Plvs kp) R1] [j : Has R1 v (Vsvs rs low) R] (h : St w0 G l W) (hk : Invs kp rs) (hb : Bd n (rwvs rs)) (hn : n ≤ 500000)
    (k : ∀ kp' rs' W', Invs kp' rs' → (∀ z ∈ kp, z ∈ kp') → rwvs rs' = putR (rwvs rs) low o → St w0 G (Ky v (Vsvs rs' low) :: Ky PoolK.a (Plvs kp') :: R) W' → RR (.tuple #[]) W') :
    CallF Try.prog 22 #[v, .agg (VOp.cells o).toArray] W RR := by
  refine sh22_calls ?_
  unfold sh22
  have h : St w0 G (Ky PoolK.a (Plvs kp) :: Ky v (Vsvs rs low) :: R) W := by
    obtain ⟨F, hF, hG⟩ := h.own
    exact { h with own := ⟨F, sepL_mono j.to (i.to F W hF), hG⟩ }
  refine h.boxS (cs := [.int .i64 o.kind, .int .i64 o.at_, strV o.key, strV o.v, strV o.hi]) fun b W h => ?_
  (repeat (first | (with_reducible refine ift ?_) | (with_reducible refine iff' ?_) | (with_reducible refine a_lss ?_) | (with_reducible refine a_leq ?_) | (with_reducible refine a_gtr ?_) | (with_reducible refine a_geq ?_) | (with_reducible refine w_eql ?_) | (with_reducible refine w_neq ?_) | (with_reducible refine s_eql ?_) | (with_reducible refine s_neq ?_) | ((with_reducible refine a_add64 ?h0 ?h1 ?_); (case h0 => omega); (case h1 => omega);  skip) | ((with_reducible refine a_sub64 ?h0 ?h1 ?_); (case h0 => omega); (case h1 => omega);  skip) | ((with_reducible refine a_mul64 ?h0 ?h1 ?_); (case h0 => omega); (case h1 => omega);  skip) | (with_reducible refine a_notd ?_) | (with_reducible refine a_not ?_) | (with_reducible refine a_ext0 ?_) | (with_reducible refine a_ext1 ?_) | (with_reducible refine a_ext2 ?_) | (with_reducible refine x_len ?_) | (with_reducible refine x_lens ?_) | (with_reducible refine x_eqb ?_) | (with_reducible refine x_neb ?_) | (with_reducible refine x_nilP ?_) | (with_reducible refine x_nilPn ?_) | (with_reducible refine x_nilF ?_) | (with_reducible refine x_nilFF ?_) | (with_reducible refine w_eqlL ?_) | (with_reducible refine w_neqL ?_) | (with_reducible refine s_eqlL ?_) | (with_reducible refine ifnt ?_) | (with_reducible refine ifnf ?_) | (with_reducible refine x_eqB ?_) | (with_reducible refine x_neB ?_) | (with_reducible refine x_lssL ?_) | (with_reducible refine x_gtrL ?_) | (with_reducible refine x_geqL ?_) | (with_reducible refine s_neqL ?_) | (with_reducible refine St.load h ?_) | (with_reducible refine St.loadS h ?_) | (with_reducible refine a_fld0 ?_) | (with_reducible refine St.store h fun W h => ?_) | (with_reducible refine St.storeS h fun W h => ?_) | (with_reducible refine St.alloc h fun b W h => ?_) | (with_reducible refine St.allocS h fun b W h => ?_) | (with_reducible refine a_nil ?_) | (with_reducible refine ss_load ?_) | (with_reducible refine ss_loadS ?_) | (with_reducible refine ss_eqb ?_)))
  refine ifd (fun h0 => ?_) fun h0 => ?_
  · (repeat (first | (with_reducible refine ift ?_) | (with_reducible refine iff' ?_) | (with_reducible refine a_lss ?_) | (with_reducible refine a_leq ?_) | (with_reducible refine a_gtr ?_) | (with_reducible refine a_geq ?_) | (with_reducible refine w_eql ?_) | (with_reducible refine w_neq ?_) | (with_reducible refine s_eql ?_) | (with_reducible refine s_neq ?_) | ((with_reducible refine a_add64 ?h0 ?h1 ?_); (case h0 => omega); (case h1 => omega);  skip) | ((with_reducible refine a_sub64 ?h0 ?h1 ?_); (case h0 => omega); (case h1 => omega);  skip) | ((with_reducible refine a_mul64 ?h0 ?h1 ?_); (case h0 => omega); (case h1 => omega);  skip) | (with_reducible refine a_notd ?_) | (with_reducible refine a_not ?_) | (with_reducible refine a_ext0 ?_) | (with_reducible refine a_ext1 ?_) | (with_reducible refine a_ext2 ?_) | (with_reducible refine x_len ?_) | (with_reducible refine x_lens ?_) | (with_reducible refine x_eqb ?_) | (with_reducible refine x_neb ?_) | (with_reducible refine x_nilP ?_) | (with_reducible refine x_nilPn ?_) | (with_reducible refine x_nilF ?_) | (with_reducible refine x_nilFF ?_) | (with_reducible refine w_eqlL ?_) | (with_reducible refine w_neqL ?_) | (with_reducible refine s_eqlL ?_) | (with_reducible refine ifnt ?_) | (with_reducible refine ifnf ?_) | (with_reducible refine x_eqB ?_) | (with_reducible refine x_neB ?_) | (with_reducible refine x_lssL ?_) | (with_reducible refine x_gtrL ?_) | (with_reducible refine x_geqL ?_) | (with_reducible refine s_neqL ?_) | (with_reducible refine St.load h ?_) | (with_reducible refine St.loadS h ?_) | (with_reducible refine a_fld0 ?_) | (with_reducible refine St.store h fun W h => ?_) | (with_reducible refine St.storeS h fun W h => ?_) | (with_reducible refine St.alloc h fun b W h => ?_) | (with_reducible refine St.allocS h fun b W h => ?_) | (with_reducible refine a_nil ?_) | (with_reducible refine ss_load ?_) | (with_reducible refine ss_loadS ?_) | (with_reducible refine ss_eqb ?_)))
    refine vputvs_spec (n := n) (key := o.key) (val := o.v) h hk hb hn fun kp' rs' W' a1 a2 a3 h => ?_
    exact k kp' rs' W' a1 a2 (by rw [a3]; unfold putR; rw [if_pos h0]) h.to
  · (repeat (first | (with_reducible refine ift ?_) | (with_reducible refine iff' ?_) | (with_reducible refine a_lss ?_) | (with_reducible refine a_leq ?_) | (with_reducible refine a_gtr ?_) | (with_reducible refine a_geq ?_) | (with_reducible refine w_eql ?_) | (with_reducible refine w_neq ?_) | (with_reducible refine s_eql ?_) | (with_reducible refine s_neq ?_) | ((with_reducible refine a_add64 ?h0 ?h1 ?_); (case h0 => omega); (case h1 => omega);  skip) | ((with_reducible refine a_sub64 ?h0 ?h1 ?_); (case h0 => omega); (case h1 => omega);  skip) | ((with_reducible refine a_mul64 ?h0 ?h1 ?_); (case h0 => omega); (case h1 => omega);  skip) | (with_reducible refine a_notd ?_) | (with_reducible refine a_not ?_) | (with_reducible refine a_ext0 ?_) | (with_reducible refine a_ext1 ?_) | (with_reducible refine a_ext2 ?_) | (with_reducible refine x_len ?_) | (with_reducible refine x_lens ?_) | (with_reducible refine x_eqb ?_) | (with_reducible refine x_neb ?_) | (with_reducible refine x_nilP ?_) | (with_reducible refine x_nilPn ?_) | (with_reducible refine x_nilF ?_) | (with_reducible refine x_nilFF ?_) | (with_reducible refine w_eqlL ?_) | (with_reducible refine w_neqL ?_) | (with_reducible refine s_eqlL ?_) | (with_reducible refine ifnt ?_) | (with_reducible refine ifnf ?_) | (with_reducible refine x_eqB ?_) | (with_reducible refine x_neB ?_) | (with_reducible refine x_lssL ?_) | (with_reducible refine x_gtrL ?_) | (with_reducible refine x_geqL ?_) | (with_reducible refine s_neqL ?_) | (with_reducible refine St.load h ?_) | (with_reducible refine St.loadS h ?_) | (with_reducible refine a_fld0 ?_) | (with_reducible refine St.store h fun W h => ?_) | (with_reducible refine St.storeS h fun W h => ?_) | (with_reducible refine St.alloc h fun b W h => ?_) | (with_reducible refine St.allocS h fun b W h => ?_) | (with_reducible refine a_nil ?_) | (with_reducible refine ss_load ?_) | (with_reducible refine ss_loadS ?_) | (with_reducible refine ss_eqb ?_)))
    refine ifd (fun h1 => ?_) fun h1 => ?_
    · (repeat (first | (with_reducible refine ift ?_) | (with_reducible refine iff' ?_) | (with_reducible refine a_lss ?_) | (with_reducible refine a_leq ?_) | (with_reducible refine a_gtr ?_) | (with_reducible refine a_geq ?_) | (with_reducible refine w_eql ?_) | (with_reducible refine w_neq ?_) | (with_reducible refine s_eql ?_) | (with_reducible refine s_neq ?_) | ((with_reducible refine a_add64 ?h0 ?h1 ?_); (case h0 => omega); (case h1 => omega);  skip) | ((with_reducible refine a_sub64 ?h0 ?h1 ?_); (case h0 => omega); (case h1 => omega);  skip) | ((with_reducible refine a_mul64 ?h0 ?h1 ?_); (case h0 => omega); (case h1 => omega);  skip) | (with_reducible refine a_notd ?_) | (with_reducible refine a_not ?_) | (with_reducible refine a_ext0 ?_) | (with_reducible refine a_ext1 ?_) | (with_reducible refine a_ext2 ?_) | (with_reducible refine x_len ?_) | (with_reducible refine x_lens ?_) | (with_reducible refine x_eqb ?_) | (with_reducible refine x_neb ?_) | (with_reducible refine x_nilP ?_) | (with_reducible refine x_nilPn ?_) | (with_reducible refine x_nilF ?_) | (with_reducible refine x_nilFF ?_) | (with_reducible refine w_eqlL ?_) | (with_reducible refine w_neqL ?_) | (with_reducible refine s_eqlL ?_) | (with_reducible refine ifnt ?_) | (with_reducible refine ifnf ?_) | (with_reducible refine x_eqB ?_) | (with_reducible refine x_neB ?_) | (with_reducible refine x_lssL ?_) | (with_reducible refine x_gtrL ?_) | (with_reducible refine x_geqL ?_) | (with_reducible refine s_neqL ?_) | (with_reducible refine St.load h ?_) | (with_reducible refine St.loadS h ?_) | (with_reducible refine a_fld0 ?_) | (with_reducible refine St.store h fun W h => ?_) | (with_reducible refine St.storeS h fun W h => ?_) | (with_reducible refine St.alloc h fun b W h => ?_) | (with_reducible refine St.allocS h fun b W h => ?_) | (with_reducible refine a_nil ?_) | (with_reducible refine ss_load ?_) | (with_reducible refine ss_loadS ?_) | (with_reducible refine ss_eqb ?_)))
      refine vkillvs_spec (n := n) (key := o.key) h hk hb hn fun kp' rs' W' a1 a2 a3 h => ?_
      exact k kp' rs' W' a1 a2 (by rw [a3]; unfold putR; rw [if_neg h0, if_pos h1]; rfl) h.to
    · exact k kp rs W hk (fun z hz => hz) (by unfold putR; rw [if_neg h0, if_neg h1]) h.to
end
end Go.Proofs.Ytffnabbchghokaa
