/-
  EZ: rows of the form 'it returns true, and the arguments read as they did': closed off a contract that keeps all that was there.
-/
import Derived.Test.YtlflpbflpcmckaaDoorEzMem
import Derived.ProofKit
import Derived.ChangeStays
import Derived.ChangeBook
import Derived.Deep.Slices
namespace Go.Ez
open Go Go.Proofs Go.RowKit Go.ChangeShapes Go.WideShapes
set_option linter.unusedSimpArgs false
set_option linter.unusedVariables false

section
variable {H : Type} {enc : TypeId × Value → H} {P : Program}

theorem trodAll_keep {W W' : World} (hl : laidOutB P = true) (hb : Below W.heap.size W W') {sp : Nat → Bool} :
    ∀ {ts : List TypeId} {vs : List Value} {ds : List (DataW H)} {ps : List MemPlace}, (∀ t ∈ ts, P.readableRec t = true ∧ t < P.types.size) → DataW.TrodAll enc P W 0 (fun _ => true) true ts vs ds ps →
      (∀ p ∈ ps, p.block < W.heap.size) → (∀ p ∈ ps, sp p.block = true) → DataW.TrodAll enc P W' 0 sp true ts vs ds ps
  | [], _, _, _, _, h, _, _ => by
    obtain ⟨rfl, rfl, rfl⟩ := trodAll_nil h
    exact rfl
  | t :: ts, _, _, _, hr, h, hp, hs => by
    obtain ⟨v, vs1, d, ds1, a, b, rfl, rfl, rfl, ⟨fuel, h1⟩, h2⟩ := trodAll_cons h
    have ht := hr t (by simp)
    exact ⟨a, b, ⟨fuel, DataW.trod_stays (kids_book hl ht.1) (book_sized ht.1) (fun h => by cases h) ⟨ht.2, book_self t⟩ h1 (fun x hx => hb.same (hp x (by simp [hx]))) (fun x hx => hs x (by simp [hx]))⟩,
      trodAll_keep hl hb (fun t ht => hr t (by simp [ht])) h2 (fun x hx => hp x (by simp [hx])) (fun x hx => hs x (by simp [hx])), rfl⟩

/-- one closed fact: each of the types can be read -/
def typesRead (P : Program) (ts : List TypeId) : Bool := ts.all fun t => P.readableRec t && decide (t < P.types.size)
theorem typesRead_spec {ts : List TypeId} (h : typesRead P ts = true) : ∀ t ∈ ts, P.readableRec t = true ∧ t < P.types.size := by
  intro t ht
  have := List.all_eq_true.1 h t ht
  simpa using this

theorem shut_true {tb : TypeId} (htb : P.underlying tb = some .bool) (W : World) (b : Nat) (sp : Nat → Bool) (hd : Bool) : DataW.TrodAll enc P W b sp hd [tb] [.bool true] [.lit (.bool true)] [] :=
  ⟨[], [], ⟨1, by simp [DataW.trod, htb, Value.cells]⟩, rfl, rfl⟩

/-- 'post', where it returns true and nothing that was there has turned -/
theorem post_true {f : Func} {s : ChangeSpec} {apart fresh handsOn again : Bool} {W W' : World} {args : Array Value} {ds gs : List (DataW H)} {before : List MemPlace} {tb : TypeId}
    (hW : DataW.Whole enc P f.params.toList s.vars apart W args.toList ds gs before) (hl : laidOutB P = true) (hps : typesRead P f.params.toList = true) (hvars : s.vars = []) (hr : f.resultTypes = #[tb]) (htb : P.underlying tb = some .bool)
    (hfn : s.fn H (ds ++ gs) = { results := [.lit (.bool true)], args := ds }) (hb : Below W.heap.size W W') : s.post enc P f apart fresh handsOn again W args (.bool true) W' := by
  have hlt := hW.lt
  have hW0 := hW
  obtain ⟨p, q, hA, hV, rfl, hfz, hnd⟩ := hW
  have hV0 := hV
  rw [hvars] at hV
  obtain ⟨rfl, rfl⟩ := trodVars_none hV
  have hvk : ∀ (sp : Nat → Bool), DataW.TrodVars enc P W' sp s.vars [] [] := fun sp => by rw [hvars]; exact rfl
  have hargs : ∀ sp : Nat → Bool, (∀ x ∈ p, sp x.block = true) → DataW.TrodAll enc P W' 0 sp true f.params.toList args.toList ds p := fun sp hs =>
    trodAll_keep hl hb (typesRead_spec hps) hA (fun x hx => hlt x (by simp [hx])) hs
  refine ⟨ds, [], p ++ [], [], p, [], hW0, ?_, ?_, ?_, ?_, fun _ => ⟨?_, ?_⟩⟩
  · rw [hfn, hr]; exact shut_true htb _ _ _ _
  · rw [hfn]; exact hargs _ (fun x hx => by simpa using hlt x (by simp [hx]))
  · rw [hfn]; exact hvk _
  · exact hb.frame _
  · intro j t r h1 h2
    rw [hr] at h1 h2
    have e : (Value.bool true).resultList (#[tb] : Array TypeId).size = [.bool true] := rfl
    rw [e] at h2
    cases j with
    | zero =>
      cases h1; cases h2
      simp [Value.okWide, htb, Cell.okWide, Cell.ok]
    | succ j => simp at h2
  · refine ⟨.lit (.bool true) :: ds, [], p ++ [], ⟨p, [], ?_, hvk _, rfl, ?_, ?_⟩, ?_⟩
    · rw [hr]
      exact ⟨[], p, ⟨1, by simp [DataW.trod, htb, Value.cells]⟩, hargs _ (fun _ _ => rfl), rfl⟩
    · intro b off hp
      have h1 := hlt _ hp
      rw [hb.frozen (p := ⟨b, off, none⟩) h1]
      exact hfz b off hp
    · intro ha
      exact hnd ha
    · intro x hx _
      exact hx

theorem by_of_cells {W : World} {base : Nat} {sp : Nat → Bool} {held : Bool} {t e : TypeId} (ht : P.underlying t = some (.slice e)) (he : P.underlying e = some (.int .u8)) (hc : P.cellsOf e = 1) {v : Value} {x : DataW H × List MemPlace} {fuel : Nat}
    (hf : DataW.trod enc P W base sp held fuel t [v] = some x) : ∃ l : List UInt8, By W v l ∧ l.length ≤ maxLen := by
  rcases open_ints ht he hc hf with ⟨hcs, hx⟩ | ⟨a, len', cap', zs, hcs, _, hl, hm, hz, hx, hcell, hwz⟩
  · simp only [List.cons.injEq, and_true] at hcs
    rw [hcs]
    exact ⟨[], Sl.nil W 1, by simp⟩
  · simp only [List.cons.injEq, and_true] at hcs
    subst hcs
    have hzl : len' ≤ zs.length := by rw [hz]; split <;> omega
    refine ⟨(zs.take len').map fun n => UInt8.ofNat n.toNat, ⟨some a, cap', ?_, ?_, ?_, ?_, by simp⟩, by simp; omega⟩
    · simp; omega
    · simp; omega
    · simp [bytesV_length]
    · intro j u hj
      obtain ⟨b, hb, rfl⟩ := bytesV_get hj
      rw [List.getElem?_map] at hb
      cases hz1 : (zs.take len')[j]? with
      | none => rw [hz1] at hb; cases hb
      | some n =>
        rw [hz1] at hb
        simp only [Option.map_some, Option.some.injEq] at hb
        have hjl : j < len' := by
          have := (List.getElem?_eq_some_iff.1 hz1).1
          rw [List.length_take] at this
          omega
        rw [List.getElem?_take_of_lt hjl] at hz1
        have hcj := hcell j (by omega)
        have hget : zs.getD j 0 = n := by rw [List.getD_eq_getElem?_getD, hz1]; rfl
        rw [hget] at hcj
        have h0 := hcell 0 (by omega)
        have hspot : a.spot = none := by
          unfold World.cell? at h0
          have ha0 : a.add 0 = a := by simp [Addr.add]
          rw [ha0] at h0
          split at h0
          · cases hs : a.spot with
            | none => rfl
            | some _ => rw [hs] at h0; simp at h0
          · cases h0
        obtain ⟨bb, oo, ss⟩ := a
        simp only at hspot
        subst hspot
        refine ⟨bb, oo, rfl, ?_⟩
        rw [addr_add] at hcj
        rw [hcj, ← hb]
        have hw := hwz n (List.mem_of_getElem? hz1)
        simp only [Lit.wf, Bool.and_eq_true, decide_eq_true_eq, IntKind.min, IntKind.max, IntKind.bits, IntKind.signed] at hw
        simp at hw
        unfold byteV
        rw [UInt8.toNat_ofNat']
        congr 2
        have : n.toNat < 2 ^ 8 := by omega
        rw [Nat.mod_eq_of_lt this]
        omega
/-- the bytes of an argument -/
theorem by_of_trod {W : World} {b0 base : Nat} {r : Reach} {sp : Nat → Bool} {held : Bool} {t e : TypeId} (ht : P.underlying t = some (.slice e)) (he : P.underlying e = some (.int .u8)) (hc : P.cellsOf e = 1) {v : Value} {d : DataW H} {ps : List MemPlace}
    (hval : Value.okWide P W r b0 t v) (hd : DataW.Trod enc P W base sp held t v d ps) : ∃ l : List UInt8, By W v l ∧ l.length ≤ maxLen := by
  obtain ⟨a0, len, cap, rfl⟩ := okWide_slice ht hval
  obtain ⟨fuel, hf⟩ := hd
  have hcs : (Value.slice a0 len cap).cells.toList = [.slice a0 len cap] := by simp [Value.cells]
  rw [hcs] at hf
  exact by_of_cells ht he hc hf

/-- the lists of bytes of an argument -/
theorem ls_of_trod {W : World} {b0 base : Nat} {r : Reach} {sp : Nat → Bool} {held : Bool} {t e e2 : TypeId} (ht : P.underlying t = some (.slice e)) (hc : P.cellsOf e = 1) (he : P.underlying e = some (.slice e2)) (he2 : P.underlying e2 = some (.int .u8)) (hc2 : P.cellsOf e2 = 1) {v : Value} {d : DataW H} {ps : List MemPlace}
    (hval : Value.okWide P W r b0 t v) (hd : DataW.Trod enc P W base sp held t v d ps) : ∃ ls : List (List UInt8), Ls W v ls ∧ ls.length ≤ maxLen ∧ ∀ l ∈ ls, l.length ≤ maxLen := by
  obtain ⟨a0, len, cap, rfl⟩ := okWide_slice ht hval
  obtain ⟨fuel, hf⟩ := hd
  have hcs : (Value.slice a0 len cap).cells.toList = [.slice a0 len cap] := by simp [Value.cells]
  rw [hcs] at hf
  rcases Go.Deep.open_slice1 ht hc hf with ⟨hcs, hx⟩ | ⟨a, len', cap', m, n, V, D, Pl, hcs, _, hl, hm, hmm, hx, hcell⟩
  · simp only [List.cons.injEq, and_true] at hcs
    rw [hcs]
    exact ⟨[], ⟨[], Sl.nil W 1, Bs.nil⟩, by simp, by simp⟩
  · simp only [List.cons.injEq, and_true, Value.slice.injEq] at hcs
    obtain ⟨rfl, rfl, rfl⟩ := hcs
    have hlm : len ≤ m := by rw [hmm]; split <;> omega
    have hV : ∀ i, i < len → ∃ l : List UInt8, By W (V i) l ∧ l.length ≤ maxLen := fun i hi => by_of_cells he he2 hc2 (hcell i (by omega)).2
    let L : Nat → List UInt8 := fun i => if hi : i < len then (hV i hi).choose else []
    have hL : ∀ i, i < len → By W (V i) (L i) ∧ (L i).length ≤ maxLen := fun i hi => by
      have := (hV i hi).choose_spec
      simp only [L, dif_pos hi]
      exact this
    refine ⟨(List.range len).map L, ⟨(List.range len).map V, ⟨some a, cap, by simp, by simpa using hl, by simp, ?_, by simp⟩, by simp, ?_⟩, by simp; omega, ?_⟩
    · intro j u hj
      rw [List.getElem?_map] at hj
      have hjl : j < len := by
        rcases Nat.lt_or_ge j len with h | h
        · exact h
        · rw [List.getElem?_eq_none (by simpa using h)] at hj; cases hj
      rw [List.getElem?_range hjl] at hj
      simp only [Option.map_some, Option.some.injEq] at hj
      have hcj := (hcell j (by omega)).1
      have h0 := (hcell 0 (by omega)).1
      have hspot : a.spot = none := by
        unfold World.cell? at h0
        have ha0 : a.add 0 = a := by simp [Addr.add]
        rw [ha0] at h0
        split at h0
        · cases hs : a.spot with
          | none => rfl
          | some _ => rw [hs] at h0; simp at h0
        · cases h0
      obtain ⟨bb, oo, ss⟩ := a
      simp only at hspot
      subst hspot
      rw [addr_add, hj] at hcj
      exact ⟨bb, oo, rfl, hcj⟩
    · intro i v l h1 h2
      rw [List.getElem?_map] at h1 h2
      have hil : i < len := by
        rcases Nat.lt_or_ge i len with h | h
        · exact h
        · rw [List.getElem?_eq_none (by simpa using h)] at h1; cases h1
      rw [List.getElem?_range hil] at h1 h2
      simp only [Option.map_some, Option.some.injEq] at h1 h2
      subst h1; subst h2
      exact (hL i hil).1
    · intro l hl'
      rw [List.mem_map] at hl'
      obtain ⟨i, hi, rfl⟩ := hl'
      exact (hL i (List.mem_range.1 hi)).2
end
end Go.Ez
