/-
  FRAMES, plainly: numbers in bytes, check sums, records: no program in sight.
-/
import Derived.Test.YtgflkjhljggeiaaDoorEzMem
namespace Go.Ez
open Go
set_option linter.unusedSimpArgs false
set_option linter.unusedVariables false

/-- a number in k bytes, the greatest first -/
def be (n : Nat) : Nat → List UInt8
  | 0 => []
  | k + 1 => UInt8.ofNat (n / 2 ^ (8 * k)) :: be n k
theorem be_length (n : Nat) : ∀ k, (be n k).length = k
  | 0 => rfl
  | k + 1 => by simp [be, be_length n k]

/-- the number that bytes are, the greatest first -/
def getB (l : List UInt8) : Nat := l.foldl (fun n b => n * 256 + b.toNat) 0

theorem foldB_lt : ∀ (l : List UInt8) (n : Nat), l.foldl (fun n b => n * 256 + b.toNat) n < (n + 1) * 256 ^ l.length
  | [], n => by simp
  | b :: l, n => by
    have := foldB_lt l (n * 256 + b.toNat)
    have hb := b.toNat_lt
    simp only [List.foldl_cons, List.length_cons]
    refine Nat.lt_of_lt_of_le this ?_
    rw [Nat.pow_succ, Nat.mul_comm (256 ^ l.length) 256, ← Nat.mul_assoc]
    exact Nat.mul_le_mul_right _ (by omega)

theorem foldB_ge : ∀ (l : List UInt8) (n : Nat), n * 256 ^ l.length ≤ l.foldl (fun n b => n * 256 + b.toNat) n
  | [], n => by simp
  | b :: l, n => by
    have := foldB_ge l (n * 256 + b.toNat)
    simp only [List.foldl_cons, List.length_cons]
    refine Nat.le_trans ?_ this
    rw [Nat.pow_succ, Nat.mul_comm (256 ^ l.length) 256, ← Nat.mul_assoc]
    exact Nat.mul_le_mul_right _ (by omega)

/-- one bit of the sum -/
def crc1 (s : Nat) : Nat := if s % 2 = 1 then s / 2 ^^^ 3988292384 else s / 2
def crcK : Nat → Nat → Nat
  | 0, s => s
  | k + 1, s => crcK k (crc1 s)
def crcB (s : Nat) (b : UInt8) : Nat := crcK 8 (s ^^^ b.toNat)
def crcS (l : List UInt8) (s : Nat) : Nat := l.foldl crcB s
def crc (l : List UInt8) : Nat := 4294967295 ^^^ crcS l 4294967295

theorem crc1_lt {s : Nat} (h : s < 4294967296) : crc1 s < 4294967296 := by
  unfold crc1
  split
  · exact Nat.xor_lt_two_pow (n := 32) (by omega) (by decide)
  · omega
theorem crcK_lt : ∀ (k : Nat) {s : Nat}, s < 4294967296 → crcK k s < 4294967296
  | 0, _, h => h
  | k + 1, _, h => crcK_lt k (crc1_lt h)
theorem crcB_lt {s : Nat} {b : UInt8} (h : s < 4294967296) : crcB s b < 4294967296 :=
  crcK_lt 8 (Nat.xor_lt_two_pow (n := 32) h (by have := b.toNat_lt; omega))
theorem crcS_lt : ∀ (l : List UInt8) {s : Nat}, s < 4294967296 → crcS l s < 4294967296
  | [], _, h => h
  | b :: l, s, h => crcS_lt l (crcB_lt h)
theorem crc_lt (l : List UInt8) : crc l < 4294967296 := Nat.xor_lt_two_pow (n := 32) (by decide) (crcS_lt l (by decide))

/-- a record in bytes -/
def fr (p : List UInt8) : List UInt8 := be p.length 2 ++ be (crc (be p.length 2 ++ p)) 4 ++ p

theorem shl_or {n b : Nat} (hb : b < 256) : n * 2 ^ 8 ||| b = n * 256 + b := by
  have := Nat.two_pow_add_eq_or_of_lt (i := 8) (b := b) (by omega) n
  rw [Nat.mul_comm n (2 ^ 8), ← this]

theorem getB_snoc (l : List UInt8) (b : UInt8) : getB (l ++ [b]) = getB l * 256 + b.toNat := by simp [getB, List.foldl_append]
theorem getB_lt (l : List UInt8) : getB l < 256 ^ l.length := by have := foldB_lt l 0; simpa [getB] using this
theorem getB_lt6 {l : List UInt8} (h : l.length ≤ 6) : getB l < 281474976710656 := Nat.lt_of_lt_of_le (getB_lt l) (by
  have : 256 ^ l.length ≤ 256 ^ 6 := Nat.pow_le_pow_right (by omega) h
  simpa using this)

theorem take_snoc {α : Type} {l : List α} {i : Nat} {b : α} (h : l[i]? = some b) : l.take (i + 1) = l.take i ++ [b] := by
  rw [List.take_add_one, h]; rfl
theorem crcS_snoc (l : List UInt8) (b : UInt8) (s : Nat) : crcS (l ++ [b]) s = crcB (crcS l s) b := by simp [crcS, List.foldl_append]
theorem crcK_succ : ∀ (k s : Nat), crcK (k + 1) s = crc1 (crcK k s)
  | 0, s => rfl
  | k + 1, s => crcK_succ k (crc1 s)

/-- what Get answers -/
def getR (l : List UInt8) (at_ width : Int) : Nat × Nat :=
  if width < 1 ∨ 6 < width ∨ at_ < 0 ∨ l.length < at_ then (0, 1) else if (l.length : Int) - at_ < width then (0, 2) else (getB ((l.drop at_.toNat).take width.toNat), 0)

theorem getR_in {l : List UInt8} {a m : Nat} (h1 : 1 ≤ m) (h2 : m ≤ 6) (h3 : a + m ≤ l.length) : getR l a m = (getB ((l.drop a).take m), 0) := by
  unfold getR
  rw [if_neg (by omega), if_neg (by omega)]
  simp only [Int.toNat_natCast]
theorem getR_out {l : List UInt8} {a m : Nat} (h : l.length < a + m) (hm : 1 ≤ m) : (getR l a m).2 ≠ 0 := by
  unfold getR
  split
  · decide
  · split
    · decide
    · omega

/-- the record at the front of bytes -/
def nx (r : List UInt8) : Option (List UInt8) :=
  if r.length < 2 then none
  else if 60000 < getB (r.take 2) then none
  else if r.length < 6 + getB (r.take 2) then none
  else if getB ((r.drop 2).take 4) = crc (r.take 2 ++ (r.drop 6).take (getB (r.take 2))) then some ((r.drop 6).take (getB (r.take 2))) else none

theorem nx_len {r p : List UInt8} (h : nx r = some p) : p.length + 6 ≤ r.length ∧ p.length ≤ 60000 := by
  unfold nx at h
  split at h
  · cases h
  · split at h
    · cases h
    · split at h
      · cases h
      · split at h
        · cases h
          rw [List.length_take, List.length_drop]
          omega
        · cases h

/-- all records at the front of bytes -/
def recs (r : List UInt8) : List (List UInt8) :=
  match h : nx r with
  | none => []
  | some p => p :: recs (r.drop (6 + p.length))
termination_by r.length
decreasing_by have := (nx_len h).1; rw [List.length_drop]; omega

theorem recs_none {r : List UInt8} (h : nx r = none) : recs r = [] := by
  unfold recs
  split
  · rfl
  · rename_i h'; rw [h] at h'; cases h'
theorem recs_some {r p : List UInt8} (h : nx r = some p) : recs r = p :: recs (r.drop (6 + p.length)) := by
  rw [recs]
  split
  · rename_i h'; rw [h] at h'; cases h'
  · rename_i h'; rw [h] at h'; cases h'; rfl

/-- the bytes of records -/
def sz (l : List (List UInt8)) : Nat := (l.map fun p => 6 + p.length).sum
theorem sz_snoc (l : List (List UInt8)) (p : List UInt8) : sz (l ++ [p]) = sz l + (6 + p.length) := by simp [sz]
theorem sz_nil : sz [] = 0 := rfl

/-- the records that have come: where the next one stands -/
def At (l : List UInt8) (pre : List (List UInt8)) : Prop := sz pre ≤ l.length ∧ pre ++ recs (l.drop (sz pre)) = recs l
theorem At.zero (l : List UInt8) : At l [] := ⟨Nat.zero_le _, rfl⟩
theorem At.next {l : List UInt8} {pre : List (List UInt8)} {p : List UInt8} (h : At l pre) (hp : nx (l.drop (sz pre)) = some p) : At l (pre ++ [p]) := by
  have h1 := (nx_len hp).1
  rw [List.length_drop] at h1
  have h0 := h.1
  refine ⟨by rw [sz_snoc]; omega, ?_⟩
  rw [List.append_assoc, sz_snoc, ← List.drop_drop, ← h.2, recs_some hp]
  rfl
theorem At.done {l : List UInt8} {pre : List (List UInt8)} (h : At l pre) (hp : nx (l.drop (sz pre)) = none) : pre = recs l := by
  have := h.2
  rw [recs_none hp, List.append_nil] at this
  exact this
theorem At.len {l : List UInt8} {pre : List (List UInt8)} (h : At l pre) : pre.length * 6 ≤ l.length := by
  have : pre.length * 6 ≤ sz pre := by
    clear h
    induction pre with
    | nil => simp
    | cons p r ih => simp only [sz, List.map_cons, List.sum_cons, List.length_cons] at *; omega
  exact Nat.le_trans this h.1

theorem foldB_init : ∀ (l : List UInt8) (n : Nat), l.foldl (fun n b => n * 256 + b.toNat) n = n * 256 ^ l.length + getB l
  | [], n => by simp [getB]
  | b :: l, n => by
    unfold getB
    simp only [List.foldl_cons, List.length_cons]
    rw [foldB_init l (n * 256 + b.toNat), foldB_init l (0 * 256 + b.toNat), Nat.pow_succ, Nat.add_mul, Nat.zero_mul, Nat.zero_add, Nat.mul_assoc, Nat.mul_comm 256, Nat.add_assoc]
theorem getB_cons (b : UInt8) (l : List UInt8) : getB (b :: l) = b.toNat * 256 ^ l.length + getB l := by
  have := foldB_init l b.toNat
  rw [← this]
  simp [getB]
theorem be_mod (n : Nat) : ∀ (k : Nat), getB (be n k) = n % 256 ^ k
  | 0 => by simp [be, getB, Nat.mod_one]
  | k + 1 => by
    have e : (2 : Nat) ^ (8 * k) = 256 ^ k := by rw [Nat.pow_mul]
    have e8 : (UInt8.ofNat (n / 256 ^ k)).toNat = n / 256 ^ k % 256 := UInt8.toNat_ofNat' ..
    rw [be, getB_cons, be_mod n k, be_length, e, e8, Nat.pow_succ, Nat.mod_mul, Nat.mul_comm (n / 256 ^ k % 256), Nat.add_comm]
theorem getB_inj : ∀ {l m : List UInt8}, l.length = m.length → getB l = getB m → l = m
  | [], [], _, _ => rfl
  | [], _ :: _, h, _ => by simp at h
  | _ :: _, [], h, _ => by simp at h
  | b :: l, c :: m, h, e => by
    have hl : l.length = m.length := by simpa using h
    rw [getB_cons, getB_cons, hl] at e
    have h1 := getB_lt l
    have h2 := getB_lt m
    rw [hl] at h1
    have hp : 0 < 256 ^ m.length := Nat.pow_pos (by decide)
    have e1 : b.toNat = c.toNat := by
      have f1 : (b.toNat * 256 ^ m.length + getB l) / 256 ^ m.length = b.toNat := by
        rw [Nat.mul_comm, Nat.mul_add_div hp, Nat.div_eq_of_lt h1, Nat.add_zero]
      have f2 : (c.toNat * 256 ^ m.length + getB m) / 256 ^ m.length = c.toNat := by
        rw [Nat.mul_comm, Nat.mul_add_div hp, Nat.div_eq_of_lt h2, Nat.add_zero]
      rw [← f1, ← f2, e]
    rw [e1] at e
    rw [UInt8.toNat_inj.1 e1, getB_inj hl (Nat.add_left_cancel e)]
theorem be_get {l : List UInt8} {k : Nat} (h : l.length = k) : be (getB l) k = l := by
  refine getB_inj (by rw [be_length, h]) ?_
  rw [be_mod, ← h]
  exact Nat.mod_eq_of_lt (getB_lt l)

/-- what the document asks of a record is what the program asks -/
theorem fr_iff {r : List UInt8} (h6 : 6 + getB (r.take 2) ≤ r.length) :
    fr ((r.drop 6).take (getB (r.take 2))) = r.take (6 + getB (r.take 2)) ↔ getB ((r.drop 2).take 4) = crc (r.take 2 ++ (r.drop 6).take (getB (r.take 2))) := by
  generalize hn : getB (r.take 2) = n at *
  generalize hp : (r.drop 6).take n = p
  have hpl : p.length = n := by rw [← hp, List.length_take, List.length_drop]; omega
  have h2 : (r.take 2).length = 2 := by rw [List.length_take]; omega
  have h4 : ((r.drop 2).take 4).length = 4 := by rw [List.length_take, List.length_drop]; omega
  have hb : be n 2 = r.take 2 := by rw [← hn]; exact be_get h2
  have hsplit : r.take (6 + n) = r.take 2 ++ (r.drop 2).take 4 ++ p := by
    rw [← hp]
    have e1 : r.take (6 + n) = r.take 6 ++ (r.drop 6).take n := by rw [List.take_add]
    have e2 : r.take 6 = r.take 2 ++ (r.drop 2).take 4 := by rw [← List.take_add]
    rw [e1, e2]
  unfold fr
  rw [hpl, hb, hsplit]
  constructor
  · intro h
    have := List.append_cancel_right h
    have := List.append_cancel_left this
    rw [← this, be_mod]
    exact Nat.mod_eq_of_lt (crc_lt _)
  · intro h
    rw [← h, be_get h4]

theorem fr_length (p : List UInt8) : (fr p).length = 6 + p.length := by simp only [fr, List.length_append, be_length]
/-- a record at the front of bytes is read -/
theorem nx_fr {p r : List UInt8} (hp : p.length ≤ 60000) : nx (fr p ++ r) = some p := by
  have hb2 : getB (be p.length 2) = p.length := by rw [be_mod]; exact Nat.mod_eq_of_lt (by omega)
  have h2 : (fr p ++ r).take 2 = be p.length 2 := by
    unfold fr
    rw [List.append_assoc, List.append_assoc, List.take_append_of_le_length (by rw [be_length]; omega), List.take_of_length_le (by rw [be_length]; omega)]
  have hd2 : (fr p ++ r).drop 2 = be (crc (be p.length 2 ++ p)) 4 ++ (p ++ r) := by
    unfold fr
    rw [List.append_assoc, List.append_assoc, List.drop_append_of_le_length (by rw [be_length]; omega), List.drop_of_length_le (by rw [be_length]; omega)]
    simp
  have hd6 : (fr p ++ r).drop 6 = p ++ r := by
    have : (fr p ++ r).drop 6 = ((fr p ++ r).drop 2).drop 4 := by rw [List.drop_drop]
    rw [this, hd2, List.drop_append_of_le_length (by rw [be_length]; omega), List.drop_of_length_le (by rw [be_length]; omega)]
    simp
  have ht4 : ((fr p ++ r).drop 2).take 4 = be (crc (be p.length 2 ++ p)) 4 := by
    rw [hd2, List.take_append_of_le_length (by rw [be_length]; omega), List.take_of_length_le (by rw [be_length]; omega)]
  have htp : ((fr p ++ r).drop 6).take p.length = p := by rw [hd6]; simp
  have hlen : (fr p ++ r).length = 6 + p.length + r.length := by rw [List.length_append, fr_length]
  unfold nx
  rw [h2, hb2, if_neg (by omega), if_neg (by omega), if_neg (by omega), ht4, htp, if_pos]
  rw [be_mod]
  exact Nat.mod_eq_of_lt (crc_lt _)
theorem recs_fr {p r : List UInt8} (hp : p.length ≤ 60000) : recs (fr p ++ r) = p :: recs r := by
  rw [recs_some (nx_fr hp)]
  congr 2
  rw [← fr_length, List.drop_left]
theorem nx_short {r : List UInt8} (h : r.length < 6) : nx r = none := by
  unfold nx
  split
  · rfl
  · split
    · rfl
    · rw [if_pos (by omega)]

theorem sz_append (a b : List (List UInt8)) : sz (a ++ b) = sz a + sz b := by simp [sz]
theorem sz_take_le (l : List (List UInt8)) (n : Nat) : sz (l.take n) ≤ sz l := by
  have := sz_append (l.take n) (l.drop n)
  rw [List.take_append_drop] at this
  omega
theorem len_le_sz : ∀ {l : List (List UInt8)} {i : Nat} {p : List UInt8}, l[i]? = some p → p.length ≤ sz l
  | [], i, p, h => by simp at h
  | q :: l, 0, p, h => by simp at h; subst h; simp [sz]; omega
  | q :: l, i + 1, p, h => by
    have := len_le_sz (l := l) (i := i) (p := p) (by simpa using h)
    have e : sz (q :: l) = (6 + q.length) + sz l := by simp [sz]
    omega
theorem recs_sz (r : List UInt8) : sz (recs r) ≤ r.length ∧ nx (r.drop (sz (recs r))) = none := by
  cases h : nx r with
  | none => rw [recs_none h]; exact ⟨Nat.zero_le _, by rw [sz_nil, List.drop_zero]; exact h⟩
  | some p =>
    have h1 := (nx_len h).1
    have ih := recs_sz (r.drop (6 + p.length))
    rw [recs_some h]
    have e : sz (p :: recs (r.drop (6 + p.length))) = (6 + p.length) + sz (recs (r.drop (6 + p.length))) := by simp [sz]
    rw [List.length_drop, List.drop_drop] at ih
    rw [e]
    exact ⟨by omega, ih.2⟩
termination_by r.length
decreasing_by rw [List.length_drop]; omega
theorem recs_at (l : List UInt8) : At l (recs l) := ⟨(recs_sz l).1, by rw [recs_none (recs_sz l).2, List.append_nil]⟩

/-- what Put answers: the bytes, the error -/
def frB (p : List UInt8) : List UInt8 := if 60000 < p.length then [] else fr p
def frE (p : List UInt8) : Nat := if 60000 < p.length then 3 else 0

/-- records in bytes, one behind the other -/
def frs (l : List (List UInt8)) : List UInt8 := (l.map fr).flatten
theorem frs_snoc (l : List (List UInt8)) (p : List UInt8) : frs (l ++ [p]) = frs l ++ fr p := by simp [frs]
theorem frs_length : ∀ (l : List (List UInt8)), (frs l).length = sz l
  | [] => rfl
  | p :: l => by
    have := frs_length l
    simp only [frs, sz, List.map_cons, List.flatten_cons, List.length_append, fr_length, List.sum_cons] at *
    omega
theorem recs_frs : ∀ {l : List (List UInt8)} {r : List UInt8}, (∀ p ∈ l, p.length ≤ 60000) → recs (frs l ++ r) = l ++ recs r
  | [], r, _ => rfl
  | p :: l, r, h => by
    have e : frs (p :: l) ++ r = fr p ++ (frs l ++ r) := by simp [frs]
    rw [e, recs_fr (h p (by simp)), recs_frs (fun q hq => h q (by simp [hq]))]
    rfl
theorem recs_nil : recs [] = [] := recs_none (nx_short (by decide))
theorem sz_le {n : Nat} : ∀ {l : List (List UInt8)}, (∀ p ∈ l, p.length ≤ n) → sz l ≤ l.length * (n + 6)
  | [], _ => by simp [sz]
  | p :: l, h => by
    have h1 := h p (by simp)
    have h2 := sz_le (l := l) (fun q hq => h q (by simp [hq]))
    have e : sz (p :: l) = (6 + p.length) + sz l := by simp [sz]
    rw [e, List.length_cons, Nat.add_mul]
    omega
theorem nx_bad (r : List UInt8) : nx ([255, 255, 0, 0, 0, 0] ++ r) = none := by
  unfold nx
  rw [if_neg (by simp), if_pos (by simp [getB])]

end Go.Ez
