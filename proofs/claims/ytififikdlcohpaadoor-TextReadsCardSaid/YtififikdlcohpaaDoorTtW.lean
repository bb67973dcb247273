/-
  TEXTS, plainly: a sign comes back; a pair of surrogates is read.
-/
import Derived.Test.YtififikdlcohpaaDoorTtV
import Derived.Laws.IdiomStrings
namespace Go.Ez
open Go Go.Lib
set_option linter.unusedSimpArgs false
set_option linter.unusedVariables false
/-- a sign's number -/
def okSg (a : Nat) : Prop := a < 55296 ∨ (57343 < a ∧ a ≤ 1114111)
theorem u8N {x : Nat} (h : x < 256) : (UInt8.ofNat x).toNat = x := by rw [UInt8.toNat_ofNat', Nat.mod_eq_of_lt h]
theorem getD_app {p r : Txt} {j : Nat} (h : j < p.length) : (p ++ r).getD j 0 = p.getD j 0 := by
  rw [List.getD_eq_getElem?_getD, List.getD_eq_getElem?_getD, List.getElem?_append_left h]
theorem decode_utf {a : Nat} (h : okSg a) (r : Txt) : decodeL (utf a ++ r) = (a, (utf a).length) := by
  unfold okSg at h
  by_cases h1 : a ≤ 127
  · have e : utf a = [UInt8.ofNat a] := by unfold utf encodeRune; rw [encodeRuneZ_one (by omega) (by omega)]; simp
    rw [e]
    rw [List.cons_append, dec_ascii (by rw [u8N (by omega)]; omega), u8N (by omega)]
    rfl
  by_cases h2 : a ≤ 2047
  · have e : utf a = [UInt8.ofNat (192 + a / 64), UInt8.ofNat (128 + a % 64)] := by
      unfold utf encodeRune; rw [encodeRuneZ_two (by omega) (by omega)]
      simp only [List.map_cons, List.map_nil]
      congr 1
    rw [e, decodeL_N]
    have b0 : (([UInt8.ofNat (192 + a / 64), UInt8.ofNat (128 + a % 64)] ++ r : Txt).getD 0 0).toNat = 192 + a / 64 := u8N (by omega)
    have b1 : (([UInt8.ofNat (192 + a / 64), UInt8.ofNat (128 + a % 64)] ++ r : Txt).getD 1 0).toNat = 128 + a % 64 := u8N (by omega)
    rw [b0, b1]
    have hl : ([UInt8.ofNat (192 + a / 64), UInt8.ofNat (128 + a % 64)] ++ r : Txt).length = r.length + 2 := by simp
    rw [hl]
    unfold decodeN
    rw [if_neg (by omega), if_pos ⟨by omega, by omega, by omega⟩, if_pos (by omega)]
    congr 1
    omega
  by_cases h3 : a ≤ 65535
  · have e : utf a = [UInt8.ofNat (224 + a / 4096), UInt8.ofNat (128 + a / 64 % 64), UInt8.ofNat (128 + a % 64)] := by
      unfold utf encodeRune; rw [encodeRuneZ_three (by omega)]
      simp only [List.map_cons, List.map_nil]
      congr 1
    rw [e, decodeL_N]
    have b0 : (([UInt8.ofNat (224 + a / 4096), UInt8.ofNat (128 + a / 64 % 64), UInt8.ofNat (128 + a % 64)] ++ r : Txt).getD 0 0).toNat = 224 + a / 4096 := u8N (by omega)
    have b1 : (([UInt8.ofNat (224 + a / 4096), UInt8.ofNat (128 + a / 64 % 64), UInt8.ofNat (128 + a % 64)] ++ r : Txt).getD 1 0).toNat = 128 + a / 64 % 64 := u8N (by omega)
    have b2 : (([UInt8.ofNat (224 + a / 4096), UInt8.ofNat (128 + a / 64 % 64), UInt8.ofNat (128 + a % 64)] ++ r : Txt).getD 2 0).toNat = 128 + a % 64 := u8N (by omega)
    rw [b0, b1, b2]
    have hl : ([UInt8.ofNat (224 + a / 4096), UInt8.ofNat (128 + a / 64 % 64), UInt8.ofNat (128 + a % 64)] ++ r : Txt).length = r.length + 3 := by simp
    rw [hl]
    unfold decodeN
    rw [if_neg (by omega), if_neg (by omega), if_pos ⟨by omega, ⟨by omega, by omega⟩, by omega, by omega⟩, if_pos (by omega)]
    congr 1
    omega
  · have e : utf a = [UInt8.ofNat (240 + a / 262144), UInt8.ofNat (128 + a / 4096 % 64), UInt8.ofNat (128 + a / 64 % 64), UInt8.ofNat (128 + a % 64)] := by
      unfold utf encodeRune; rw [encodeRuneZ_four (by omega) (by omega)]
      simp only [List.map_cons, List.map_nil]
      congr 1
    rw [e, decodeL_N]
    have b0 : (([UInt8.ofNat (240 + a / 262144), UInt8.ofNat (128 + a / 4096 % 64), UInt8.ofNat (128 + a / 64 % 64), UInt8.ofNat (128 + a % 64)] ++ r : Txt).getD 0 0).toNat = 240 + a / 262144 := u8N (by omega)
    have b1 : (([UInt8.ofNat (240 + a / 262144), UInt8.ofNat (128 + a / 4096 % 64), UInt8.ofNat (128 + a / 64 % 64), UInt8.ofNat (128 + a % 64)] ++ r : Txt).getD 1 0).toNat = 128 + a / 4096 % 64 := u8N (by omega)
    have b2 : (([UInt8.ofNat (240 + a / 262144), UInt8.ofNat (128 + a / 4096 % 64), UInt8.ofNat (128 + a / 64 % 64), UInt8.ofNat (128 + a % 64)] ++ r : Txt).getD 2 0).toNat = 128 + a / 64 % 64 := u8N (by omega)
    have b3 : (([UInt8.ofNat (240 + a / 262144), UInt8.ofNat (128 + a / 4096 % 64), UInt8.ofNat (128 + a / 64 % 64), UInt8.ofNat (128 + a % 64)] ++ r : Txt).getD 3 0).toNat = 128 + a % 64 := u8N (by omega)
    rw [b0, b1, b2, b3]
    have hl : ([UInt8.ofNat (240 + a / 262144), UInt8.ofNat (128 + a / 4096 % 64), UInt8.ofNat (128 + a / 64 % 64), UInt8.ofNat (128 + a % 64)] ++ r : Txt).length = r.length + 4 := by simp
    rw [hl]
    unfold decodeN
    rw [if_neg (by omega), if_neg (by omega), if_neg (by omega), if_pos ⟨by omega, ⟨by omega, by omega⟩, ⟨by omega, by omega⟩, by omega, by omega⟩, if_pos (by omega)]
    congr 1
    omega
theorem utf_lenN (n : Nat) : 1 ≤ (utf n).length ∧ (utf n).length ≤ 4 := by
  have := encodeRuneZ_length (n : Int)
  unfold utf encodeRune
  rw [List.length_map]; exact this
theorem utf_inj {a b : Nat} (ha : okSg a) (hb : okSg b) (h : utf a = utf b) : a = b := by
  have h1 := decode_utf ha []
  have h2 := decode_utf hb []
  rw [h, h2] at h1
  exact (congrArg Prod.fst h1).symm
theorem utf_ne (a : Nat) : utf a ≠ [] := fun e => by have := (utf_lenN a).1; rw [e] at this; simp at this
theorem utf_good {a : Nat} (h : okSg a) (r : Txt) : ¬ badL (utf a ++ r) := by
  unfold badL
  rw [decode_utf h r]
  rintro ⟨h1, h2⟩
  simp only at h1 h2
  have : (utf a).length = 3 := by rw [h1]; rfl
  omega
theorem valid_utf {a : Nat} (h : okSg a) : validD (utf a) = true ∧ runeCountL (utf a) = 1 := by
  have hd := decode_utf h []
  have hg := utf_good h []
  rw [List.append_nil] at hd hg
  constructor
  · rw [validD_step _ (utf_ne a), if_neg (c := (decodeL (utf a)).1 = 65533 ∧ (decodeL (utf a)).2 = 1) hg, hd, List.drop_length]
    rfl
  · rw [count_step (utf_ne a), hd, List.drop_length]
    rfl
theorem runes_utf {a : Nat} (h : okSg a) : Conv.runesFrom ⟨(utf a).toArray⟩ (⟨(utf a).toArray⟩ : ByteArray).size 0 #[] = #[.int .i32 (a : Int)] := by
  have hd := decode_utf h []
  rw [List.append_nil] at hd
  have hl := (utf_lenN a).1
  have hsz : (⟨(utf a).toArray⟩ : ByteArray).size = (utf a).length := by show (utf a).toArray.size = _; simp
  have hdec : Utf8.decode ⟨(utf a).toArray⟩ 0 = (a, (utf a).length) := by rw [decode_drop, List.drop_zero]; exact hd
  obtain ⟨n, hn⟩ : ∃ n, (utf a).length = n + 1 := ⟨(utf a).length - 1, by omega⟩
  rw [hsz, hn]
  unfold Conv.runesFrom
  rw [if_pos (by rw [hsz]; omega), hdec]
  simp only
  cases n with
  | zero => rfl
  | succ n =>
    unfold Conv.runesFrom
    rw [if_neg (by rw [hsz]; omega)]
    rfl
/-! ### sixteens -/
theorem escT_u {u : Txt} {p : Nat} (h0 : u[p]? = some 117) : escT u (p, 0) = unitT u (p + 1, 0) := by
  unfold escT
  rw [next_at h0]
  dsimp only
  rw [if_neg (by simp), if_pos rfl]
/-- a unit, read -/
theorem unq_one {c0 c1 c2 c3 : UInt8} {d0 d1 d2 d3 n : Nat} (e0 : dig16 (lowC c0) = some d0) (e1 : dig16 (lowC c1) = some d1) (e2 : dig16 (lowC c2) = some d2) (e3 : dig16 (lowC c3) = some d3)
    (hn : n = ((d0 * 16 + d1) * 16 + d2) * 16 + d3) (hr : n < 55296 ∨ 57343 < n) : unqS [34, 92, 117, c0, c1, c2, c3, 34] 0 = (utf n, 8, 0) := by
  unfold unqS
  rw [if_neg (by simp), wants_at (a := (0 : Int).toNat) rfl, show (2 * ([34, 92, 117, c0, c1, c2, c3, 34] : Txt).length + 4) = 18 + 1 + 1 from rfl, unqGo_succ]
  have hs : signT [34, 92, 117, c0, c1, c2, c3, 34] ((0 : Int).toNat + 1, 0) = (92, (2, 0)) := sign_low (c := 92) (r := [117, c0, c1, c2, c3, 34]) rfl (by decide) (by decide)
  have he : escT [34, 92, 117, c0, c1, c2, c3, 34] (2, 0) = (n, (7, 0)) := by
    rw [escT_u rfl]
    unfold unitT
    rw [four_at (a := 2 + 1) (c0 := c0) (c1 := c1) (c2 := c2) (c3 := c3) rfl rfl rfl rfl e0 e1 e2 e3]
    dsimp only
    rw [if_pos (by rw [← hn]; omega), ← hn]
  rw [hs]
  dsimp only
  rw [he, if_neg (by simp), if_neg (by simp), if_neg (by decide), if_pos rfl]
  dsimp only
  have hs2 : signT [34, 92, 117, c0, c1, c2, c3, 34] (7, 0) = (34, (8, 0)) := sign_low (c := 34) (r := []) rfl (by decide) (by decide)
  rw [unqGo_succ, hs2]
  dsimp only
  rw [if_neg (by simp), if_neg (by simp), if_pos rfl, List.nil_append]
/-- a pair of surrogates, read -/
theorem unq_two {c0 c1 c2 c3 f0 f1 f2 f3 : UInt8} {d0 d1 d2 d3 g0 g1 g2 g3 n m : Nat} (e0 : dig16 (lowC c0) = some d0) (e1 : dig16 (lowC c1) = some d1) (e2 : dig16 (lowC c2) = some d2) (e3 : dig16 (lowC c3) = some d3)
    (k0 : dig16 (lowC f0) = some g0) (k1 : dig16 (lowC f1) = some g1) (k2 : dig16 (lowC f2) = some g2) (k3 : dig16 (lowC f3) = some g3)
    (hn : n = ((d0 * 16 + d1) * 16 + d2) * 16 + d3) (hm : m = ((g0 * 16 + g1) * 16 + g2) * 16 + g3) (h1 : 55296 ≤ n) (h2 : n < 56320) (h3 : 56320 ≤ m) (h4 : m ≤ 57343) :
    unqS [34, 92, 117, c0, c1, c2, c3, 92, 117, f0, f1, f2, f3, 34] 0 = (utf (65536 + (n - 55296) * 1024 + m - 56320), 14, 0) := by
  unfold unqS
  rw [if_neg (by simp), wants_at (a := (0 : Int).toNat) rfl, show (2 * ([34, 92, 117, c0, c1, c2, c3, 92, 117, f0, f1, f2, f3, 34] : Txt).length + 4) = 30 + 1 + 1 from rfl, unqGo_succ]
  have hs : signT [34, 92, 117, c0, c1, c2, c3, 92, 117, f0, f1, f2, f3, 34] ((0 : Int).toNat + 1, 0) = (92, (2, 0)) := sign_low (c := 92) (r := [117, c0, c1, c2, c3, 92, 117, f0, f1, f2, f3, 34]) rfl (by decide) (by decide)
  have he : escT [34, 92, 117, c0, c1, c2, c3, 92, 117, f0, f1, f2, f3, 34] (2, 0) = (65536 + (n - 55296) * 1024 + m - 56320, (13, 0)) := by
    rw [escT_u rfl]
    unfold unitT
    rw [four_at (a := 2 + 1) (c0 := c0) (c1 := c1) (c2 := c2) (c3 := c3) rfl rfl rfl rfl e0 e1 e2 e3]
    dsimp only
    rw [← hn, if_neg (by omega), if_neg (by omega), wants_at (a := 2 + 1 + 4) rfl, wants_at (a := 2 + 1 + 4 + 1) rfl, four_at (a := 2 + 1 + 4 + 1 + 1) (c0 := f0) (c1 := f1) (c2 := f2) (c3 := f3) rfl rfl rfl rfl k0 k1 k2 k3]
    dsimp only
    rw [← hm, if_neg (by omega)]
  rw [hs]
  dsimp only
  rw [he, if_neg (by simp), if_neg (by simp), if_neg (by decide), if_pos rfl]
  dsimp only
  have hs2 : signT [34, 92, 117, c0, c1, c2, c3, 92, 117, f0, f1, f2, f3, 34] (13, 0) = (34, (14, 0)) := sign_low (c := 34) (r := []) rfl (by decide) (by decide)
  rw [unqGo_succ, hs2]
  dsimp only
  rw [if_neg (by simp), if_neg (by simp), if_pos rfl, List.nil_append]
def digsU : Txt := [48, 49, 50, 51, 52, 53, 54, 55, 56, 57, 65, 66, 67, 68, 69, 70]
def hexu (n : Nat) : UInt8 := digsU.getD n 0
theorem hexu_dig {n : Nat} (h : n < 16) : dig16 (lowC (hexu n)) = some n := (by decide : ∀ m : Fin 16, dig16 (lowC (hexu m.val)) = some m.val) ⟨n, h⟩
/-- the digits of a unit -/
def hex4 (f : Nat → UInt8) (n : Nat) : Txt := [f (n / 4096), f (n / 256 % 16), f (n / 16 % 16), f (n % 16)]
theorem unq_hexd {n : Nat} (h : n < 65536) (hr : n < 55296 ∨ 57343 < n) : unqS ([34, 92, 117] ++ hex4 hexd n ++ [34]) 0 = (utf n, 8, 0) :=
  unq_one (hexd_dig (by omega)) (hexd_dig (by omega)) (hexd_dig (by omega)) (hexd_dig (by omega)) (by omega) hr
theorem unq_hexu {n : Nat} (h : n < 1048576) : unqS ([34, 92, 117] ++ hex4 hexu (55296 + n / 1024) ++ [92, 117] ++ hex4 hexu (56320 + n % 1024) ++ [34]) 0 = (utf (65536 + n), 14, 0) := by
  have := unq_two (n := 55296 + n / 1024) (m := 56320 + n % 1024) (hexu_dig (n := (55296 + n / 1024) / 4096) (by omega)) (hexu_dig (n := (55296 + n / 1024) / 256 % 16) (by omega)) (hexu_dig (n := (55296 + n / 1024) / 16 % 16) (by omega)) (hexu_dig (n := (55296 + n / 1024) % 16) (by omega))
    (hexu_dig (n := (56320 + n % 1024) / 4096) (by omega)) (hexu_dig (n := (56320 + n % 1024) / 256 % 16) (by omega)) (hexu_dig (n := (56320 + n % 1024) / 16 % 16) (by omega)) (hexu_dig (n := (56320 + n % 1024) % 16) (by omega)) (by omega) (by omega) (by omega) (by omega) (by omega) (by omega)
  have e : 65536 + (55296 + n / 1024 - 55296) * 1024 + (56320 + n % 1024) - 56320 = 65536 + n := by omega
  rw [e] at this
  exact this
/-! ### counted -/
theorem qB_cases (c : UInt8) : (letB c.toNat ≠ 0 ∧ (qB c).length = 2) ∨ (letB c.toNat = 0 ∧ c.toNat < 32 ∧ (qB c).length = 6) ∨ (letB c.toNat = 0 ∧ 32 ≤ c.toNat ∧ qB c = [c]) := by
  unfold qB
  split
  · rename_i h; exact .inl ⟨h, rfl⟩
  · rename_i h
    split
    · rename_i h2; exact .inr (.inl ⟨Classical.not_not.1 h, h2, rfl⟩)
    · rename_i h2; exact .inr (.inr ⟨Classical.not_not.1 h, by omega, rfl⟩)
theorem take_next {s : Txt} {i : Nat} {c : UInt8} (h : s[i]? = some c) : s.take (i + 1) = s.take i ++ [c] := by
  rw [List.take_add_one, h]; rfl
end Go.Ez
