/-
  TEXTS, plainly: what is quoted comes back; two texts beside each other.
-/
import Derived.Test.YtififikdlcohpaaDoorTtQ
namespace Go.Ez
open Go Go.Lib
set_option linter.unusedSimpArgs false
set_option linter.unusedVariables false
theorem decodeN_prefix {n b0 b1 b2 b3 n' c0 c1 c2 c3 : Nat} (hg : ¬ ((decodeN n b0 b1 b2 b3).1 = 65533 ∧ (decodeN n b0 b1 b2 b3).2 = 1)) (hn : (decodeN n b0 b1 b2 b3).2 ≤ n')
    (h0 : c0 = b0) (h1 : 1 < (decodeN n b0 b1 b2 b3).2 → c1 = b1) (h2 : 2 < (decodeN n b0 b1 b2 b3).2 → c2 = b2) (h3 : 3 < (decodeN n b0 b1 b2 b3).2 → c3 = b3) : decodeN n' c0 c1 c2 c3 = decodeN n b0 b1 b2 b3 := by
  subst h0
  unfold decodeN at *
  by_cases e1 : c0 < 128
  · simp only [e1, if_true]
  · simp only [e1, if_false] at *
    by_cases e2 : c0 / 32 = 6 ∧ (1 < n ∧ b1 / 64 = 2)
    · rw [if_pos e2] at *
      split at hg
      · rename_i h5
        rw [if_pos h5] at h1 hn ⊢
        have := h1 (by simp)
        subst this
        rw [if_pos ⟨e2.1, by simp only at hn; omega, e2.2.2⟩, if_pos h5]
      · exact absurd ⟨rfl, rfl⟩ hg
    · rw [if_neg e2] at *
      by_cases e3 : c0 / 16 = 14 ∧ (1 < n ∧ b1 / 64 = 2) ∧ (2 < n ∧ b2 / 64 = 2)
      · rw [if_pos e3] at *
        split at hg
        · rename_i h5
          rw [if_pos h5] at h1 h2 hn ⊢
          have := h1 (by simp)
          have := h2 (by simp)
          subst c1 c2
          simp only at hn
          rw [if_neg (by omega), if_pos ⟨e3.1, ⟨by omega, e3.2.1.2⟩, by omega, e3.2.2.2⟩, if_pos h5]
        · exact absurd ⟨rfl, rfl⟩ hg
      · rw [if_neg e3] at *
        by_cases e4 : c0 / 8 = 30 ∧ (1 < n ∧ b1 / 64 = 2) ∧ (2 < n ∧ b2 / 64 = 2) ∧ (3 < n ∧ b3 / 64 = 2)
        · rw [if_pos e4] at *
          split at hg
          · rename_i h5
            rw [if_pos h5] at h1 h2 h3 hn ⊢
            have := h1 (by simp)
            have := h2 (by simp)
            have := h3 (by simp)
            subst c1 c2 c3
            simp only at hn
            rw [if_neg (by omega), if_neg (by omega), if_pos ⟨e4.1, ⟨by omega, e4.2.1.2⟩, ⟨by omega, e4.2.2.1.2⟩, by omega, e4.2.2.2.2⟩, if_pos h5]
          · exact absurd ⟨rfl, rfl⟩ hg
        · rw [if_neg e4] at *
          exact absurd ⟨rfl, rfl⟩ hg
theorem decode_prefix {l r : Txt} (hne : l ≠ []) (hg : ¬ badL l) : decodeL (l.take (decodeL l).2 ++ r) = decodeL l := by
  obtain ⟨f1, f2, _, _⟩ := dec_facts l hne
  have hw := f1 hg
  have hget : ∀ j, j < (decodeL l).2 → (l.take (decodeL l).2 ++ r).getD j 0 = l.getD j 0 := fun j hj => by
    rw [List.getD_eq_getElem?_getD, List.getD_eq_getElem?_getD, List.getElem?_append_left (by rw [List.length_take]; omega), List.getElem?_take_of_lt hj]
  rw [decodeL_N, decodeL_N l] at *
  unfold badL at hg
  rw [decodeL_N] at hg
  refine decodeN_prefix hg ?_ ?_ ?_ ?_ ?_
  · rw [List.length_append, List.length_take]; omega
  · rw [hget 0 (by omega)]
  · intro h; rw [hget 1 h]
  · intro h; rw [hget 2 h]
  · intro h; rw [hget 3 h]
theorem utf_low {c : UInt8} (h : c.toNat < 128) : utf c.toNat = [c] := by
  unfold utf encodeRune
  rw [encodeRuneZ_one (by omega) (by omega)]
  simp
theorem get_drop {u r : Txt} {a j : Nat} {c : UInt8} (h : u.drop a = r) (hc : r[j]? = some c) : u[a + j]? = some c := by
  rw [← h, List.getElem?_drop] at hc; exact hc
theorem next_at {u : Txt} {a : Nat} {c : UInt8} (h : u[a]? = some c) : nextT u (a, 0) = (c, (a + 1, 0)) := by
  unfold nextT; simp [h]
theorem len_drop {u r : Txt} {a : Nat} {c : UInt8} (h : u.drop a = c :: r) : a < u.length := by
  rcases Nat.lt_or_ge a u.length with h1 | h1
  · exact h1
  · rw [List.drop_of_length_le h1] at h; cases h
theorem sign_low {u r : Txt} {a : Nat} {c : UInt8} (h : u.drop a = c :: r) (hc : c.toNat < 128) (h32 : 32 ≤ c.toNat) : signT u (a, 0) = (c.toNat, (a + 1, 0)) := by
  have hl := len_drop h
  unfold signT
  simp only [h, dec_ascii hc]
  rw [if_neg (by omega), if_neg]
  rintro (h1 | h1)
  · omega
  · unfold badL at h1; rw [dec_ascii hc] at h1; have := h1.1; omega
theorem drop_add {u a b : Txt} {k : Nat} (h : u.drop k = a ++ b) : u.drop (k + a.length) = b := by
  rw [← List.drop_drop, h, List.drop_left' rfl]
theorem hexd_dig {n : Nat} (h : n < 16) : dig16 (lowC (hexd n)) = some n := (by decide : ∀ m : Fin 16, dig16 (lowC (hexd m.val)) = some m.val) ⟨n, h⟩
theorem hexd_high {n : Nat} (h : n < 16) : 32 ≤ (hexd n).toNat ∧ (hexd n).toNat < 128 := (by decide : ∀ m : Fin 16, 32 ≤ (hexd m.val).toNat ∧ (hexd m.val).toNat < 128) ⟨n, h⟩
theorem four_at {u : Txt} {a : Nat} {c0 c1 c2 c3 : UInt8} {d0 d1 d2 d3 : Nat} (h0 : u[a]? = some c0) (h1 : u[a + 1]? = some c1) (h2 : u[a + 2]? = some c2) (h3 : u[a + 3]? = some c3)
    (e0 : dig16 (lowC c0) = some d0) (e1 : dig16 (lowC c1) = some d1) (e2 : dig16 (lowC c2) = some d2) (e3 : dig16 (lowC c3) = some d3) : fourT u 4 0 (a, 0) = (((d0 * 16 + d1) * 16 + d2) * 16 + d3, (a + 4, 0)) := by
  unfold fourT
  rw [next_at h0, e0]
  simp only
  unfold fourT
  rw [next_at h1, e1]
  simp only
  unfold fourT
  rw [next_at h2, e2]
  simp only
  unfold fourT
  rw [next_at h3, e3]
  simp [fourT]
theorem unlet_let {c : Nat} (h : letB c ≠ 0) : unletB (letB c) = some c ∧ letB c ≠ 117 ∧ letB c ≠ 47 ∧ letB c < 128 ∧ 32 ≤ letB c := by
  by_cases h1 : c = 34; · subst h1; decide
  by_cases h2 : c = 92; · subst h2; decide
  by_cases h3 : c = 8; · subst h3; decide
  by_cases h4 : c = 12; · subst h4; decide
  by_cases h5 : c = 10; · subst h5; decide
  by_cases h6 : c = 13; · subst h6; decide
  by_cases h7 : c = 9; · subst h7; decide
  unfold letB at h
  rw [if_neg h1, if_neg h2, if_neg h3, if_neg h4, if_neg h5, if_neg h6, if_neg h7] at h
  exact absurd rfl h
theorem unqGo_succ (s : Txt) (f : Nat) (x : Pt) (out : Txt) : unqGo s (f + 1) x out =
    if x.2 ≠ 0 then ([], 0, x.2)
    else if (signT s x).2.2 ≠ 0 then unqGo s f (signT s x).2 out
    else if (signT s x).1 = 34 then (out, (signT s x).2.1, 0)
    else if (signT s x).1 = 92 then unqGo s f (escT s (signT s x).2).2 (out ++ utf (escT s (signT s x).2).1)
    else unqGo s f (signT s x).2 (out ++ utf (signT s x).1) := rfl
/-- one sign, or what stands for one, is read -/
theorem go_step {u r tail : Txt} {a f : Nat} {out : Txt} (hne : r ≠ []) (hv : validD r = true) (h : u.drop a = qBs r ++ tail) :
    ∃ w, 1 ≤ w ∧ w ≤ r.length ∧ validD (r.drop w) = true ∧ u.drop (a + (qBs (r.take w)).length) = qBs (r.drop w) ++ tail ∧ unqGo u (f + 1) (a, 0) out = unqGo u f (a + (qBs (r.take w)).length, 0) (out ++ r.take w) := by
  obtain ⟨hg, hvn⟩ := valid_next hne hv
  have hdrop : ∀ w, u.drop (a + (qBs (r.take w)).length) = qBs (r.drop w) ++ tail := fun w => by
    have e : qBs r = qBs (r.take w) ++ qBs (r.drop w) := by rw [← qBs_append, List.take_append_drop]
    rw [e, List.append_assoc] at h
    exact drop_add h
  rcases sign_cases hne hg with ⟨c, r', hcr, hc, hd⟩ | ⟨g1, g2, g3, g4, g5, g6, g7⟩
  · subst hcr
    rw [hd] at hvn
    refine ⟨1, by simp, by simp, hvn, hdrop 1, ?_⟩
    have e1 : (c :: r').take 1 = [c] := rfl
    rw [e1, qBs_one]
    rw [qBs_cons, List.append_assoc] at h
    rw [unqGo_succ]
    rw [if_neg (by simp)]
    by_cases hx : letB c.toNat = 0
    · by_cases hy : c.toNat < 32
      · have eq : qB c = [92, 117, 48, 48] ++ [hexd (c.toNat / 16)] ++ [hexd (c.toNat % 16)] := by unfold qB; rw [if_neg (by simp [hx]), if_pos hy]
        rw [eq] at h ⊢
        have hs : signT u (a, 0) = (92, (a + 1, 0)) := sign_low (c := 92) h (by decide) (by decide)
        have hesc : escT u (a + 1, 0) = (c.toNat, (a + 6, 0)) := by
          unfold escT
          rw [next_at (get_drop h (j := 1) rfl)]
          dsimp only
          rw [if_neg (by simp), if_pos rfl]
          unfold unitT
          rw [four_at (a := a + 2) (c0 := 48) (c1 := 48) (c2 := hexd (c.toNat / 16)) (c3 := hexd (c.toNat % 16)) (d0 := 0) (d1 := 0) (get_drop h (j := 2) rfl) (get_drop h (j := 3) rfl) (get_drop h (j := 4) rfl) (get_drop h (j := 5) rfl) (by decide) (by decide) (hexd_dig (by omega)) (hexd_dig (by omega))]
          dsimp only
          rw [if_pos (.inr (.inl (by omega)))]
          congr 1
          omega
        rw [hs]
        dsimp only
        rw [hesc, if_neg (by simp), if_neg (by decide), if_pos rfl, utf_low hc]
        rfl
      · have eq : qB c = [c] := by unfold qB; rw [if_neg (by simp [hx]), if_neg hy]
        rw [eq] at h ⊢
        have hs : signT u (a, 0) = (c.toNat, (a + 1, 0)) := sign_low h hc (by omega)
        have n34 : c.toNat ≠ 34 := fun e => by rw [e] at hx; exact absurd hx (by decide)
        have n92 : c.toNat ≠ 92 := fun e => by rw [e] at hx; exact absurd hx (by decide)
        rw [hs]
        dsimp only
        rw [if_neg (by simp), if_neg n34, if_neg n92, utf_low hc]
        rfl
    · have eq : qB c = [92, UInt8.ofNat (letB c.toNat)] := by unfold qB; rw [if_pos hx]
      obtain ⟨u1, u2, u3, u4, u5⟩ := unlet_let hx
      rw [eq] at h ⊢
      have hs : signT u (a, 0) = (92, (a + 1, 0)) := sign_low (c := 92) h (by decide) (by decide)
      have eL : (UInt8.ofNat (letB c.toNat)).toNat = letB c.toNat := by rw [UInt8.toNat_ofNat', Nat.mod_eq_of_lt (by omega)]
      have hesc : escT u (a + 1, 0) = (c.toNat, (a + 2, 0)) := by
        unfold escT
        rw [next_at (get_drop h (j := 1) rfl)]
        dsimp only
        rw [if_neg (by simp), if_neg (fun e => u2 (by rw [← eL, e]; rfl)), if_neg (fun e => u3 (by rw [← eL, e]; rfl)), eL, u1]
      rw [hs]
      dsimp only
      rw [hesc, if_neg (by simp), if_neg (by decide), if_pos rfl, utf_low hc]
      rfl
  · refine ⟨(decodeL r).2, by omega, g5, hvn, hdrop _, ?_⟩
    have hq : qBs (r.take (decodeL r).2) = r.take (decodeL r).2 := qBs_high g6
    have hu : u.drop a = r.take (decodeL r).2 ++ (qBs (r.drop (decodeL r).2) ++ tail) := by
      rw [h]
      have e : qBs r = qBs (r.take (decodeL r).2) ++ qBs (r.drop (decodeL r).2) := by rw [← qBs_append, List.take_append_drop]
      rw [e, hq, List.append_assoc]
    have hdec : decodeL (u.drop a) = decodeL r := by rw [hu]; exact decode_prefix hne hg
    have hal : a < u.length := by
      have := congrArg List.length hu
      rw [List.length_drop, List.length_append, List.length_take] at this
      omega
    have hs : signT u (a, 0) = ((decodeL r).1, (a + (decodeL r).2, 0)) := by
      unfold signT badL
      simp only [hdec]
      rw [if_neg (by omega), if_neg]
      rintro (h1 | h1)
      · omega
      · exact hg h1
    have hlen : (r.take (decodeL r).2).length = (decodeL r).2 := by rw [List.length_take]; omega
    rw [hq, hlen]
    rw [unqGo_succ]
    rw [hs]
    dsimp only
    rw [if_neg (by simp), if_neg (by simp), if_neg (by omega), if_neg (by omega), g7]
theorem go_all {u tail : Txt} : ∀ (n : Nat) {r out : Txt} {a f : Nat}, r.length ≤ n → validD r = true → u.drop a = qBs r ++ tail → r.length ≤ f →
    ∃ g, f ≤ g + r.length ∧ g ≤ f ∧ unqGo u f (a, 0) out = unqGo u g (a + (qBs r).length, 0) (out ++ r)
  | 0, [], out, a, f, _, _, _, _ => ⟨f, by simp, Nat.le_refl _, by simp [qBs]⟩
  | n + 1, [], out, a, f, _, _, _, _ => ⟨f, by simp, Nat.le_refl _, by simp [qBs]⟩
  | n + 1, c :: r', out, a, f, hn, hv, h, hf => by
    obtain ⟨f', rfl⟩ : ∃ f', f = f' + 1 := ⟨f - 1, by simp at hf; omega⟩
    obtain ⟨w, w1, w2, w3, w4, w5⟩ := go_step (f := f') (out := out) (by simp) hv h
    have hdl : ((c :: r').drop w).length = (c :: r').length - w := List.length_drop
    obtain ⟨g, g1, g2, g3⟩ := go_all n (r := (c :: r').drop w) (out := out ++ (c :: r').take w) (a := a + (qBs ((c :: r').take w)).length) (f := f') (by omega) w3 w4 (by omega)
    refine ⟨g, by omega, by omega, ?_⟩
    have e : qBs (c :: r') = qBs ((c :: r').take w) ++ qBs ((c :: r').drop w) := by rw [← qBs_append, List.take_append_drop]
    rw [w5, g3, List.append_assoc, List.take_append_drop, e, List.length_append, Nat.add_assoc]
theorem wants_at {u : Txt} {a : Nat} {c : UInt8} (h : u[a]? = some c) : wantsT u c (a, 0) = (a + 1, 0) := by
  unfold wantsT; rw [next_at h]; simp
/-- what is quoted comes back, wherever it stands -/
theorem unq_quote {s ahead more : Txt} (hv : validD s = true) : unqS (ahead ++ quoteB s ++ more) ahead.length = (s, ahead.length + (quoteB s).length, 0) := by
  have hq : (ahead ++ quoteB s ++ more).drop ahead.length = 34 :: (qBs s ++ 34 :: more) := by
    rw [List.append_assoc, List.drop_left' rfl]; simp [quoteB]
  have hlen : (ahead ++ quoteB s ++ more).length = ahead.length + (2 + (qBs s).length) + more.length := by simp [quoteB]; omega
  generalize hu : ahead ++ quoteB s ++ more = u at *
  have hd1 : u.drop (ahead.length + 1) = qBs s ++ 34 :: more := by rw [← List.drop_drop, hq]; rfl
  unfold unqS
  rw [if_neg (by omega), Int.toNat_natCast, wants_at (a := ahead.length) (get_drop (j := 0) hq rfl)]
  have hql : s.length ≤ (qBs s).length := by
    clear hq hd1 hlen hu hv
    induction s with
    | nil => simp
    | cons b s ih => rw [qBs_cons, List.length_append, List.length_cons]; have := (qB_len b).1; omega
  obtain ⟨g, g1, g2, g3⟩ := go_all s.length (r := s) (out := []) (a := ahead.length + 1) (f := 2 * u.length + 4) (Nat.le_refl _) hv hd1 (by omega)
  rw [g3, List.nil_append]
  obtain ⟨g', rfl⟩ : ∃ g', g = g' + 1 := ⟨g - 1, by omega⟩
  have hd2 := drop_add hd1
  rw [unqGo_succ]
  rw [sign_low hd2 (by decide) (by decide)]
  dsimp only
  rw [if_neg (by simp), if_neg (by simp), if_pos (by decide)]
  congr 2
  simp [quoteB]
  omega
/-- without its end it is too short -/
theorem unq_cut {s : Txt} (hv : validD s = true) : (unqS (34 :: qBs s) 0).2.2 = 2 := by
  have hd1 : (34 :: qBs s).drop 1 = qBs s ++ [] := by simp
  have h0 : (34 :: qBs s)[0]? = some 34 := rfl
  have hlen : (34 :: qBs s).length = (qBs s).length + 1 := rfl
  generalize 34 :: qBs s = u at *
  unfold unqS
  rw [if_neg (by omega), wants_at (a := (0 : Int).toNat) h0]
  have hql : s.length ≤ (qBs s).length := by
    clear hd1 hlen hv
    induction s with
    | nil => simp
    | cons b s ih => rw [qBs_cons, List.length_append, List.length_cons]; have := (qB_len b).1; omega
  obtain ⟨g, g1, g2, g3⟩ := go_all s.length (r := s) (out := []) (a := 1) (f := 2 * u.length + 4) (Nat.le_refl _) hv hd1 (by omega)
  rw [show ((0 : Int).toNat + 1) = 1 from rfl, g3]
  obtain ⟨g', rfl⟩ : ∃ g', g = g' + 1 := ⟨g - 1, by omega⟩
  have hs : signT u (1 + (qBs s).length, 0) = (0, (1 + (qBs s).length, 2)) := by
    unfold signT
    rw [if_pos (by simp only; omega)]
    rfl
  rw [unqGo_succ]
  rw [hs]
  dsimp only
  rw [if_neg (by simp), if_pos (by simp)]
  cases g' with
  | zero => rfl
  | succ g' => rw [unqGo_succ]; rw [if_pos (by simp)]
theorem quoteB_high (s : Txt) : ∀ b ∈ quoteB s, 32 ≤ b.toNat := by
  have hB : ∀ c : UInt8, ∀ b ∈ qB c, 32 ≤ b.toNat := fun c b hb => by
    unfold qB at hb
    split at hb
    · rename_i hx
      obtain ⟨u1, u2, u3, u4, u5⟩ := unlet_let hx
      simp only [List.mem_cons, List.mem_nil_iff, or_false] at hb
      rcases hb with rfl | rfl
      · decide
      · rw [UInt8.toNat_ofNat', Nat.mod_eq_of_lt (by omega)]; exact u5
    · split at hb
      · rename_i hy
        have := c.toNat_lt
        simp only [List.mem_append, List.mem_cons, List.mem_nil_iff, or_false] at hb
        rcases hb with ((rfl | rfl | rfl | rfl) | rfl) | rfl
        · decide
        · decide
        · decide
        · decide
        · exact (hexd_high (by omega)).1
        · exact (hexd_high (by omega)).1
      · simp only [List.mem_cons, List.mem_nil_iff, or_false] at hb
        subst hb; omega
  intro b hb
  unfold quoteB at hb
  simp only [List.mem_cons, List.mem_append, List.mem_nil_iff, or_false] at hb
  rcases hb with rfl | hb | rfl
  · decide
  · unfold qBs at hb
    rw [List.mem_flatMap] at hb
    obtain ⟨c, _, hc⟩ := hb
    exact hB c b hc
  · decide
/-! ### two texts -/
theorem count_step {l : Txt} (hne : l ≠ []) : runeCountL l = 1 + runeCountL (l.drop (decodeL l).2) := by
  have hl : 0 < l.length := List.length_pos_iff.2 hne
  have hsz : (⟨l.toArray⟩ : ByteArray).size = l.length := by show l.toArray.size = _; simp
  have hw := (dec_facts l hne).2.1
  have e1 : runeCountL l = 1 + runeCountFrom ⟨l.toArray⟩ (l.length - 1) (decodeL l).2 := by
    unfold runeCountL runeCount
    rw [hsz, show l.length = (l.length - 1) + 1 by omega]
    simp only [runeCountFrom]
    rw [if_pos (by rw [hsz]; exact hl), Nat.zero_add]
    rfl
  rw [e1]
  congr 1
  have e2 := tail_count ⟨l.toArray⟩ (decodeL l).2 (l.length - 1) 0
  rw [Nat.add_zero] at e2
  rw [← e2]
  unfold runeCountL runeCount
  have hx : (⟨l.toArray⟩ : ByteArray).extract (decodeL l).2 (⟨l.toArray⟩ : ByteArray).size = ⟨(l.drop (decodeL l).2).toArray⟩ := by
    have e := ext_list ⟨l.toArray⟩ (decodeL l).2
    cases h : (⟨l.toArray⟩ : ByteArray).extract (decodeL l).2 (⟨l.toArray⟩ : ByteArray).size with
    | mk d =>
      rw [h] at e
      simp only at e
      rw [← e]
  rw [hx]
  have hsz2 : (⟨(l.drop (decodeL l).2).toArray⟩ : ByteArray).size = l.length - (decodeL l).2 := by show (l.drop (decodeL l).2).toArray.size = _; simp
  exact fuel_enough _ _ _ _ (by omega) (by omega)
theorem valid_append : ∀ (n : Nat) {a b : Txt}, a.length ≤ n → validD a = true → validD (a ++ b) = validD b ∧ runeCountL (a ++ b) = runeCountL a + runeCountL b := by
  intro n
  induction n with
  | zero =>
    intro a b ha _
    have : a = [] := List.eq_nil_of_length_eq_zero (by omega)
    subst this
    exact ⟨rfl, by have : runeCountL ([] : Txt) = 0 := rfl; rw [this, Nat.zero_add]; rfl⟩
  | succ n ih =>
    intro a b ha hv
    by_cases hne : a = []
    · subst hne; exact ⟨rfl, by have : runeCountL ([] : Txt) = 0 := rfl; rw [this, Nat.zero_add]; rfl⟩
    · obtain ⟨hg, hvn⟩ := valid_next hne hv
      obtain ⟨f1, f2, _, _⟩ := dec_facts a hne
      have hw := f1 hg
      have e : a ++ b = a.take (decodeL a).2 ++ (a.drop (decodeL a).2 ++ b) := by rw [← List.append_assoc, List.take_append_drop]
      have hd : decodeL (a ++ b) = decodeL a := by rw [e]; exact decode_prefix hne hg
      have hdr : (a ++ b).drop (decodeL a).2 = a.drop (decodeL a).2 ++ b := by rw [List.drop_append_of_le_length hw]
      have hne2 : a ++ b ≠ [] := by simp [hne]
      obtain ⟨i1, i2⟩ := ih (a := a.drop (decodeL a).2) (b := b) (by rw [List.length_drop]; omega) hvn
      refine ⟨?_, ?_⟩
      · rw [validD_step _ hne2, hd, if_neg (c := (decodeL a).1 = 65533 ∧ (decodeL a).2 = 1) hg, hdr, i1]
      · rw [count_step hne2, hd, hdr, i2, count_step hne]; omega
end Go.Ez
