/- Laws of tokens: what stands behind a token's next byte says nothing of it. No program stands here. -/
import Derived.Test.YthbdnbeiafpkcaaDoorWSpecb
set_option linter.unusedVariables false
namespace Go.Proofs.YthbdnbeiafpkcaaDoor
namespace Wo
theorem runL_app (p : UInt8 → Bool) (m : Bs) : ∀ (l : Bs), runL p l < l.length → runL p (l ++ m) = runL p l
  | [], h => absurd h (Nat.lt_irrefl 0)
  | c :: l, h => by
    simp only [List.cons_append]
    unfold runL
    by_cases hc : p c = true
    · rw [if_pos hc, if_pos hc, runL_app p m l (by unfold runL at h; rw [if_pos hc, List.length_cons] at h; omega)]
    · rw [if_neg hc, if_neg hc]
theorem stepL_eq (l : Bs) : stepL l = runL isBlank l + (if (l.drop (runL isBlank l)).head? = some 35 then runL notNl (l.drop (runL isBlank l)) else 0) := rfl
theorem drop_app (l m : Bs) (k : Nat) (h : k ≤ l.length) : (l ++ m).drop k = l.drop k ++ m := by
  rw [List.drop_append, Nat.sub_eq_zero_of_le h, List.drop_zero]
theorem take_app (l m : Bs) (k : Nat) (h : k ≤ l.length) : (l ++ m).take k = l.take k := by
  rw [List.take_append, Nat.sub_eq_zero_of_le h, List.take_zero, List.append_nil]
theorem stepL_app (l m : Bs) (h : stepL l < l.length) : stepL (l ++ m) = stepL l := by
  rw [stepL_eq] at h
  have h1 : runL isBlank l < l.length := by omega
  rw [stepL_eq, stepL_eq, runL_app isBlank m l h1, drop_app l m _ (by omega)]
  have hne : l.drop (runL isBlank l) ≠ [] := by
    intro e; have := congrArg List.length e; rw [List.length_drop] at this; simp at this; omega
  have hh : (l.drop (runL isBlank l) ++ m).head? = (l.drop (runL isBlank l)).head? := by
    cases hd : l.drop (runL isBlank l) with
    | nil => exact absurd hd hne
    | cons a r => rfl
  rw [hh]
  split
  · rename_i hq
    rw [if_pos hq] at h
    rw [runL_app notNl m _ (by rw [List.length_drop]; omega)]
  · rfl
theorem stepL_le_pass (l : Bs) : stepL l ≤ passL l := by
  by_cases h : stepL l = 0
  · omega
  · rw [passL_step l h]; omega
theorem passL_app (m : Bs) : ∀ (n : Nat) (l : Bs), l.length ≤ n → passL l < l.length → passL (l ++ m) = passL l
  | 0, l, hn, h => by omega
  | n + 1, l, hn, h => by
    have hs := stepL_le_pass l
    have ha := stepL_app l m (by omega)
    by_cases h0 : stepL l = 0
    · rw [passL_stop l h0, passL_stop _ (by rw [ha]; exact h0)]
    · have hp := passL_step l h0
      rw [passL_step l h0, passL_step (l ++ m) (by rw [ha]; exact h0), ha, drop_app l m _ (by omega)]
      rw [passL_app m n _ (by rw [List.length_drop]; omega) (by rw [List.length_drop]; omega)]
theorem esc_app (l m : Bs) (h : (esc l).2 ≠ 0) : esc (l ++ m) = esc l := by
  match l with
  | [] => exact absurd rfl h
  | c :: r =>
    show (if c.toNat = 34 ∨ c.toNat = 92 then (c, 1) else if c.toNat = 110 then (10, 1) else if c.toNat = 120 then escX (r ++ m) else (0, 0)) = (if c.toNat = 34 ∨ c.toNat = 92 then (c, 1) else if c.toNat = 110 then (10, 1) else if c.toNat = 120 then escX r else (0, 0))
    have h' : (if c.toNat = 34 ∨ c.toNat = 92 then (c, 1) else if c.toNat = 110 then (10, 1) else if c.toNat = 120 then escX r else ((0 : UInt8), 0)).2 ≠ 0 := h
    split
    · rfl
    · split
      · rfl
      · split
        · rename_i h1 h2 h3
          rw [if_neg h1, if_neg h2, if_pos h3] at h'
          match r with
          | [] => exact absurd rfl h'
          | [x] => exact absurd rfl h'
          | x :: y :: q => rfl
        · rfl
theorem tx_app (m : Bs) : ∀ (n : Nat) (l : Bs) (r : Bs × Nat), l.length ≤ n → tx l = some r → tx (l ++ m) = some r
  | n, [], r, hn, h => by cases h
  | 0, c :: l, r, hn, h => by simp at hn
  | n + 1, c :: l, r, hn, h => by
    simp only [List.length_cons] at hn
    rw [tx_cons] at h
    rw [List.cons_append, tx_cons]
    by_cases p1 : c.toNat = 34
    · simp only [if_pos p1] at h ⊢; exact h
    · simp only [if_neg p1] at h ⊢
      by_cases p2 : c.toNat < 32
      · simp only [if_pos p2] at h; cases h
      · simp only [if_neg p2] at h ⊢
        by_cases p3 : c.toNat = 92
        · simp only [if_pos p3] at h ⊢
          by_cases p4 : (esc l).2 = 0
          · simp only [if_pos p4] at h; cases h
          · have he := esc_le l
            simp only [if_neg p4] at h
            rw [esc_app l m p4, if_neg p4, drop_app l m _ he]
            obtain ⟨q, hq, rfl⟩ := Option.map_eq_some_iff.1 h
            rw [tx_app m n _ q (by rw [List.length_drop]; omega) hq]; rfl
        · simp only [if_neg p3] at h ⊢
          obtain ⟨q, hq, rfl⟩ := Option.map_eq_some_iff.1 h
          rw [tx_app m n _ q (by omega) hq]; rfl
theorem isPre_app (y u m : Bs) (h : y.length ≤ u.length) : y.isPrefixOf (u ++ m) = y.isPrefixOf u := by
  rw [Bool.eq_iff_iff, List.isPrefixOf_iff_prefix, List.isPrefixOf_iff_prefix, List.prefix_iff_eq_take, List.prefix_iff_eq_take, take_app u m _ h]
theorem signs_le : ∀ x ∈ signs, x.length ≤ 2 ∧ 1 ≤ x.length := by decide
theorem signL_app (u m : Bs) (h : 2 ≤ u.length) : signL (u ++ m) = signL u := by
  unfold signL
  have : signs.find? (fun x => x.isPrefixOf (u ++ m)) = signs.find? (fun x => x.isPrefixOf u) := by
    have key : ∀ (l : List Bs), (∀ x ∈ l, x.length ≤ 2) → l.find? (fun x => x.isPrefixOf (u ++ m)) = l.find? (fun x => x.isPrefixOf u) := by
      intro l
      induction l with
      | nil => intro _; rfl
      | cons a l ih =>
        intro hl
        rw [List.find?_cons, List.find?_cons, isPre_app a u m (Nat.le_trans (hl a (by simp)) h), ih (fun x hx => hl x (by simp [hx]))]
    exact key signs (fun x hx => (signs_le x hx).1)
  rw [this]
theorem foundL_app (u m : Bs) (h0 : (foundL u).len ≠ 0) (h : (foundL u).len < u.length) : foundL (u ++ m) = foundL u := by
  match u with
  | [] => exact absurd h (Nat.lt_irrefl 0)
  | c :: r =>
    have e1 : foundL (c :: r ++ m) = if isDigit c then (if decL ((c :: r ++ m).take (runL isDigit (c :: r ++ m))) < 9223372036854775808 then ⟨1, [], decL ((c :: r ++ m).take (runL isDigit (c :: r ++ m))), runL isDigit (c :: r ++ m)⟩ else noTok)
      else if c.toNat = 34 then ⟨2, (textL (c :: r ++ m)).1, 0, (textL (c :: r ++ m)).2⟩
      else if isLetter c then ⟨if keys.contains ((c :: r ++ m).take (runL alnum (c :: r ++ m))) then 4 else 3, (c :: r ++ m).take (runL alnum (c :: r ++ m)), 0, runL alnum (c :: r ++ m)⟩
      else signL (c :: r ++ m) := rfl
    have e2 : foundL (c :: r) = if isDigit c then (if decL ((c :: r).take (runL isDigit (c :: r))) < 9223372036854775808 then ⟨1, [], decL ((c :: r).take (runL isDigit (c :: r))), runL isDigit (c :: r)⟩ else noTok)
      else if c.toNat = 34 then ⟨2, (textL (c :: r)).1, 0, (textL (c :: r)).2⟩
      else if isLetter c then ⟨if keys.contains ((c :: r).take (runL alnum (c :: r))) then 4 else 3, (c :: r).take (runL alnum (c :: r)), 0, runL alnum (c :: r)⟩
      else signL (c :: r) := rfl
    rw [e2] at h0 h
    rw [e1, e2]
    by_cases p1 : isDigit c = true
    · simp only [if_pos p1] at h0 h ⊢
      by_cases p2 : decL ((c :: r).take (runL isDigit (c :: r))) < 9223372036854775808
      · simp only [if_pos p2] at h
        rw [runL_app isDigit m _ h, take_app _ m _ (by omega)]
      · simp only [if_neg p2] at h0; exact absurd rfl h0
    · simp only [if_neg p1] at h0 h ⊢
      by_cases p2 : c.toNat = 34
      · simp only [if_pos p2] at h0 h ⊢
        have ht : textL (c :: r ++ m) = textL (c :: r) := by
          unfold textL at h0 ⊢
          simp only [List.cons_append, List.drop_succ_cons, List.drop_zero] at h0 ⊢
          cases hx : tx r with
          | none => rw [hx] at h0; exact absurd rfl h0
          | some q => rw [tx_app m _ r q (Nat.le_refl _) hx]
        rw [ht]
      · simp only [if_neg p2] at h0 h ⊢
        by_cases p3 : isLetter c = true
        · simp only [if_pos p3] at h0 h ⊢
          rw [runL_app alnum m _ h, take_app _ m _ (by omega)]
        · simp only [if_neg p3] at h0 h ⊢
          exact signL_app _ m (by omega)
theorem nextL_in (t : Bs) (a : Nat) (h : t.length ≤ 32768) (ha : a ≤ t.length) : nextL t a = (if a + passL (t.drop a) = t.length then ⟨6, [], 0, lineL t (a + passL (t.drop a)), a + passL (t.drop a), a + passL (t.drop a), 0, 0⟩ else
    if (foundL (t.drop (a + passL (t.drop a)))).len = 0 then ⟨0, [], 0, 0, 0, 0, 100, lineL t (a + passL (t.drop a))⟩ else
    ⟨(foundL (t.drop (a + passL (t.drop a)))).kind, (foundL (t.drop (a + passL (t.drop a)))).s, (foundL (t.drop (a + passL (t.drop a)))).n, lineL t (a + passL (t.drop a)), a + passL (t.drop a), a + passL (t.drop a) + (foundL (t.drop (a + passL (t.drop a)))).len, 0, 0⟩) := by
  unfold nextL
  rw [if_neg (by omega), if_neg (by omega), Int.toNat_natCast]
theorem near (t m : Bs) (at' : Int) (ht : t.length ≤ 500) (hm : m.length ≤ 500) (h1 : (nextL t at').err = 0) (h2 : (nextL t at').kind ≠ 6) (h3 : (nextL t at').end' < t.length) : nextL (t ++ m) at' = nextL t at' := by
  by_cases ha : at' < 0 ∨ (t.length : Int) < at'
  · unfold nextL at h1; rw [if_neg (by omega), if_pos ha] at h1; cases h1
  · obtain ⟨a, rfl⟩ := Int.eq_ofNat_of_zero_le (show 0 ≤ at' by omega)
    have hle := passL_le (t.drop a)
    rw [List.length_drop] at hle
    rw [nextL_in t a (by omega) (by omega)] at h1 h2 h3
    rw [nextL_in t a (by omega) (by omega), nextL_in (t ++ m) a (by rw [List.length_append]; omega) (by rw [List.length_append]; omega), drop_app t m a (by omega)]
    by_cases he : a + passL (t.drop a) = t.length
    · rw [if_pos he] at h2; exact absurd rfl h2
    · rw [if_neg he] at h1 h2 h3 ⊢
      have hp : passL (t.drop a ++ m) = passL (t.drop a) := passL_app m _ (t.drop a) (Nat.le_refl _) (by rw [List.length_drop]; omega)
      rw [hp, if_neg (by rw [List.length_append]; omega), drop_app t m _ (by omega)]
      by_cases hf : (foundL (t.drop (a + passL (t.drop a)))).len = 0
      · rw [if_pos hf] at h1; cases h1
      · rw [if_neg hf] at h3
        have hfa := foundL_app (t.drop (a + passL (t.drop a))) m hf (by rw [List.length_drop]; simp only at h3; omega)
        have hl : lineL (t ++ m) (a + passL (t.drop a)) = lineL t (a + passL (t.drop a)) := by unfold lineL; rw [take_app t m _ (by omega)]
        rw [hfa, hl]
end Wo
end Go.Proofs.YthbdnbeiafpkcaaDoor
