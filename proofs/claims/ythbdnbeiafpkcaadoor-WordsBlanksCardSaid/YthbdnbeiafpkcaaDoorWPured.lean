/- Laws of tokens: cut out, and put elsewhere with a blank behind, they are told again. No program stands here. -/
import Derived.Test.YthbdnbeiafpkcaaDoorWPureb
set_option linter.unusedVariables false
namespace Go.Proofs.YthbdnbeiafpkcaaDoor
namespace Wo
theorem runL_pos (p : UInt8 → Bool) (a : UInt8) (l : Bs) (h : p a = true) : runL p (a :: l) = runL p l + 1 := by
  show (if p a then _ else _) = _; rw [if_pos h]
theorem runL_neg (p : UInt8 → Bool) (a : UInt8) (l : Bs) (h : p a = false) : runL p (a :: l) = 0 := by
  show (if p a then _ else _) = _; rw [if_neg (by rw [h]; decide)]
theorem runL_cut (p : UInt8 → Bool) (c : UInt8) (r : Bs) (hc : p c = false) : ∀ (l : Bs), runL p (l.take (runL p l) ++ c :: r) = runL p l
  | [] => runL_neg p c r hc
  | a :: l => by
    by_cases ha : p a = true
    · rw [runL_pos p a l ha, List.take_succ_cons, List.cons_append, runL_pos p a _ ha, runL_cut p c r hc l]
    · rw [runL_neg p a l (Bool.eq_false_iff.2 ha)]
      exact runL_neg p c r hc
theorem take_cut (l m : Bs) (k : Nat) (h : k ≤ l.length) : (l.take k ++ m).take k = l.take k := by
  rw [List.take_append, List.length_take, Nat.min_eq_left h, Nat.sub_self, List.take_zero, List.append_nil, List.take_take, Nat.min_self]
theorem drop_cut (l m : Bs) (k : Nat) (h : k ≤ l.length) : (l.take k ++ m).drop k = m := by
  rw [List.drop_append, List.length_take, Nat.min_eq_left h, Nat.sub_self, List.drop_zero, List.drop_eq_nil_of_le (by rw [List.length_take]; omega), List.nil_append]
theorem runL_take_all (p : UInt8 → Bool) (l : Bs) (P : UInt8 → Prop) (h : ∀ x, p x = true → P x) : ∀ x ∈ l.take (runL p l), P x := by
  induction l with
  | nil => intro x hx; simp at hx
  | cons a l ih =>
    intro x hx
    by_cases ha : p a = true
    · rw [runL_pos p a l ha, List.take_succ_cons] at hx
      rcases List.mem_cons.1 hx with rfl | hx
      · exact h _ ha
      · exact ih x hx
    · rw [runL_neg p a l (Bool.eq_false_iff.2 ha)] at hx; simp at hx
theorem hexv_ge (c : UInt8) (n : Nat) (h : hexv c = some n) : 32 ≤ c.toNat := by
  unfold hexv at h
  split at h
  · omega
  · split at h
    · omega
    · cases h
theorem esc_cut (m : Bs) : ∀ (l : Bs), (esc l).2 ≠ 0 → esc (l.take (esc l).2 ++ m) = esc l ∧ ∀ x ∈ l.take (esc l).2, 32 ≤ x.toNat
  | [], h => absurd rfl h
  | c :: r, h => by
    have e : esc (c :: r) = (if c.toNat = 34 ∨ c.toNat = 92 then (c, 1) else if c.toNat = 110 then (10, 1) else if c.toNat = 120 then escX r else (0, 0)) := rfl
    have e' : ∀ q, esc (c :: q) = (if c.toNat = 34 ∨ c.toNat = 92 then (c, 1) else if c.toNat = 110 then (10, 1) else if c.toNat = 120 then escX q else (0, 0)) := fun _ => rfl
    rw [e] at h ⊢
    by_cases p1 : c.toNat = 34 ∨ c.toNat = 92
    · rw [if_pos p1]
      refine ⟨?_, fun x hx => ?_⟩
      · show esc (c :: m) = _; rw [e', if_pos p1]
      · simp at hx; subst hx; omega
    · rw [if_neg p1] at h ⊢
      by_cases p2 : c.toNat = 110
      · rw [if_pos p2]
        refine ⟨?_, fun x hx => ?_⟩
        · show esc (c :: m) = _; rw [e', if_neg p1, if_pos p2]
        · simp at hx; subst hx; omega
      · rw [if_neg p2] at h ⊢
        by_cases p3 : c.toNat = 120
        · rw [if_pos p3] at h ⊢
          match r, h with
          | [], h => exact absurd rfl h
          | [x], h => exact absurd rfl h
          | x :: y :: q, h =>
            have ex : ∀ q, escX (x :: y :: q) = (match hexv x, hexv y with
              | some a, some b => (UInt8.ofNat (16 * a + b), 3)
              | _, _ => (0, 0)) := fun _ => rfl
            rw [ex] at h ⊢
            cases hx : hexv x with
            | none => rw [hx] at h; exact absurd rfl h
            | some a =>
              cases hy : hexv y with
              | none => rw [hx, hy] at h; exact absurd rfl h
              | some b =>
                refine ⟨?_, fun z hz => ?_⟩
                · show esc (c :: x :: y :: m) = _
                  rw [e', if_neg p1, if_neg p2, if_pos p3, ex, hx, hy]
                · have hz' : z = c ∨ z = x ∨ z = y := by simpa using hz
                  rcases hz' with rfl | rfl | rfl
                  · omega
                  · exact hexv_ge _ _ hx
                  · exact hexv_ge _ _ hy
        · rw [if_neg p3] at h; exact absurd rfl h
theorem tx_cut (m : Bs) : ∀ (n : Nat) (l : Bs) (r : Bs × Nat), l.length ≤ n → tx l = some r → tx (l.take r.2 ++ m) = some r ∧ ∀ x ∈ l.take r.2, 32 ≤ x.toNat
  | n, [], r, hn, h => by cases h
  | 0, c :: l, r, hn, h => by simp at hn
  | n + 1, c :: l, r, hn, h => by
    simp only [List.length_cons] at hn
    rw [tx_cons] at h
    by_cases p1 : c.toNat = 34
    · rw [if_pos p1] at h; cases h
      refine ⟨?_, fun x hx => ?_⟩
      · show tx (c :: m) = _; rw [tx_cons, if_pos p1]
      · simp at hx; subst hx; omega
    · rw [if_neg p1] at h
      by_cases p2 : c.toNat < 32
      · rw [if_pos p2] at h; cases h
      · rw [if_neg p2] at h
        by_cases p3 : c.toNat = 92
        · rw [if_pos p3] at h
          by_cases p4 : (esc l).2 = 0
          · rw [if_pos p4] at h; cases h
          · have he := esc_le l
            rw [if_neg p4] at h
            obtain ⟨q, hq, rfl⟩ := Option.map_eq_some_iff.1 h
            obtain ⟨i1, i2⟩ := tx_cut m n _ q (by rw [List.length_drop]; omega) hq
            have ht : (c :: l).take (q.2 + (esc l).2 + 1) = c :: (l.take (esc l).2 ++ (l.drop (esc l).2).take q.2) := by
              rw [List.take_succ_cons, Nat.add_comm, List.take_add]
            obtain ⟨j1, j2⟩ := esc_cut ((l.drop (esc l).2).take q.2 ++ m) l p4
            simp only
            rw [ht]
            refine ⟨?_, fun x hx => ?_⟩
            · rw [List.cons_append, List.append_assoc, tx_cons, if_neg p1, if_neg p2, if_pos p3, j1, if_neg p4, drop_cut l _ _ he, i1]; rfl
            · rcases List.mem_cons.1 hx with rfl | hx
              · omega
              · rcases List.mem_append.1 hx with hx | hx
                · exact j2 x hx
                · exact i2 x hx
        · rw [if_neg p3] at h
          obtain ⟨q, hq, rfl⟩ := Option.map_eq_some_iff.1 h
          obtain ⟨i1, i2⟩ := tx_cut m n _ q (by omega) hq
          simp only
          rw [List.take_succ_cons]
          refine ⟨?_, fun x hx => ?_⟩
          · rw [List.cons_append, tx_cons, if_neg p1, if_neg p2, if_neg p3, i1]; rfl
          · rcases List.mem_cons.1 hx with rfl | hx
            · omega
            · exact i2 x hx
theorem count_ten (l : Bs) (h : ∀ x ∈ l, x.toNat ≠ 10) : l.count 10 = 0 := by
  rw [List.count_eq_zero]
  intro hm
  exact h 10 hm rfl
theorem stepL_head (c : UInt8) (l : Bs) (hb : isBlank c = false) (h : c.toNat ≠ 35) : stepL (c :: l) = 0 := by
  rw [stepL_eq, runL_neg _ _ _ hb, List.drop_zero, if_neg]
  intro e
  have : c = 35 := by simpa using e
  exact h (by rw [this]; rfl)
/-- a token and its bytes -/
structure Good (f : Tok) (b : Bs) : Prop where
  len : f.len = b.length
  pos : 1 ≤ b.length
  found : ∀ r, foundL (b ++ 32 :: r) = f
  line : b.count 10 = 0
  begins : ∀ r, stepL (b ++ r) = 0
theorem foundL_cases (c : UInt8) (u : Bs) : foundL (c :: u) = if isDigit c then (if decL ((c :: u).take (runL isDigit (c :: u))) < 9223372036854775808 then ⟨1, [], decL ((c :: u).take (runL isDigit (c :: u))), runL isDigit (c :: u)⟩ else noTok)
      else if c.toNat = 34 then ⟨2, (textL (c :: u)).1, 0, (textL (c :: u)).2⟩
      else if isLetter c then ⟨if keys.contains ((c :: u).take (runL alnum (c :: u))) then 4 else 3, (c :: u).take (runL alnum (c :: u)), 0, runL alnum (c :: u)⟩
      else signL (c :: u) := rfl
theorem signs_cut : ∀ x ∈ signs, ∀ r, foundL (x ++ 32 :: r) = ⟨5, x, 0, x.length⟩ := by
  intro x hx r
  unfold signs at hx
  simp only [List.mem_cons, List.not_mem_nil, or_false] at hx
  rcases hx with rfl | rfl | rfl | rfl | rfl | rfl | rfl | rfl | rfl | rfl | rfl | rfl | rfl | rfl | rfl | rfl | rfl | rfl | rfl | rfl | rfl | rfl | rfl | rfl <;> rfl
theorem signs_begin : ∀ x ∈ signs, ∀ r, stepL (x ++ r) = 0 := by
  intro x hx r
  unfold signs at hx
  simp only [List.mem_cons, List.not_mem_nil, or_false] at hx
  rcases hx with rfl | rfl | rfl | rfl | rfl | rfl | rfl | rfl | rfl | rfl | rfl | rfl | rfl | rfl | rfl | rfl | rfl | rfl | rfl | rfl | rfl | rfl | rfl | rfl <;> exact stepL_head _ _ (by decide) (by decide)
theorem signs_line : ∀ x ∈ signs, x.count 10 = 0 := by decide
theorem dig32 : isDigit 32 = false := by decide
theorem aln32 : alnum 32 = false := by decide
theorem dig_lets (c : UInt8) (h : isDigit c = true) : isBlank c = false ∧ c.toNat ≠ 35 ∧ c.toNat ≠ 10 := by
  unfold isDigit at h; unfold isBlank; simp at h ⊢; omega
theorem let_lets (c : UInt8) (h : isLetter c = true) : isBlank c = false ∧ c.toNat ≠ 35 ∧ c.toNat ≠ 10 := by
  unfold isLetter at h; unfold isBlank; simp at h ⊢; omega
theorem alnum_lets (c : UInt8) (h : alnum c = true) : c.toNat ≠ 10 := by
  unfold alnum at h
  rcases Bool.or_eq_true_iff.1 h with h | h
  · exact (let_lets c h).2.2
  · exact (dig_lets c h).2.2
theorem good_of (u : Bs) (h0 : (foundL u).len ≠ 0) : Good (foundL u) (u.take (foundL u).len) := by
  have hle := foundL_len u
  match u with
  | [] => exact absurd rfl h0
  | c :: u =>
    rw [foundL_cases] at h0 hle ⊢
    by_cases p1 : isDigit c = true
    · rw [if_pos p1] at h0 hle ⊢
      by_cases p2 : decL ((c :: u).take (runL isDigit (c :: u))) < 9223372036854775808
      · rw [if_pos p2] at h0 hle ⊢
        simp only at h0 hle ⊢
        have hk : runL isDigit (c :: u) = runL isDigit u + 1 := runL_pos _ _ _ p1
        refine ⟨by rw [List.length_take, Nat.min_eq_left hle], by rw [List.length_take]; omega, fun r => ?_, ?_, fun r => ?_⟩
        · have hc := runL_cut isDigit 32 r dig32 (c :: u)
          have ht := take_cut (c :: u) (32 :: r) _ hle
          have e : (c :: u).take (runL isDigit (c :: u)) ++ 32 :: r = c :: (u.take (runL isDigit u) ++ 32 :: r) := by rw [hk, List.take_succ_cons, List.cons_append]
          rw [e] at hc ht ⊢
          rw [foundL_cases, if_pos p1, hc, ht, if_pos p2]
        · exact count_ten _ (runL_take_all isDigit _ _ fun x hx => (dig_lets x hx).2.2)
        · rw [hk, List.take_succ_cons, List.cons_append]
          exact stepL_head c _ (dig_lets c p1).1 (dig_lets c p1).2.1
      · rw [if_neg p2] at h0; exact absurd rfl h0
    · rw [if_neg p1] at h0 hle ⊢
      by_cases p2 : c.toNat = 34
      · rw [if_pos p2] at h0 hle ⊢
        have ec : c = 34 := UInt8.toNat_inj.1 p2
        have et : textL (c :: u) = (match tx u with
          | some r => (r.1, r.2 + 1)
          | none => ([], 0)) := rfl
        rw [et] at h0 hle ⊢
        cases hx : tx u with
        | none => rw [hx] at h0; exact absurd rfl h0
        | some q =>
          simp only [hx] at hle ⊢
          rw [List.take_succ_cons]
          refine ⟨by simp only [List.length_cons, List.length_take] at hle ⊢; omega, by simp, fun r => ?_, ?_, fun r => ?_⟩
          · have hc := (tx_cut (32 :: r) _ u q (Nat.le_refl _) hx).1
            rw [List.cons_append, foundL_cases, if_neg p1, if_pos p2]
            have et' : textL (c :: (u.take q.2 ++ 32 :: r)) = (match tx (u.take q.2 ++ 32 :: r) with
              | some r => (r.1, r.2 + 1)
              | none => ([], 0)) := rfl
            rw [et', hc]
          · refine count_ten _ fun x hx' => ?_
            rcases List.mem_cons.1 hx' with rfl | hx'
            · omega
            · have := (tx_cut [] _ u q (Nat.le_refl _) hx).2 x hx'; omega
          · exact stepL_head c _ (by rw [ec]; decide) (by omega)
      · rw [if_neg p2] at h0 hle ⊢
        by_cases p3 : isLetter c = true
        · rw [if_pos p3] at h0 hle ⊢
          simp only at h0 hle ⊢
          have pa : alnum c = true := by unfold alnum; rw [p3]; rfl
          have hk : runL alnum (c :: u) = runL alnum u + 1 := runL_pos _ _ _ pa
          refine ⟨by rw [List.length_take, Nat.min_eq_left hle], by rw [List.length_take]; omega, fun r => ?_, ?_, fun r => ?_⟩
          · have hc := runL_cut alnum 32 r aln32 (c :: u)
            have ht := take_cut (c :: u) (32 :: r) _ hle
            have e : (c :: u).take (runL alnum (c :: u)) ++ 32 :: r = c :: (u.take (runL alnum u) ++ 32 :: r) := by rw [hk, List.take_succ_cons, List.cons_append]
            rw [e] at hc ht ⊢
            rw [foundL_cases, if_neg p1, if_neg p2, if_pos p3, hc, ht]
          · exact count_ten _ (runL_take_all alnum _ _ fun x hx => alnum_lets x hx)
          · rw [hk, List.take_succ_cons, List.cons_append]
            exact stepL_head c _ (let_lets c p3).1 (let_lets c p3).2.1
        · rw [if_neg p3] at h0 hle ⊢
          unfold signL at h0 hle ⊢
          cases hf : signs.find? (fun x => x.isPrefixOf (c :: u)) with
          | none => rw [hf] at h0; exact absurd rfl h0
          | some x =>
            simp only [hf] at hle ⊢
            have hm := List.mem_of_find?_eq_some hf
            have hp : x.isPrefixOf (c :: u) = true := by have := List.find?_some hf; exact this
            have ht : (c :: u).take x.length = x := (List.prefix_iff_eq_take.1 (List.isPrefixOf_iff_prefix.1 hp)).symm
            rw [ht]
            exact ⟨rfl, (signs_le x hm).2, signs_cut x hm, signs_line x hm, signs_begin x hm⟩
def sep : Bs := [32, 35, 32, 120, 32, 34, 40, 10, 9]
def flat (L : List Bs) : Bs := L.flatMap fun b => b ++ sep
theorem flat_snoc (L : List Bs) (b : Bs) : flat (L ++ [b]) = flat L ++ (b ++ sep) := by unfold flat; simp
theorem flat_cons (L : List Bs) (b : Bs) : flat (b :: L) = (b ++ sep) ++ flat L := by unfold flat; simp
theorem flat_app (L M : List Bs) : flat (L ++ M) = flat L ++ flat M := by unfold flat; simp
def pos (L : List Bs) : Nat := (flat L).length - 9
theorem pos_snoc (L : List Bs) (b : Bs) : pos (L ++ [b]) = (flat L).length + b.length := by
  unfold pos
  rw [flat_snoc, List.length_append, List.length_append, show sep.length = 9 from rfl]
  omega
theorem stepL_two (r : Bs) (h : stepL r = 0) : stepL (10 :: 9 :: r) = 2 := by
  rw [stepL_eq] at h
  have h1 : runL isBlank r = 0 := by omega
  rw [h1, List.drop_zero, Nat.zero_add] at h
  rw [stepL_eq, runL_pos isBlank 10 _ (by decide), runL_pos isBlank 9 _ (by decide), h1]
  show 2 + (if r.head? = some 35 then runL notNl r else 0) = 2
  rw [h]
theorem pass_sep (r : Bs) (h : stepL r = 0) : passL (sep ++ r) = 9 := by
  have h7 : stepL (sep ++ r) = 7 := rfl
  have hd : (sep ++ r).drop 7 = 10 :: 9 :: r := rfl
  rw [passL_step _ (by rw [h7]; decide), h7, hd, passL_step _ (by rw [stepL_two r h]; decide), stepL_two r h]
  show 7 + (2 + passL r) = 9
  rw [passL_stop r h]
theorem at_pos (L : List Bs) (r : Bs) (h : stepL r = 0) : pos L + passL ((flat L ++ r).drop (pos L)) = (flat L).length ∧ pos L ≤ (flat L).length := by
  rcases List.eq_nil_or_concat L with rfl | ⟨L, b, rfl⟩
  · refine ⟨?_, Nat.le_refl _⟩
    show 0 + passL r = 0
    rw [passL_stop r h]
  · rw [List.concat_eq_append, pos_snoc, flat_snoc]
    have e : (flat L ++ (b ++ sep) ++ r).drop ((flat L).length + b.length) = sep ++ r := by
      rw [show flat L ++ (b ++ sep) ++ r = (flat L ++ b) ++ (sep ++ r) by simp, ← List.length_append, List.drop_left]
    rw [e, pass_sep r h]
    simp only [List.length_append, show sep.length = 9 from rfl]
    omega
theorem flat_count (L : List Bs) (h : ∀ b ∈ L, b.count 10 = 0) : (flat L).count 10 = L.length := by
  induction L with
  | nil => rfl
  | cons b L ih =>
    rw [flat_cons, List.count_append, List.count_append, h b (by simp), ih (fun x hx => h x (by simp [hx])), List.length_cons, show sep.count 10 = 1 from by decide]
    omega
theorem next_again (L M : List Bs) (f : Tok) (b : Bs) (hg : Good f b) (hL : ∀ x ∈ L, x.count 10 = 0) (hs : (flat (L ++ b :: M)).length ≤ 32768) :
    nextL (flat (L ++ b :: M)) (pos L) = ⟨f.kind, f.s, f.n, L.length + 1, (flat L).length, pos (L ++ [b]), 0, 0⟩ := by
  have e : flat (L ++ b :: M) = flat L ++ (b ++ (sep ++ flat M)) := by rw [flat_app, flat_cons, List.append_assoc]
  rw [e] at hs ⊢
  obtain ⟨h1, h2⟩ := at_pos L (b ++ (sep ++ flat M)) (hg.begins _)
  have hd : (flat L ++ (b ++ (sep ++ flat M))).drop (flat L).length = b ++ (sep ++ flat M) := List.drop_left
  have ht : (flat L ++ (b ++ (sep ++ flat M))).take (flat L).length = flat L := List.take_left
  have hl := hg.len
  have hp := hg.pos
  rw [nextL_in _ (pos L) hs (by rw [List.length_append]; omega), h1, hd]
  have hf : foundL (b ++ (sep ++ flat M)) = f := hg.found _
  rw [hf, if_neg (by simp only [List.length_append]; omega), if_neg (by omega)]
  unfold lineL
  rw [ht, flat_count L hL, pos_snoc, hl, Nat.add_comm 1]
theorem next_stop (L : List Bs) (hs : (flat L).length ≤ 32768) : (nextL (flat L) (pos L)).err = 0 ∧ (nextL (flat L) (pos L)).kind = 6 := by
  obtain ⟨h1, h2⟩ := at_pos L [] rfl
  rw [List.append_nil] at h1
  rw [nextL_in _ (pos L) hs h2, h1, if_pos rfl]
  exact ⟨rfl, rfl⟩
end Wo
end Go.Proofs.YthbdnbeiafpkcaaDoor
