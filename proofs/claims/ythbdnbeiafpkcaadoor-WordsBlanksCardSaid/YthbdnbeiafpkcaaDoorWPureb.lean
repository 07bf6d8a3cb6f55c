/- Laws of what is said: it is told again; its bytes are from 32 to 126. No program stands here. -/
import Derived.Test.YthbdnbeiafpkcaaDoorWPure
set_option linter.unusedVariables false
namespace Go.Proofs.YthbdnbeiafpkcaaDoor
namespace Wo
theorem hexd_range (n : Nat) (h : n < 16) : 32 ≤ (hexd n).toNat ∧ (hexd n).toNat ≤ 126 := by
  have : ∀ n : Fin 16, 32 ≤ (hexd n.val).toNat ∧ (hexd n.val).toNat ≤ 126 := by decide
  exact this ⟨n, h⟩
theorem hexv_hexd (n : Nat) (h : n < 16) : hexv (hexd n) = some n := by
  have : ∀ n : Fin 16, hexv (hexd n.val) = some n.val := by decide
  exact this ⟨n, h⟩
theorem quote1_range (c : UInt8) : ∀ x ∈ quote1 c, 32 ≤ x.toNat ∧ x.toNat ≤ 126 := by
  have hc : c.toNat < 256 := c.toNat_lt
  intro x hx
  unfold quote1 at hx
  split at hx
  · rename_i h
    simp only [List.mem_cons, List.not_mem_nil, or_false] at hx
    rcases hx with rfl | rfl
    · decide
    · omega
  · split at hx
    · simp only [List.mem_cons, List.not_mem_nil, or_false] at hx
      rcases hx with rfl | rfl <;> decide
    · split at hx
      · rename_i h
        simp only [List.mem_cons, List.not_mem_nil, or_false] at hx
        subst hx; exact h
      · simp only [List.mem_cons, List.not_mem_nil, or_false] at hx
        rcases hx with rfl | rfl | rfl | rfl
        · decide
        · decide
        · exact hexd_range _ (by omega)
        · exact hexd_range _ (by omega)
theorem quoteB_range (l : Bs) : ∀ x ∈ quoteB l, 32 ≤ x.toNat ∧ x.toNat ≤ 126 := by
  intro x hx
  unfold quoteB at hx
  obtain ⟨c, _, hc⟩ := List.mem_flatMap.1 hx
  exact quote1_range c x hc
theorem quoteL_range (l : Bs) : ∀ x ∈ quoteL l, 32 ≤ x.toNat ∧ x.toNat ≤ 126 := by
  intro x hx
  unfold quoteL at hx
  simp only [List.mem_cons, List.mem_append, List.not_mem_nil, or_false] at hx
  rcases hx with rfl | hx | rfl
  · decide
  · exact quoteB_range l x hx
  · decide
theorem quoteB_app (a b : Bs) : quoteB (a ++ b) = quoteB a ++ quoteB b := by unfold quoteB; rw [List.flatMap_append]
theorem ofNat_hex (c : UInt8) : UInt8.ofNat (16 * (c.toNat / 16) + c.toNat % 16) = c := by
  have : 16 * (c.toNat / 16) + c.toNat % 16 = c.toNat := by omega
  rw [this]; simp
theorem tx_quote1 (c : UInt8) (r : Bs) (q : Bs × Nat) (h : tx r = some q) : tx (quote1 c ++ r) = some (c :: q.1, q.2 + (quote1 c).length) := by
  have hc : c.toNat < 256 := c.toNat_lt
  have e92 : (92 : UInt8).toNat = 92 := rfl
  unfold quote1
  by_cases p1 : c.toNat = 34 ∨ c.toNat = 92
  · simp only [if_pos p1]
    have he : esc (c :: r) = (c, 1) := by show (if c.toNat = 34 ∨ c.toNat = 92 then (c, 1) else _) = _; rw [if_pos p1]
    show tx (92 :: c :: r) = _
    rw [tx_cons, if_neg (by rw [e92]; omega), if_neg (by rw [e92]; omega), if_pos e92, he]
    simp only [List.drop_succ_cons, List.drop_zero, h]
    rfl
  · simp only [if_neg p1]
    by_cases p2 : c.toNat = 10
    · simp only [if_pos p2]
      have he : esc (110 :: r) = (10, 1) := rfl
      show tx (92 :: 110 :: r) = _
      rw [tx_cons, if_neg (by rw [e92]; omega), if_neg (by rw [e92]; omega), if_pos e92, he]
      simp only [List.drop_succ_cons, List.drop_zero, h]
      have : c = 10 := by apply UInt8.toNat_inj.1; exact p2
      rw [this]; rfl
    · simp only [if_neg p2]
      by_cases p3 : 32 ≤ c.toNat ∧ c.toNat ≤ 126
      · simp only [if_pos p3]
        show tx (c :: r) = _
        rw [tx_cons, if_neg (by omega), if_neg (by omega), if_neg (by omega), h]
        rfl
      · simp only [if_neg p3]
        have he : esc (120 :: hexd (c.toNat / 16) :: hexd (c.toNat % 16) :: r) = (c, 3) := by
          show escX (hexd (c.toNat / 16) :: hexd (c.toNat % 16) :: r) = _
          unfold escX
          simp only [hexv_hexd _ (show c.toNat / 16 < 16 by omega), hexv_hexd _ (show c.toNat % 16 < 16 by omega), ofNat_hex]
        show tx (92 :: 120 :: hexd (c.toNat / 16) :: hexd (c.toNat % 16) :: r) = _
        rw [tx_cons, if_neg (by rw [e92]; omega), if_neg (by rw [e92]; omega), if_pos e92, he]
        simp only [List.drop_succ_cons, List.drop_zero, h]
        rfl
theorem tx_quote (l r : Bs) : tx (quoteB l ++ 34 :: r) = some (l, (quoteB l).length + 1) := by
  induction l with
  | nil => show tx (34 :: r) = _; rw [tx_cons]; rfl
  | cons c l ih =>
    have e : quoteB (c :: l) = quote1 c ++ quoteB l := rfl
    rw [e, List.append_assoc, tx_quote1 c _ _ ih, List.length_append]
    congr 2; simp only; omega
theorem quoteL_len (l : Bs) : (quoteL l).length = (quoteB l).length + 2 := by unfold quoteL; simp
theorem quote1_len (c : UInt8) : (quote1 c).length ≤ 4 := by unfold quote1; split <;> (try split) <;> (try split) <;> simp
theorem quoteB_len (l : Bs) : (quoteB l).length ≤ 4 * l.length := by
  induction l with
  | nil => exact Nat.le_refl _
  | cons c l ih =>
    have : quoteB (c :: l) = quote1 c ++ quoteB l := rfl
    have h := quote1_len c
    rw [this, List.length_append, List.length_cons]
    omega
theorem foundL_34 (r : Bs) : foundL (34 :: r) = ⟨2, (textL (34 :: r)).1, 0, (textL (34 :: r)).2⟩ := rfl
theorem found_quote (l r : Bs) : foundL (quoteL l ++ r) = ⟨2, l, 0, (quoteL l).length⟩ := by
  have e : quoteL l ++ r = 34 :: (quoteB l ++ 34 :: r) := by unfold quoteL; simp
  have ht : textL (34 :: (quoteB l ++ 34 :: r)) = (l, (quoteL l).length) := by
    unfold textL
    rw [show (34 :: (quoteB l ++ 34 :: r)).drop 1 = quoteB l ++ 34 :: r from rfl, tx_quote, quoteL_len]
  rw [e, foundL_34, ht]
theorem next_quote (l : Bs) (h : l.length ≤ 8000) : nextL (quoteL l) 0 = ⟨2, l, 0, 1, 0, (quoteL l).length, 0, 0⟩ := by
  have hb := quoteB_len l
  have hl := quoteL_len l
  have e : quoteL l = 34 :: (quoteB l ++ [34]) := rfl
  have hs : stepL (quoteL l) = 0 := by rw [e]; rfl
  have hp : passL (quoteL l) = 0 := passL_stop _ hs
  have := nextL_in (quoteL l) 0 (by omega) (Nat.zero_le _)
  rw [List.drop_zero, hp] at this
  have hf := found_quote l []
  rw [List.append_nil] at hf
  rw [show ((0 : Nat) : Int) = 0 from rfl] at this
  rw [this, if_neg (by omega), List.drop_zero, hf]
  simp only
  rw [if_neg (by omega)]
  simp [lineL]
end Wo
end Go.Proofs.YthbdnbeiafpkcaaDoor
