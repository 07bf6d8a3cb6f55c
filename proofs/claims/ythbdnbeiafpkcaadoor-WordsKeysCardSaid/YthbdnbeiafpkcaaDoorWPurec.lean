/- Laws of ints: the digits of a number, behind noughts, are an int that is it. No program stands here. -/
import Derived.Test.YthbdnbeiafpkcaaDoorWPureb
set_option linter.unusedVariables false
namespace Go.Proofs.YthbdnbeiafpkcaaDoor
namespace Wo
def allDig (l : Bs) : Prop := ∀ x ∈ l, isDigit x = true
def dig (n : Nat) : UInt8 := UInt8.ofNat (48 + n)
theorem dig_toNat (n : Nat) (h : n < 10) : (dig n).toNat = 48 + n := by
  have : ∀ n : Fin 10, (dig n.val).toNat = 48 + n.val := by decide
  exact this ⟨n, h⟩
theorem dig_is (n : Nat) (h : n < 10) : isDigit (dig n) = true := by
  rw [isDigit_iff, dig_toNat n h]; omega
theorem decF_app (l r : Bs) (acc : Nat) : decF acc (l ++ r) = decF (decF acc l) r := by unfold decF; rw [List.foldl_append]
theorem decF_zeros (z : Nat) : decF 0 (List.replicate z 48) = 0 := by
  induction z with
  | zero => rfl
  | succ z ih => rw [List.replicate_succ, decF_cons]; exact ih
theorem decL_eq (l : Bs) : decL l = decF 0 l := rfl
theorem dec_round (k : Nat) (D : Bs) : decF (k / 10) (dig (k % 10) :: D) = decF k D := by
  rw [decF_cons, dig_toNat _ (Nat.mod_lt _ (by decide))]
  congr 1; omega
theorem runL_whole (p : UInt8 → Bool) : ∀ (l : Bs), (∀ x ∈ l, p x = true) → runL p l = l.length
  | [], _ => rfl
  | c :: l, h => by
    unfold runL
    rw [if_pos (h c (by simp)), runL_whole p l (fun x hx => h x (by simp [hx])), List.length_cons]
theorem stepL_digit (c : UInt8) (l : Bs) (h : isDigit c = true) : stepL (c :: l) = 0 := by
  have hc := (isDigit_iff c).1 h
  have hb : isBlank c = false := by unfold isBlank; simp; omega
  have h1 : runL isBlank (c :: l) = 0 := by unfold runL; rw [hb]; rfl
  rw [stepL_eq, h1, List.drop_zero, if_neg]
  intro e
  have : c = 35 := by simpa using e
  subst this
  revert hc; decide
theorem next_int (l : Bs) (h0 : l ≠ []) (hl : allDig l) (hs : l.length ≤ 32768) : nextL l 0 = if decL l < 9223372036854775808 then ⟨1, [], decL l, 1, 0, l.length, 0, 0⟩ else ⟨0, [], 0, 0, 0, 0, 100, 1⟩ := by
  cases l with
  | nil => exact absurd rfl h0
  | cons c r =>
    have hc := hl c (by simp)
    have hp : passL (c :: r) = 0 := passL_stop _ (stepL_digit c r hc)
    have := nextL_in (c :: r) 0 hs (Nat.zero_le _)
    rw [List.drop_zero, hp, show ((0 : Nat) : Int) = 0 from rfl] at this
    have hf : foundL (c :: r) = if decL (c :: r) < 9223372036854775808 then ⟨1, [], decL (c :: r), (c :: r).length⟩ else noTok := by
      have hr := runL_whole isDigit (c :: r) hl
      show (if isDigit c then (if decL ((c :: r).take (runL isDigit (c :: r))) < 9223372036854775808 then (⟨1, [], decL ((c :: r).take (runL isDigit (c :: r))), runL isDigit (c :: r)⟩ : Tok) else noTok) else _) = _
      rw [if_pos hc, hr, List.take_length]
    rw [this, if_neg (by rw [List.length_cons]; omega), List.drop_zero, hf]
    by_cases hd : decL (c :: r) < 9223372036854775808
    · rw [if_pos hd, if_pos hd]
      simp only
      rw [if_neg (by rw [List.length_cons]; omega)]
      simp [lineL]
    · rw [if_neg hd, if_neg hd]
      rfl
theorem allDig_app (l r : Bs) (hl : allDig l) (hr : allDig r) : allDig (l ++ r) := fun x hx => by
  rcases List.mem_append.1 hx with h | h
  · exact hl x h
  · exact hr x h
theorem allDig_zeros (z : Nat) : allDig (List.replicate z 48) := fun x hx => by
  rw [List.eq_of_mem_replicate hx]; decide
theorem dec_all (z n : Nat) (D : Bs) (h : decF 0 D = n) : decL (List.replicate z 48 ++ D) = n := by
  rw [decL_eq, decF_app, decF_zeros, h]
theorem dec_nine (z n : Nat) (D : Bs) (h : decF 0 D = n) : decL ((List.replicate z 48 ++ D) ++ [57]) = 10 * n + 9 := by
  rw [decL_eq, decF_app, decF_app, decF_zeros, h]; rfl
end Wo
end Go.Proofs.YthbdnbeiafpkcaaDoor
