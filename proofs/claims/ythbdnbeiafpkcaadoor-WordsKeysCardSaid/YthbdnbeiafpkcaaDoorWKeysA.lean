/- droverlaw08.WordsKeys: plain facts on names and keys; Pick by contract. -/
import Derived.Test.YthbdnbeiafpkcaaDoorWTellD
import Derived.Test.YthbdnbeiafpkcaaDoorWPurec
set_option linter.unusedVariables false
namespace Go.Proofs.YthbdnbeiafpkcaaDoor
open Go.RowKit
namespace Wo
theorem letter_lets (c : UInt8) (h : isLetter c = true) : isDigit c = false ∧ isBlank c = false ∧ c.toNat ≠ 35 ∧ c.toNat ≠ 34 := by
  unfold isLetter at h
  unfold isDigit isBlank
  simp at h ⊢
  omega
theorem next_name (c : UInt8) (r : Bs) (hc : isLetter c = true) (hr : ∀ x ∈ r, alnum x = true) (hs : (c :: r).length ≤ 32768) : nextL (c :: r) 0 = ⟨if keys.contains (c :: r) then 4 else 3, c :: r, 0, 1, 0, (c :: r).length, 0, 0⟩ := by
  obtain ⟨h1, h2, h3, h4⟩ := letter_lets c hc
  have hp : passL (c :: r) = 0 := passL_other c r h2 h3
  have := nextL_in (c :: r) 0 hs (Nat.zero_le _)
  rw [List.drop_zero, hp, show ((0 : Nat) : Int) = 0 from rfl] at this
  have hall : ∀ x ∈ c :: r, alnum x = true := fun x hx => by
    rcases List.mem_cons.1 hx with rfl | h
    · unfold alnum; rw [hc]; rfl
    · exact hr x h
  have hw := runL_whole alnum (c :: r) hall
  have hf : foundL (c :: r) = ⟨if keys.contains (c :: r) then 4 else 3, c :: r, 0, (c :: r).length⟩ := by
    show (if isDigit c then _ else if c.toNat = 34 then _ else if isLetter c then (⟨if keys.contains ((c :: r).take (runL alnum (c :: r))) then 4 else 3, (c :: r).take (runL alnum (c :: r)), 0, runL alnum (c :: r)⟩ : Tok) else _) = _
    rw [if_neg (by rw [h1]; decide), if_neg h4, if_pos hc, hw, List.take_length]
  rw [this, if_neg (by rw [List.length_cons]; omega), List.drop_zero, hf]
  simp only
  rw [if_neg (by rw [List.length_cons]; omega)]
  simp [lineL]
end Wo
theorem key_next (k : Nat) (hk : k < 18) : Wo.nextL (keyB k).data.toList 0 = ⟨4, (keyB k).data.toList, 0, 1, 0, (keyB k).size, 0, 0⟩ := by
  match k, hk with
  | 0, _ => rfl
  | 1, _ => rfl
  | 2, _ => rfl
  | 3, _ => rfl
  | 4, _ => rfl
  | 5, _ => rfl
  | 6, _ => rfl
  | 7, _ => rfl
  | 8, _ => rfl
  | 9, _ => rfl
  | 10, _ => rfl
  | 11, _ => rfl
  | 12, _ => rfl
  | 13, _ => rfl
  | 14, _ => rfl
  | 15, _ => rfl
  | 16, _ => rfl
  | 17, _ => rfl
  | n + 18, h => omega
theorem key_under (k : Nat) (hk : k < 18) : Wo.nextL ((keyB k).data.toList ++ [95]) 0 = ⟨3, (keyB k).data.toList ++ [95], 0, 1, 0, (keyB k).size + 1, 0, 0⟩ := by
  match k, hk with
  | 0, _ => rfl
  | 1, _ => rfl
  | 2, _ => rfl
  | 3, _ => rfl
  | 4, _ => rfl
  | 5, _ => rfl
  | 6, _ => rfl
  | 7, _ => rfl
  | 8, _ => rfl
  | 9, _ => rfl
  | 10, _ => rfl
  | 11, _ => rfl
  | 12, _ => rfl
  | 13, _ => rfl
  | 14, _ => rfl
  | 15, _ => rfl
  | 16, _ => rfl
  | 17, _ => rfl
  | n + 18, h => omega
theorem key_size : ∀ k, k < 18 → (keyB k).size ≤ 6 ∧ 2 ≤ (keyB k).size := by decide
/-- the sign that stands at a place of the law's 63 -/
def nameSigns : ByteArray := ⟨#[97, 98, 99, 100, 101, 102, 103, 104, 105, 106, 107, 108, 109, 110, 111, 112, 113, 114, 115, 116, 117, 118, 119, 120, 121, 122, 65, 66, 67, 68, 69, 70, 71, 72, 73, 74, 75, 76, 77, 78, 79, 80, 81, 82, 83, 84, 85, 86, 87, 88, 89, 90, 95, 48, 49, 50, 51, 52, 53, 54, 55, 56, 57]⟩
theorem sign_alnum (n : Nat) (h : n < 63) : Wo.alnum (nameSigns[n]'(by exact h)) = true := by
  have : ∀ n : Fin 63, Wo.alnum (nameSigns[n.val]'(by exact n.isLt)) = true := by decide
  exact this ⟨n, h⟩
theorem sign_letter53 : ∀ n : Fin 53, Wo.isLetter (nameSigns[n.val]'(by have := n.isLt; show n.val < 63; omega)) = true := by decide
theorem sign_letter (n : Nat) (h : n < 53) : Wo.isLetter (nameSigns[n]'(by show n < 63; omega)) = true := by
  exact sign_letter53 ⟨n, h⟩
theorem tmod18 (x : Int) : (0 ≤ x ∧ x.tmod 18 = x % 18) ∨ (x < 0 ∧ x.tmod 18 = -((-x) % 18)) := by
  by_cases h : 0 ≤ x
  · exact Or.inl ⟨h, Int.tmod_eq_emod_of_nonneg h⟩
  · refine Or.inr ⟨by omega, ?_⟩
    rw [← Int.tmod_eq_emod_of_nonneg (by omega), Int.neg_tmod, Int.neg_neg]
theorem pick18 (x : Int) (w : World) : Calls Tryd.prog 17 #[.int .i64 x, .int .i64 18] w fun e w' => ∃ k : Nat, k < 18 ∧ e = .returned (.int .i64 k) ∧ w = w' := by
  rcases tmod18 x with ⟨h0, h⟩ | ⟨h0, h⟩
  · have b1 : ¬ x % 18 < 0 := by omega
    have b2 : ∃ k : Nat, k < 18 ∧ x % 18 = k := ⟨(x % 18).toNat, by omega, by omega⟩
    obtain ⟨k, hk, e⟩ := b2
    rw [e] at h
    have b3 : ¬ (k : Int) < 0 := by omega
    clear b1 e
    go_enter Tryd.func17, Tryd.ntmps17
    go_wp2
    go_ret
    exact ⟨k, hk, rfl, rfl⟩
  · have b2 : ∃ k : Nat, k < 18 ∧ (-x) % 18 = k := ⟨((-x) % 18).toNat, by omega, by omega⟩
    obtain ⟨k, hk, e⟩ := b2
    rw [e] at h
    clear e
    by_cases hz : k = 0
    · subst hz
      have h' : x.tmod 18 = 0 := by rw [h]; rfl
      clear h
      go_enter Tryd.func17, Tryd.ntmps17
      go_wp2
      go_ret
      exact ⟨0, by omega, rfl, rfl⟩
    · have b3 : -(k : Int) < 0 := by omega
      have b4 : IntKind.i64.wrap (-(k : Int) + 18) = ((18 - k : Nat) : Int) := by rw [IntWalk.i64_in _ (by omega)]; omega
      go_enter Tryd.func17, Tryd.ntmps17
      go_wp2
      go_ret
      exact ⟨18 - k, by omega, ret_int (by omega), rfl⟩
end Go.Proofs.YthbdnbeiafpkcaaDoor
