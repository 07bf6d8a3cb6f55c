/- Digits as strconv reads them; the keys as strings.Fields parts them. No program stands here. -/
import Derived.Test.YthbdnbeiafpkcaaDoorWSpec
import Derived.Lib.ParseIntB
import Derived.Lib.Fields
import Derived.Lib.SlicesS
set_option linter.unusedVariables false
namespace Go.Proofs.YthbdnbeiafpkcaaDoor
namespace Wo
theorem runL_all (p : UInt8 → Bool) : ∀ (l : Bs), ∀ x ∈ l.take (runL p l), p x = true
  | [], x, h => by simp at h
  | c :: l, x, h => by
    by_cases hc : p c = true
    · have e : runL p (c :: l) = runL p l + 1 := by show (if p c then _ else _) = _; rw [if_pos hc]
      rw [e, List.take_succ_cons, List.mem_cons] at h
      rcases h with rfl | h
      · exact hc
      · exact runL_all p l x h
    · have e : runL p (c :: l) = 0 := by show (if p c then _ else _) = _; rw [if_neg hc]
      rw [e] at h; simp at h
def decF (acc : Nat) (l : Bs) : Nat := l.foldl (fun n c => 10 * n + (c.toNat - 48)) acc
theorem decF_cons (acc : Nat) (c : UInt8) (l : Bs) : decF acc (c :: l) = decF (10 * acc + (c.toNat - 48)) l := by unfold decF; rw [List.foldl_cons]
theorem decF_ge : ∀ (l : Bs) (acc : Nat), acc ≤ decF acc l
  | [], acc => Nat.le_refl _
  | c :: l, acc => by rw [decF_cons]; have := decF_ge l (10 * acc + (c.toNat - 48)); omega
theorem isDigit_iff (c : UInt8) : isDigit c = true ↔ 48 ≤ c.toNat ∧ c.toNat ≤ 57 := by unfold isDigit; simp
theorem pU_nil (M acc : Nat) : Lib.parseUintM M acc [] = .ok acc := by rw [Lib.parseUintM]
theorem pU_cons (M acc : Nat) (c : UInt8) (r : Bs) (hc : 48 ≤ c.toNat ∧ c.toNat ≤ 57) : Lib.parseUintM M acc (c :: r) = if 1844674407370955162 ≤ acc then .range
      else if M < acc * 10 + (c.toNat - 48) then .range
      else Lib.parseUintM M (acc * 10 + (c.toNat - 48)) r := by rw [Lib.parseUintM, if_pos hc]
theorem parseM (M : Nat) (hM : M < 18446744073709551616) (l : Bs) : ∀ (acc : Nat), (∀ x ∈ l, isDigit x = true) → acc ≤ M → Lib.parseUintM M acc l = if decF acc l ≤ M then .ok (decF acc l) else .range := by
  induction l with
  | nil => intro acc _ h; rw [show decF acc [] = acc from rfl, if_pos h, pU_nil]
  | cons c l ih =>
    intro acc hl h
    have hc := (isDigit_iff c).1 (hl c (by simp))
    have hge := decF_ge l (10 * acc + (c.toNat - 48))
    have hi := ih (10 * acc + (c.toNat - 48)) (fun x hx => hl x (by simp [hx]))
    rw [pU_cons _ _ _ _ hc, decF_cons, show acc * 10 + (c.toNat - 48) = 10 * acc + (c.toNat - 48) by omega]
    by_cases h1 : 1844674407370955162 ≤ acc
    · rw [if_pos h1, if_neg (by omega)]
    · rw [if_neg h1]
      by_cases h2 : M < 10 * acc + (c.toNat - 48)
      · rw [if_pos h2, if_neg (by omega)]
      · rw [if_neg h2]
        exact hi (by omega)
theorem parse_digits (l : Bs) (h0 : l ≠ []) (hl : ∀ x ∈ l, isDigit x = true) : Lib.parseIntB 64 l = if decL l < 9223372036854775808 then .ok (decL l : Int) else .range := by
  cases l with
  | nil => exact absurd rfl h0
  | cons c r =>
    have hc := (isDigit_iff c).1 (hl c (by simp))
    have hu : Lib.parseUintB 64 (c :: r) = if decL (c :: r) ≤ 18446744073709551615 then .ok (decL (c :: r)) else .range := by
      unfold Lib.parseUintB
      rw [if_neg (by simp)]
      exact parseM _ (by decide) _ 0 hl (Nat.zero_le _)
    have h43 : ¬ (c.toNat = 43 ∨ c.toNat = 45) := by omega
    have h45 : ¬ (c.toNat = 45) := by omega
    unfold Lib.parseIntB
    simp only [if_neg h43, hu]
    generalize decL (c :: r) = d
    by_cases h1 : d ≤ 18446744073709551615
    · rw [if_pos h1]
      by_cases h2 : d < 9223372036854775808
      · rw [if_pos h2]; simp [h45]; omega
      · rw [if_neg h2]; simp [h45]; omega
    · rw [if_neg h1, if_neg (by omega)]
theorem keys_fields : Lib.fields keysText = keys := by decide +kernel
theorem keys_ascii : ∀ (j : Nat) (b : UInt8), keysText[j]? = some b → b.toNat < 128 := by
  have h : ∀ x ∈ keysText, x.toNat < 128 := by decide +kernel
  intro j b hb
  exact h b (List.mem_of_getElem? hb)
theorem keys_has (x : ByteArray) : Lib.containsS (keys.map fun l => ⟨l.toArray⟩) x = keys.contains x.data.toList := by
  rw [Bool.eq_iff_iff, Lib.containsS_iff, List.contains_iff_mem, List.mem_map]
  constructor
  · rintro ⟨l, hl, rfl⟩; simpa using hl
  · intro h
    exact ⟨_, h, by cases x; rfl⟩
end Wo
end Go.Proofs.YthbdnbeiafpkcaaDoor
