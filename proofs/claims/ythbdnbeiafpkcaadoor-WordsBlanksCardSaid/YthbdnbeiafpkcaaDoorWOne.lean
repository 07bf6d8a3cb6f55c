/- The small functions of package words by contract: digit, letter, the kinds that run is given, run. -/
import Derived.Test.YthbdnbeiafpkcaaDoorProg
import Derived.Test.YthbdnbeiafpkcaaDoorWSpec
import Derived.WalkKit
import Derived.Outline
import Derived.Tactics
import Derived.BigQuiet
import Derived.LoopTactic
import Derived.Lib.Hide
import Derived.Shelf.Abstract
import Derived.Deep.QuietTactic
set_option linter.unusedVariables false
namespace Go.Proofs.YthbdnbeiafpkcaaDoor
open Go.RowKit
theorem ret_bool {a b : Bool} (h : a = b) : Ending.returned (.bool a) = .returned (.bool b) := by rw [h]
theorem ret_int {k : IntKind} {a b : Int} (h : a = b) : Ending.returned (.int k a) = .returned (.int k b) := by rw [h]
theorem digit_any (c : UInt8) (w : World) : Calls Tryd.prog 39 #[.int .u8 c.toNat] w fun e w' => e = .returned (.bool (Wo.isDigit c)) ∧ w = w' := by
  have hc : c.toNat < 256 := c.toNat_lt
  go_enter Tryd.func39, Tryd.ntmps39
  go_wp2
  all_goals
    go_ret
    exact ⟨ret_bool (by unfold Wo.isDigit; rw [Bool.eq_iff_iff]; simp at *; omega), rfl⟩
theorem letter_any (c : UInt8) (w : World) : Calls Tryd.prog 42 #[.int .u8 c.toNat] w fun e w' => e = .returned (.bool (Wo.isLetter c)) ∧ w = w' := by
  have hc : c.toNat < 256 := c.toNat_lt
  go_enter Tryd.func42, Tryd.ntmps42
  go_wp2
  all_goals
    go_ret
    exact ⟨ret_bool (by unfold Wo.isLetter; rw [Bool.eq_iff_iff]; simp at *; omega), rfl⟩
theorem beqi (a b : Nat) : ((a : Int) == (b : Int)) = (a == b) := by rw [Bool.eq_iff_iff]; simp; omega
theorem blank_any (c : UInt8) (w : World) : Calls Tryd.prog 37 #[.int .u8 c.toNat] w fun e w' => e = .returned (.bool (Wo.isBlank c)) ∧ w = w' := by
  have hc : c.toNat < 256 := c.toNat_lt
  go_enter Tryd.func37, Tryd.ntmps37
  go_wp2
  all_goals
    go_ret
    exact ⟨ret_bool (by unfold Wo.isBlank; rw [Bool.eq_iff_iff]; simp at *; omega), rfl⟩
theorem notNl_any (c : UInt8) (w : World) : Calls Tryd.prog 38 #[.int .u8 c.toNat] w fun e w' => e = .returned (.bool (Wo.notNl c)) ∧ w = w' := by
  have hc : c.toNat < 256 := c.toNat_lt
  go_enter Tryd.func38, Tryd.ntmps38
  go_wp2
  all_goals
    go_ret
    exact ⟨ret_bool (by unfold Wo.notNl; rw [Bool.eq_iff_iff]; simp at *; omega), rfl⟩
theorem alnum_any (c : UInt8) (w : World) : Calls Tryd.prog 43 #[.int .u8 c.toNat] w fun e w' => e = .returned (.bool (Wo.alnum c)) ∧ w = w' := by
  have hc : c.toNat < 256 := c.toNat_lt
  go_enter Tryd.func43, Tryd.ntmps43
  go_wp2_with (first | (go_at_call 42; refine (letter_any _ _).mono ?_; rintro e w' ⟨rfl, rfl⟩) | (go_at_call 39; refine (digit_any _ _).mono ?_; rintro e w' ⟨rfl, rfl⟩))
  all_goals
    go_ret
    exact ⟨ret_bool (by unfold Wo.alnum; simp_all), rfl⟩
set_option maxRecDepth 100000 in
theorem run_any (s : ByteArray) (k : FuncId) (p : UInt8 → Bool) (he : Go.Proofs.Enters Tryd.prog k) (hk : ∀ c w, Calls Tryd.prog k #[.int .u8 c.toNat] w fun e w' => e = .returned (.bool (p c)) ∧ w = w') (w : World) (hs : s.size ≤ maxLen) :
    Calls Tryd.prog 36 #[.string s, .func (.func k) #[] #[]] w fun e w' => e = .returned (.int .i64 (Wo.runL p s.data.toList)) ∧ w = w' := by
  unfold maxLen at hs
  unfold Go.Proofs.Enters at he
  have HK := Lib.hid hk
  clear hk
  go_enter Tryd.func36, Tryd.ntmps36
  go_wp2
  go_loop [5] (fun i => ∃ j : Nat, j ≤ s.size ∧ i = .int .i64 j ∧ Wo.runL p s.data.toList = j + Wo.runL p (s.data.toList.drop j)) (fun i => s.size - (intOf i).toNat)
  case atStart => exact ⟨0, Nat.zero_le _, rfl, by simp⟩
  case round =>
    obtain ⟨j, hj, rfl, hall⟩ := hrel
    have HA := Lib.hid hall
    clear hall
    by_cases hlt : j < s.size
    · have hr := Wo.runL_at p s.data.toList j (by simpa using hlt)
      have HR := Lib.hid hr
      clear hr
      go_wp2_with (refine (HK.out _ _).mono ?_; rintro e w' ⟨rfl, rfl⟩)
      · go_round
        case rel => exact ⟨j + 1, by omega, by go_num, by rw [HA.out, HR.out, if_pos (by assumption)]; omega⟩
        case measure => simp [intOf]; omega
      · go_ret
        exact ⟨ret_int (by rw [HA.out, HR.out, if_neg (by first | assumption | (simp only [Bool.not_eq_true]; assumption))]; rfl), rfl⟩
    · go_wp2
      go_ret
      exact ⟨ret_int (by rw [HA.out, List.drop_of_length_le (by simp; omega)]; rfl), rfl⟩
theorem run_digit (s : ByteArray) (w : World) (hs : s.size ≤ maxLen) : Calls Tryd.prog 36 #[.string s, .func (.func 39) #[] #[]] w fun e w' => e = .returned (.int .i64 (Wo.runL Wo.isDigit s.data.toList)) ∧ w = w' :=
  run_any s _ _ (enters_of Tryd.func39 (by kernel_rfl) rfl) digit_any w hs
theorem run_blank (s : ByteArray) (w : World) (hs : s.size ≤ maxLen) : Calls Tryd.prog 36 #[.string s, .func (.func 37) #[] #[]] w fun e w' => e = .returned (.int .i64 (Wo.runL Wo.isBlank s.data.toList)) ∧ w = w' :=
  run_any s _ _ (enters_of Tryd.func37 (by kernel_rfl) rfl) blank_any w hs
theorem run_notNl (s : ByteArray) (w : World) (hs : s.size ≤ maxLen) : Calls Tryd.prog 36 #[.string s, .func (.func 38) #[] #[]] w fun e w' => e = .returned (.int .i64 (Wo.runL Wo.notNl s.data.toList)) ∧ w = w' :=
  run_any s _ _ (enters_of Tryd.func38 (by kernel_rfl) rfl) notNl_any w hs
theorem run_alnum (s : ByteArray) (w : World) (hs : s.size ≤ maxLen) : Calls Tryd.prog 36 #[.string s, .func (.func 43) #[] #[]] w fun e w' => e = .returned (.int .i64 (Wo.runL Wo.alnum s.data.toList)) ∧ w = w' :=
  run_any s _ _ (enters_of Tryd.func43 (by kernel_rfl) rfl) alnum_any w hs
end Go.Proofs.YthbdnbeiafpkcaaDoor
