/- What package words passes over, and what stands behind a backslash, by contract. -/
import Derived.Test.YthbdnbeiafpkcaaDoorWOne
import Derived.Test.YthbdnbeiafpkcaaDoorShelf
set_option linter.unusedVariables false
namespace Go.Proofs.YthbdnbeiafpkcaaDoor
open Go.RowKit
theorem dropS (s : ByteArray) (n : Nat) : (s.extract n s.size).data.toList = s.data.toList.drop n := by
  simp [ByteArray.extract, ByteArray.copySlice]
  rw [List.take_of_length_le (by simp)]
theorem sizeS (s : ByteArray) (n : Nat) : (s.extract n s.size).size = s.size - n := by simp
theorem hasPrefix_one (l : List UInt8) (c : UInt8) : Lib.hasPrefix l [c] = decide (l.head? = some c) := by
  cases l with
  | nil => rfl
  | cons a l => rw [Bool.eq_iff_iff]; simp [Lib.hasPrefix, List.isPrefixOf]; exact eq_comm
set_option maxRecDepth 100000 in
theorem pass_any (s : ByteArray) (w : World) (hs : s.size ≤ maxLen) :
    Calls Tryd.prog 19 #[.string s] w fun e w' => e = .returned (.int .i64 (Wo.passL s.data.toList)) ∧ w = w' := by
  have hm := hs
  unfold maxLen at hs
  go_enter Tryd.func19, Tryd.ntmps19
  go_wp2
  go_loop [3, 4] (fun n k => ∃ j : Nat, j ≤ s.size ∧ n = .int .i64 j ∧ Wo.passL s.data.toList = j + Wo.passL (s.data.toList.drop j)) (fun n _ => s.size - (intOf n).toNat)
  case atStart => exact ⟨0, Nat.zero_le _, rfl, by simp⟩
  case round =>
    obtain ⟨j, hj, rfl, hall⟩ := hrel
    have HA := Lib.hid hall
    clear hall
    have c1 := run_blank (s.extract j s.size) w (by simp; unfold maxLen; omega)
    rw [dropS] at c1
    have l1 := Wo.runL_le Wo.isBlank (s.data.toList.drop j)
    rw [List.length_drop, Array.length_toList] at l1
    have e1 : Wo.stepL (s.data.toList.drop j) = Wo.runL Wo.isBlank (s.data.toList.drop j) + (if (s.data.toList.drop (j + Wo.runL Wo.isBlank (s.data.toList.drop j))).head? = some 35 then Wo.runL Wo.notNl (s.data.toList.drop (j + Wo.runL Wo.isBlank (s.data.toList.drop j))) else 0) := by
      unfold Wo.stepL; rw [List.drop_drop]
    generalize Wo.runL Wo.isBlank (s.data.toList.drop j) = k1 at c1 l1 e1
    have l1' : j + k1 ≤ s.size := by have : s.data.size = s.size := rfl; omega
    clear l1
    have E1 := Lib.hid e1
    have C1 := Lib.hid c1
    clear e1 c1
    go_wp2_with fail
    with_reducible refine C1.out.mono ?_
    rintro e w' ⟨rfl, rfl⟩
    have c2 := Tryd.strings_HasPrefix (s.extract (j + k1) s.size) ⟨#[35]⟩ w
    have p2 : Lib.hasPrefix (s.extract (j + k1) s.size).data.toList [35] = decide ((s.data.toList.drop (j + k1)).head? = some 35) := by
      rw [dropS]; exact hasPrefix_one _ _
    rw [show (⟨#[35]⟩ : ByteArray).data.toList = [35] from rfl, p2] at c2
    clear p2
    have C2 := Lib.hid c2
    clear c2
    by_cases hh : (s.data.toList.drop (j + k1)).head? = some 35
    · have c3 := run_notNl (s.extract (j + k1) s.size) w (by simp; unfold maxLen; omega)
      rw [dropS] at c3
      have l2 := Wo.runL_le Wo.notNl (s.data.toList.drop (j + k1))
      rw [List.length_drop, Array.length_toList] at l2
      have e1 := E1.out
      rw [if_pos hh] at e1
      have c2 := C2.out
      rw [decide_eq_true hh] at c2
      clear hh C2 E1
      generalize Wo.runL Wo.notNl (s.data.toList.drop (j + k1)) = k2 at c3 l2 e1
      have l2' : j + k1 + k2 ≤ s.size := by have : s.data.size = s.size := rfl; omega
      clear l2
      have E1 := Lib.hid e1
      have C2 := Lib.hid c2
      have C3 := Lib.hid c3
      clear e1 c2 c3
      go_wp2_with fail
      with_reducible refine C2.out.mono ?_
      rintro e w' ⟨rfl, rfl⟩
      go_wp2_with fail
      with_reducible refine C3.out.mono ?_
      rintro e w' ⟨rfl, rfl⟩
      by_cases hz : k1 + k2 = 0
      · obtain ⟨rfl, rfl⟩ : k1 = 0 ∧ k2 = 0 := by omega
        clear hz
        go_wp2
        go_ret
        exact ⟨ret_int (by rw [HA.out, Wo.passL_stop _ E1.out]; rfl), rfl⟩
      · have hz' : (((k1 : Int) + (k2 : Int)) == 0) = false := by rw [beq_eq_false_iff_ne]; omega
        go_wp2
        go_round
        case rel => exact ⟨j + (k1 + k2), by omega, by go_num, by rw [HA.out, Wo.passL_step _ (by rw [E1.out]; exact hz), E1.out, List.drop_drop]; omega⟩
        case measure => simp [intOf]; omega
    · have e1 := E1.out
      rw [if_neg hh] at e1
      have c2 := C2.out
      rw [decide_eq_false hh] at c2
      clear hh C2 E1
      have E1 := Lib.hid e1
      have C2 := Lib.hid c2
      clear e1 c2
      go_wp2_with fail
      with_reducible refine C2.out.mono ?_
      rintro e w' ⟨rfl, rfl⟩
      by_cases hz : k1 = 0
      · obtain rfl : k1 = 0 := hz
        go_wp2
        go_ret
        exact ⟨ret_int (by rw [HA.out, Wo.passL_stop _ E1.out]; rfl), rfl⟩
      · have hz' : ((k1 : Int) == 0) = false := by rw [beq_eq_false_iff_ne]; omega
        go_wp2
        go_round
        case rel => exact ⟨j + k1, by omega, by go_num, by rw [HA.out, Wo.passL_step _ (by rw [E1.out]; exact hz), E1.out, Nat.add_zero, List.drop_drop]; omega⟩
        case measure => simp [intOf]; omega
end Go.Proofs.YthbdnbeiafpkcaaDoor
