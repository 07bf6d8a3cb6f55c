/- package bytes: numbers and blobs that are got, by contract. -/
import Derived.Test.YtndfelbgppbncaaBFour
set_option linter.unusedVariables false
namespace Go.Proofs.Ytndfelbgppbncaa
open Go.RowKit
/-- what GetUint tells of what stands at a place -/
def GuPost (l : List UInt8) (at' : Nat) (w : World) (e : Ending) (w' : World) : Prop :=
  e = .returned (.tuple #[.int .u64 (if (By.gu (l.drop at')).2.2 = 0 then (By.gu (l.drop at')).1 else 0 : Nat), .int .i64 (if (By.gu (l.drop at')).2.2 = 0 then at' + (By.gu (l.drop at')).2.1 else 0 : Nat), .int .i64 (By.gu (l.drop at')).2.2]) ∧ w = w'
theorem gu_post {l : List UInt8} {at' n c er : Nat} {w : World} (h : By.gu (l.drop at') = (n, c, er)) (hz : er ≠ 0 → n = 0) : GuPost l at' w (.returned (.tuple #[.int .u64 n, .int .i64 (if er = 0 then at' + c else 0 : Nat), .int .i64 er])) w := by
  unfold GuPost
  rw [h]
  refine ⟨?_, rfl⟩
  by_cases he : er = 0
  · simp only [if_pos he]
  · simp only [if_neg he]; rw [hz he]
theorem p7 (j : Nat) : (128 : Nat) ^ j = 2 ^ (7 * j) := by rw [Nat.pow_mul]
theorem acc_lt (acc y j : Nat) (h : acc < 2 ^ (7 * j)) (hy : y < 128) : acc + y * 128 ^ j < 2 ^ (7 * (j + 1)) := by
  rw [← p7] at h ⊢
  rw [Nat.pow_succ, Nat.mul_comm (128 ^ j)]
  have : y * 128 ^ j ≤ 127 * 128 ^ j := Nat.mul_le_mul_right _ (by omega)
  omega
theorem or_step (acc y j : Nat) (hj : j ≤ 9) (h : acc < 2 ^ (7 * j)) (hy : y < 128) (h9 : j = 9 → y ≤ 1) :
    bits .or .u64 (acc : Int) (IntKind.u64.wrap ((y : Int) * 2 ^ (7 * j))) = ((acc + y * 128 ^ j : Nat) : Int) := by
  have hp : ((2 : Int) ^ (7 * j)) = ((2 ^ (7 * j) : Nat) : Int) := by rw [Int.natCast_pow]; rfl
  have hq : (2 : Nat) ^ (7 * j) ≤ 9223372036854775808 := by
    have := Nat.pow_le_pow_right (show 0 < 2 by decide) (show 7 * j ≤ 63 by omega)
    exact Nat.le_trans this (by decide)
  have hyx : y * 2 ^ (7 * j) < 18446744073709551616 := by
    by_cases e : j = 9
    · have := Nat.mul_le_mul_right (2 ^ (7 * j)) (h9 e); omega
    · have h2 : (2 : Nat) ^ (7 * j) ≤ 72057594037927936 := by
        have := Nat.pow_le_pow_right (show 0 < 2 by decide) (show 7 * j ≤ 56 by omega)
        exact Nat.le_trans this (by decide)
      have := Nat.mul_le_mul (show y ≤ 127 by omega) h2
      omega
  rw [hp, ← Int.natCast_mul, wraps_u64 _ (by omega) (by omega)]
  rw [bits_join_low .u64 64 (by decide) wraps_u64 (7 * j) _ _ (by omega) (by rw [hp]; omega) (by omega) (by omega) (by rw [hp, ← Int.natCast_emod, Nat.mul_mod_left]; rfl) (by omega), p7]
  omega
set_option maxHeartbeats 1600000 in
set_option maxRecDepth 100000 in
theorem getUint_any (ba : Option Addr) (n cap : Nat) (l : List UInt8) (at' : Nat) (w : World) (hn : l.length = n) (hr : Rd w ba l) (ha : at' ≤ n) (hl : n ≤ 1099511627776) :
    Calls Try.prog 78 #[.slice ba n cap, .int .i64 at'] w (GuPost l at' w) := by
  have HR := Lib.hid hr
  have HN := Lib.hid hn
  have b1 : ¬ (n : Int) < (at' : Int) := by omega
  clear hr hn
  go_enter Try.func78, Try.ntmps78
  go_wp2_with fail
  go_loop [7, 18] (fun nv iv => ∃ j acc : Nat, j ≤ 9 ∧ at' + j ≤ n ∧ iv = .int .i64 j ∧ nv = .int .u64 acc ∧ acc < 2 ^ (7 * j) ∧ By.gu (l.drop at') = By.guF j acc (l.drop (at' + j))) (fun _ i => 10 - (intOf i).toNat)
  case atStart => exact ⟨0, 0, by omega, by omega, rfl, rfl, by decide, rfl⟩
  case round =>
    obtain ⟨j, acc, hj, haj, rfl, rfl, hacc, hgu⟩ := hrel
    have HG := Lib.hid hgu
    have HACC := Lib.hid hacc
    clear hgu hacc
    by_cases hend : at' + j = n
    · have hfin : By.gu (l.drop at') = (0, 0, 11) := by
        rw [HG.out, List.drop_of_length_le (by have := HN.out; omega)]; rfl
      have HF := Lib.hid hfin
      have k1 : ((at' : Int) + (j : Int) == (n : Int)) = true := beqI (by omega)
      clear hfin
      go_wp2
      go_ret3
      exact gu_post HF.out (fun _ => rfl)
    · obtain ⟨b, o, rfl, hlt, hcell⟩ : ∃ b o, ba = some (⟨b, o, none⟩ : Addr) ∧ b < w.heap.size ∧ ∀ i (h : i < l.length), w.cell? ⟨b, o + i, none⟩ = some (.int .u8 (l[i].toNat : Nat)) := by
        rcases HR.out with h | h
        · have := HN.out; rw [h] at this; simp at this; omega
        · exact h
      have hlt2 : at' + j < l.length := by have := HN.out; omega
      have hc1 := hcell (at' + j) hlt2
      have hdr := List.drop_eq_getElem_cons hlt2
      have hx : l[at' + j].toNat < 256 := l[at' + j].toNat_lt
      generalize l[at' + j] = x at hc1 hdr hx
      have hgu2 := HG.out
      rw [hdr] at hgu2
      unfold By.guF at hgu2
      have k1 : ((at' : Int) + (j : Int) == (n : Int)) = false := bneI (by omega)
      clear hcell hdr
      by_cases hbad : (j = 9 ∧ 1 < x.toNat) ∨ (x.toNat = 0 ∧ 0 < j)
      · rw [if_pos hbad] at hgu2
        have HF := Lib.hid hgu2
        clear hgu2
        by_cases h9 : j = 9 ∧ 1 < x.toNat
        · obtain ⟨rfl, h1⟩ := h9
          have i1 : (1 : Int) < (x.toNat : Int) := by omega
          clear hbad
          go_wp2
          go_ret3
          exact gu_post HF.out (fun _ => rfl)
        · obtain ⟨h0, h1⟩ : x.toNat = 0 ∧ 0 < j := by omega
          have i1 : (((x.toNat : Nat) : Int) == 0) = true := beqI (by omega)
          have i2 : decide ((1 : Int) < (x.toNat : Int)) = false := by simp; omega
          clear hbad h9
          by_cases h9 : j = 9
          · subst h9
            go_wp2
            go_ret3
            exact gu_post HF.out (fun _ => rfl)
          · have i3 : ((j : Int) == 9) = false := bneI (by omega)
            go_wp2
            go_ret3
            exact gu_post HF.out (fun _ => rfl)
      · rw [if_neg hbad] at hgu2
        have hcase : (j = 9 ∧ x.toNat = 1) ∨ (j = 0 ∧ x.toNat = 0) ∨ (¬ j = 9 ∧ ¬ x.toNat = 0) := by omega
        have ham : bits .and .u8 ((x.toNat : Nat) : Int) 127 = (x.toNat : Int) % 128 := u8_and127 _ (by omega) (by omega)
        have hor := or_step acc (x.toNat % 128) j hj HACC.out (by omega) (by omega)
        have hlt' : acc + x.toNat % 128 * 128 ^ j < 2 ^ (7 * (j + 1)) := acc_lt acc (x.toNat % 128) j HACC.out (by omega)
        rw [Int.natCast_emod, show ((128 : Nat) : Int) = 128 from rfl] at hor
        generalize acc + x.toNat % 128 * 128 ^ j = A at hgu2 hor hlt'
        have HLT := Lib.hid hlt'
        clear hlt'
        by_cases h128 : x.toNat < 128
        · rw [if_pos h128] at hgu2
          have HF := Lib.hid hgu2
          clear hgu2
          rcases hcase with ⟨h9, h1⟩ | ⟨h9, h1⟩ | ⟨h9, h1⟩
          · have i3 : ((j : Int) == 9) = true := beqI (by omega)
            have i4 : (((x.toNat : Nat) : Int) == 0) = false := bneI (by omega)
            have i2 : decide ((1 : Int) < (x.toNat : Int)) = false := by simp; omega
            clear hbad h1 h9
            go_wp2
            go_ret3
            exact gu_post HF.out (fun h => absurd rfl h)
          · have i3 : ((j : Int) == 9) = false := bneI (by omega)
            have i4 : (((x.toNat : Nat) : Int) == 0) = true := beqI (by omega)
            have i2 : decide (0 < j) = false := by simp; omega
            have i5 : ¬ 0 < j := by omega
            clear hbad h1 h9
            go_wp2
            go_ret3
            exact gu_post HF.out (fun h => absurd rfl h)
          · have i3 : ((j : Int) == 9) = false := bneI (by omega)
            have i4 : (((x.toNat : Nat) : Int) == 0) = false := bneI (by omega)
            clear hbad h1 h9
            go_wp2
            go_ret3
            exact gu_post HF.out (fun h => absurd rfl h)
        · have h9 : ¬ j = 9 := by omega
          rw [if_neg h128, if_neg h9] at hgu2
          have HF := Lib.hid hgu2
          have i3 : ((j : Int) == 9) = false := bneI (by omega)
          have i4 : (((x.toNat : Nat) : Int) == 0) = false := bneI (by omega)
          clear hgu2 hbad hcase
          go_wp2
          go_round
          case rel => exact ⟨j + 1, A, by omega, by omega, by go_num, rfl, HLT.out, by rw [HF.out, Nat.add_assoc]⟩
          case measure => simp [intOf]; omega
end Go.Proofs.Ytndfelbgppbncaa
