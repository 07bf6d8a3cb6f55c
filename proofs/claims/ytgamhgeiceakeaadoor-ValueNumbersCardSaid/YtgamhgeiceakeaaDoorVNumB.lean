/- ValueNumbers: plain facts; strings.Repeat, wrong, by contract. -/
import Derived.Test.YtgamhgeiceakeaaDoorVNumA
set_option linter.unusedVariables false
set_option linter.unusedSimpArgs false
namespace Go.Proofs.YtgamhgeiceakeaaDoor
open Go.RowKit
open Va (V)
/-- so many times x -/
def repx (n : Nat) : ByteArray := ⟨(Lib.repeatL [120] n).toArray⟩
namespace Va
def wideV (n : Nat) : V := .mk 4 0 em (ints n)
def bads : List V := [.mk 0 0 em [], .mk 6 0 em [], .mk 2 2 em [], .mk 2 (-1) em [], .mk 5 (-1) em [], .mk 1 0 ⟨#[120]⟩ [], .mk 1 0 em (ints 1), .mk 3 1 em [], .mk 3 0 em (ints 1), .mk 4 1 em [], .mk 4 0 ⟨#[120]⟩ [], .mk 4 0 em [.mk 2 7 em []], nest 16, wideV 256, .mk 3 0 (repx 4097) [], .mk 4 0 em [wideV 255]]
set_option maxRecDepth 100000 in
theorem bads_all : bads.all (fun v => !right v) = true := by kernel_rfl
theorem bads_right (v : V) (h : v ∈ bads) : right v = false := by
  have := List.all_eq_true.1 bads_all v h
  simpa using this
set_option maxRecDepth 100000 in
theorem good_a : right (nest 15) = true := by kernel_rfl
set_option maxRecDepth 100000 in
theorem good_b : right (wideV 255) = true := by kernel_rfl
set_option maxRecDepth 100000 in
theorem good_c : right (.mk 4 0 em [wideV 254]) = true := by kernel_rfl
set_option maxRecDepth 100000 in
theorem good_d : right (.mk 3 0 (repx 4096) []) = true := by kernel_rfl
theorem good_e : right (.mk 4 0 em []) = true := by kernel_rfl
def sixt : List UInt8 := Lib.repeatL [4, 1] 15
def fullb : List UInt8 := [4, 128, 2] ++ Lib.repeatL [2, 1] 256
theorem get_1 : get [] 0 = .error 11 := by kernel_rfl
theorem get_2 : get [0] 0 = .error 10 := by kernel_rfl
theorem get_3 : get [1] 0 = .error 11 := by kernel_rfl
theorem get_4 : get [1, 128, 0] 0 = .error 10 := by kernel_rfl
theorem get_5 : get [2] 0 = .error 11 := by kernel_rfl
theorem get_6 : get [4] 0 = .error 11 := by kernel_rfl
theorem get_7 : get [4, 1] 0 = .error 11 := by kernel_rfl
theorem get_8 : get [4, 129, 2] 0 = .error 13 := by kernel_rfl
theorem get_9 : get [3, 129, 32] 0 = .error 3 := by kernel_rfl
theorem get_10 : get (sixt ++ [4, 1, 4, 0]) 0 = .error 13 := by kernel_rfl
theorem get_11 : get (sixt ++ [4, 0]) 0 = .ok (nest 15, 32, 240) := by kernel_rfl
theorem get_12 : get [4, 2, 1, 2, 7] 0 = .error 10 := by kernel_rfl
set_option maxRecDepth 100000 in
theorem get_13 : get fullb 0 = .error 13 := by kernel_rfl
theorem dec_ge (u : Nat) (h : ¬ u < 10) : Lib.decDigits u = Lib.decDigits (u / 10) ++ [UInt8.ofNat (48 + u % 10)] := by
  conv => lhs; unfold Lib.decDigits
  rw [dif_neg h]
theorem dec_2 : Lib.decDigits 9223372036854775808 = [57, 50, 50, 51, 51, 55, 50, 48, 51, 54, 56, 53, 52, 55, 55, 53, 56, 48, 56] := by
  iterate 18 rw [dec_ge _ (by decide)]
  rw [show 9223372036854775808 / 10 / 10 / 10 / 10 / 10 / 10 / 10 / 10 / 10 / 10 / 10 / 10 / 10 / 10 / 10 / 10 / 10 / 10 = 9 from rfl, Lib.decDigits_one (by decide)]
  rfl
theorem show_2 : shownPost (.mk 1 (-9223372036854775808) em []) = [45, 57, 50, 50, 51, 51, 55, 50, 48, 51, 54, 56, 53, 52, 55, 55, 53, 56, 48, 56] := by
  have h3 : Lib.itoa (-9223372036854775808) = 45 :: Lib.decDigits 9223372036854775808 := by unfold Lib.itoa; rw [if_pos (by decide)]; rfl
  have hr : right (.mk 1 (-9223372036854775808) em []) = true := by rfl
  unfold shownPost
  rw [if_pos hr]
  show Lib.itoa (-9223372036854775808) = _
  rw [h3, dec_2]
def triple : V := .mk 4 0 em [.mk 1 1 em [], .mk 3 0 ⟨#[10, 92, 255]⟩ [], .mk 2 0 em []]
theorem show_3 : shownPost triple = [40, 49, 44, 32, 34, 92, 48, 97, 92, 53, 99, 92, 102, 102, 34, 44, 32, 102, 97, 108, 115, 101, 41] := by
  have h3 : Lib.itoa 1 = [49] := by unfold Lib.itoa; rw [if_neg (by decide)]; rw [show (1 : Int).toNat = 1 from rfl, Lib.decDigits_one (by decide)]; rfl
  have hr : right triple = true := by rfl
  unfold shownPost
  rw [if_pos hr]
  show tup [Lib.itoa 1, qt [10, 92, 255], bt ((0 : Int) == 1)] = _
  rw [h3]; rfl
/-- the row in its order -/
def row15 : List V := [.mk 1 (-5) em [], .mk 1 7 em [], .mk 2 0 em [], .mk 2 1 em [], .mk 3 0 em [], .mk 3 0 ⟨#[97]⟩ [], .mk 3 0 ⟨#[97, 98]⟩ [], .mk 3 0 ⟨#[98]⟩ [], .mk 4 0 em [], .mk 4 0 em [.mk 1 1 em []], .mk 4 0 em [.mk 3 0 ⟨#[97]⟩ []], .mk 4 0 em [.mk 1 0 em [], .mk 1 9 em []], .mk 4 0 em [.mk 1 1 em [], .mk 1 0 em []], .mk 5 0 em [], .mk 5 5 em []]
def cmp15 (i k : Nat) : Int := match row15[i]?, row15[k]? with
  | some a, some b => cmpV a b 16
  | _, _ => 0
theorem row_all : (List.range 15).all (fun i => (List.range 15).all fun k => decide (cmp15 i k < 0) == decide (i < k) && decide (cmp15 i k = 0) == decide (i = k)) = true := by kernel_rfl
theorem row_ok (i k : Nat) (hi : i < row15.length) (hk : k < row15.length) : decide (cmpV row15[i] row15[k] 16 < 0) = decide (i < k) ∧ decide (cmpV row15[i] row15[k] 16 = 0) = decide (i = k) := by
  have h1 := List.all_eq_true.1 row_all i (List.mem_range.2 hi)
  have h2 := List.all_eq_true.1 h1 k (List.mem_range.2 hk)
  have h3 : cmp15 i k = cmpV row15[i] row15[k] 16 := by
    unfold cmp15
    rw [List.getElem?_eq_getElem hi, List.getElem?_eq_getElem hk]
  rw [h3, Bool.and_eq_true, beq_iff_eq, beq_iff_eq] at h2
  exact h2
theorem show_1 : shownPost (.mk 4 0 em []) = [40, 41] := by kernel_rfl
end Va
end Go.Proofs.YtgamhgeiceakeaaDoor
