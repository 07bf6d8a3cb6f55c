/- package frame: which packets are right, by contract. -/
import Derived.Test.YtndfelbgppbncaaBSix
set_option linter.unusedVariables false
namespace Go.Proofs.Ytndfelbgppbncaa
open Go.RowKit
def pkV (f l s a : Int) (d : Value) : Value := .agg #[.int .i64 f, .int .i64 l, .int .i64 s, .int .i64 a, d]
def okN (x : Int) : Bool := decide (0 ≤ x) && decide (x ≤ 4611686018427387904)
def rightB (f l s a : Int) (n : Nat) : Bool := okN f && okN l && okN s && okN a && (decide (n ≤ 1048576) && (decide (0 < s) || n == 0))
theorem okN_iff (x : Int) : okN x = true ↔ 0 ≤ x ∧ x ≤ 4611686018427387904 := by unfold okN; simp
theorem okN_no (x : Int) : okN x = false ↔ x < 0 ∨ 4611686018427387904 < x := by unfold okN; simp; omega
def BoolBelow (b : Bool) (w : World) (e : Ending) (w' : World) : Prop := e = .returned (.bool b) ∧ Below w.heap.size w w'
set_option maxHeartbeats 1600000 in
set_option maxRecDepth 100000 in
theorem right_yes (f l s a : Int) (ba : Option Addr) (n cap : Nat) (w : World) (hf : 0 ≤ f ∧ f ≤ 4611686018427387904) (hl : 0 ≤ l ∧ l ≤ 4611686018427387904) (hs : 0 ≤ s ∧ s ≤ 4611686018427387904) (ha : 0 ≤ a ∧ a ≤ 4611686018427387904) :
    Calls Try.prog 65 #[.agg #[.int .i64 f, .int .i64 l, .int .i64 s, .int .i64 a, .slice ba n cap]] w (BoolBelow (decide (n ≤ 1048576) && (decide (0 < s) || n == 0)) w) := by
  have i0 : ∀ w, (Instr.index 103 (.agg #[.int .i64 f, .int .i64 l, .int .i64 s, .int .i64 a]) (.int .i64 0)).run Try.prog w = .ok (.int .i64 f) w := fun _ => by kernel_rfl
  have i1 : ∀ w, (Instr.index 103 (.agg #[.int .i64 f, .int .i64 l, .int .i64 s, .int .i64 a]) (.int .i64 1)).run Try.prog w = .ok (.int .i64 l) w := fun _ => by kernel_rfl
  have i2 : ∀ w, (Instr.index 103 (.agg #[.int .i64 f, .int .i64 l, .int .i64 s, .int .i64 a]) (.int .i64 2)).run Try.prog w = .ok (.int .i64 s) w := fun _ => by kernel_rfl
  have i3 : ∀ w, (Instr.index 103 (.agg #[.int .i64 f, .int .i64 l, .int .i64 s, .int .i64 a]) (.int .i64 3)).run Try.prog w = .ok (.int .i64 a) w := fun _ => by kernel_rfl
  obtain ⟨f1, f2⟩ := hf
  obtain ⟨l1, l2⟩ := hl
  obtain ⟨s1, s2⟩ := hs
  obtain ⟨a1, a2⟩ := ha
  go_enter Try.func65, Try.ntmps65
  go_wp2
  go_loop [14] (fun i => ∃ j : Nat, j ≤ 4 ∧ i = .int .i64 j) (fun i => 4 - (intOf i).toNat)
  case atStart => exact ⟨0, by omega, rfl⟩
  case round =>
    obtain ⟨j, hj, rfl⟩ := hrel
    have hcase : j = 0 ∨ j = 1 ∨ j = 2 ∨ j = 3 ∨ j = 4 := by omega
    rcases hcase with rfl | rfl | rfl | rfl | rfl
    · go_wp2
      go_round
      case rel => exact ⟨1, by omega, by go_num⟩
      case measure => simp [intOf]
    · go_wp2
      go_round
      case rel => exact ⟨2, by omega, by go_num⟩
      case measure => simp [intOf]
    · go_wp2
      go_round
      case rel => exact ⟨3, by omega, by go_num⟩
      case measure => simp [intOf]
    · go_wp2
      go_round
      case rel => exact ⟨4, by omega, by go_num⟩
      case measure => simp [intOf]
    · clear i0 i1 i2 i3
      by_cases h1 : n ≤ 1048576
      · by_cases h2 : 0 < s
        · go_wp2
          go_ret
          exact ⟨by simp [h1, h2], (Below.refl _ _).alloc (Nat.le_refl _) _⟩
        · by_cases h3 : n = 0
          · have h3' : ((n : Int) == 0) = true := beqI (by omega)
            go_wp2
            go_ret
            exact ⟨by simp [h2, h3], (Below.refl _ _).alloc (Nat.le_refl _) _⟩
          · have h3' : ((n : Int) == 0) = false := bneI (by omega)
            go_wp2
            go_ret
            exact ⟨by simp [h2, h3], (Below.refl _ _).alloc (Nat.le_refl _) _⟩
      · go_wp2
        go_ret
        exact ⟨by simp [h1], (Below.refl _ _).alloc (Nat.le_refl _) _⟩
set_option maxHeartbeats 1600000 in
set_option maxRecDepth 100000 in
theorem right_no0 (f l s a : Int) (ba : Option Addr) (n cap : Nat) (w : World)  (hx : f < 0 ∨ 4611686018427387904 < f) :
    Calls Try.prog 65 #[.agg #[.int .i64 f, .int .i64 l, .int .i64 s, .int .i64 a, .slice ba n cap]] w (BoolBelow false w) := by
  have i0 : ∀ w, (Instr.index 103 (.agg #[.int .i64 f, .int .i64 l, .int .i64 s, .int .i64 a]) (.int .i64 0)).run Try.prog w = .ok (.int .i64 f) w := fun _ => by kernel_rfl
  go_enter Try.func65, Try.ntmps65
  go_wp2
  go_loop [14] (fun i => ∃ j : Nat, j ≤ 0 ∧ i = .int .i64 j) (fun i => 4 - (intOf i).toNat)
  case atStart => exact ⟨0, by omega, rfl⟩
  case round =>
    obtain ⟨j, hj, rfl⟩ := hrel
    obtain rfl : j = 0 := by omega
    rcases hx with hx | hx
    · go_wp2
      go_ret
      exact ⟨rfl, (Below.refl _ _).alloc (Nat.le_refl _) _⟩
    · have hx0 : ¬ f < 0 := by omega
      go_wp2
      go_ret
      exact ⟨rfl, (Below.refl _ _).alloc (Nat.le_refl _) _⟩
set_option maxHeartbeats 1600000 in
set_option maxRecDepth 100000 in
theorem right_no1 (f l s a : Int) (ba : Option Addr) (n cap : Nat) (w : World) (h0 : 0 ≤ f ∧ f ≤ 4611686018427387904) (hx : l < 0 ∨ 4611686018427387904 < l) :
    Calls Try.prog 65 #[.agg #[.int .i64 f, .int .i64 l, .int .i64 s, .int .i64 a, .slice ba n cap]] w (BoolBelow false w) := by
  have i0 : ∀ w, (Instr.index 103 (.agg #[.int .i64 f, .int .i64 l, .int .i64 s, .int .i64 a]) (.int .i64 0)).run Try.prog w = .ok (.int .i64 f) w := fun _ => by kernel_rfl
  have i1 : ∀ w, (Instr.index 103 (.agg #[.int .i64 f, .int .i64 l, .int .i64 s, .int .i64 a]) (.int .i64 1)).run Try.prog w = .ok (.int .i64 l) w := fun _ => by kernel_rfl
  obtain ⟨p0, q0⟩ := h0
  go_enter Try.func65, Try.ntmps65
  go_wp2
  go_loop [14] (fun i => ∃ j : Nat, j ≤ 1 ∧ i = .int .i64 j) (fun i => 4 - (intOf i).toNat)
  case atStart => exact ⟨0, by omega, rfl⟩
  case round =>
    obtain ⟨j, hj, rfl⟩ := hrel
    have hcase : j = 0 ∨ j = 1 := by omega
    rcases hcase with rfl | rfl
    · go_wp2
      go_round
      case rel => exact ⟨1, by omega, by go_num⟩
      case measure => simp [intOf]
    · rcases hx with hx | hx
      · go_wp2
        go_ret
        exact ⟨rfl, (Below.refl _ _).alloc (Nat.le_refl _) _⟩
      · have hx0 : ¬ l < 0 := by omega
        go_wp2
        go_ret
        exact ⟨rfl, (Below.refl _ _).alloc (Nat.le_refl _) _⟩
set_option maxHeartbeats 1600000 in
set_option maxRecDepth 100000 in
theorem right_no2 (f l s a : Int) (ba : Option Addr) (n cap : Nat) (w : World) (h0 : 0 ≤ f ∧ f ≤ 4611686018427387904) (h1 : 0 ≤ l ∧ l ≤ 4611686018427387904) (hx : s < 0 ∨ 4611686018427387904 < s) :
    Calls Try.prog 65 #[.agg #[.int .i64 f, .int .i64 l, .int .i64 s, .int .i64 a, .slice ba n cap]] w (BoolBelow false w) := by
  have i0 : ∀ w, (Instr.index 103 (.agg #[.int .i64 f, .int .i64 l, .int .i64 s, .int .i64 a]) (.int .i64 0)).run Try.prog w = .ok (.int .i64 f) w := fun _ => by kernel_rfl
  have i1 : ∀ w, (Instr.index 103 (.agg #[.int .i64 f, .int .i64 l, .int .i64 s, .int .i64 a]) (.int .i64 1)).run Try.prog w = .ok (.int .i64 l) w := fun _ => by kernel_rfl
  have i2 : ∀ w, (Instr.index 103 (.agg #[.int .i64 f, .int .i64 l, .int .i64 s, .int .i64 a]) (.int .i64 2)).run Try.prog w = .ok (.int .i64 s) w := fun _ => by kernel_rfl
  obtain ⟨p0, q0⟩ := h0
  obtain ⟨p1, q1⟩ := h1
  go_enter Try.func65, Try.ntmps65
  go_wp2
  go_loop [14] (fun i => ∃ j : Nat, j ≤ 2 ∧ i = .int .i64 j) (fun i => 4 - (intOf i).toNat)
  case atStart => exact ⟨0, by omega, rfl⟩
  case round =>
    obtain ⟨j, hj, rfl⟩ := hrel
    have hcase : j = 0 ∨ j = 1 ∨ j = 2 := by omega
    rcases hcase with rfl | rfl | rfl
    · go_wp2
      go_round
      case rel => exact ⟨1, by omega, by go_num⟩
      case measure => simp [intOf]
    · go_wp2
      go_round
      case rel => exact ⟨2, by omega, by go_num⟩
      case measure => simp [intOf]
    · rcases hx with hx | hx
      · go_wp2
        go_ret
        exact ⟨rfl, (Below.refl _ _).alloc (Nat.le_refl _) _⟩
      · have hx0 : ¬ s < 0 := by omega
        go_wp2
        go_ret
        exact ⟨rfl, (Below.refl _ _).alloc (Nat.le_refl _) _⟩
set_option maxHeartbeats 1600000 in
set_option maxRecDepth 100000 in
theorem right_no3 (f l s a : Int) (ba : Option Addr) (n cap : Nat) (w : World) (h0 : 0 ≤ f ∧ f ≤ 4611686018427387904) (h1 : 0 ≤ l ∧ l ≤ 4611686018427387904) (h2 : 0 ≤ s ∧ s ≤ 4611686018427387904) (hx : a < 0 ∨ 4611686018427387904 < a) :
    Calls Try.prog 65 #[.agg #[.int .i64 f, .int .i64 l, .int .i64 s, .int .i64 a, .slice ba n cap]] w (BoolBelow false w) := by
  have i0 : ∀ w, (Instr.index 103 (.agg #[.int .i64 f, .int .i64 l, .int .i64 s, .int .i64 a]) (.int .i64 0)).run Try.prog w = .ok (.int .i64 f) w := fun _ => by kernel_rfl
  have i1 : ∀ w, (Instr.index 103 (.agg #[.int .i64 f, .int .i64 l, .int .i64 s, .int .i64 a]) (.int .i64 1)).run Try.prog w = .ok (.int .i64 l) w := fun _ => by kernel_rfl
  have i2 : ∀ w, (Instr.index 103 (.agg #[.int .i64 f, .int .i64 l, .int .i64 s, .int .i64 a]) (.int .i64 2)).run Try.prog w = .ok (.int .i64 s) w := fun _ => by kernel_rfl
  have i3 : ∀ w, (Instr.index 103 (.agg #[.int .i64 f, .int .i64 l, .int .i64 s, .int .i64 a]) (.int .i64 3)).run Try.prog w = .ok (.int .i64 a) w := fun _ => by kernel_rfl
  obtain ⟨p0, q0⟩ := h0
  obtain ⟨p1, q1⟩ := h1
  obtain ⟨p2, q2⟩ := h2
  go_enter Try.func65, Try.ntmps65
  go_wp2
  go_loop [14] (fun i => ∃ j : Nat, j ≤ 3 ∧ i = .int .i64 j) (fun i => 4 - (intOf i).toNat)
  case atStart => exact ⟨0, by omega, rfl⟩
  case round =>
    obtain ⟨j, hj, rfl⟩ := hrel
    have hcase : j = 0 ∨ j = 1 ∨ j = 2 ∨ j = 3 := by omega
    rcases hcase with rfl | rfl | rfl | rfl
    · go_wp2
      go_round
      case rel => exact ⟨1, by omega, by go_num⟩
      case measure => simp [intOf]
    · go_wp2
      go_round
      case rel => exact ⟨2, by omega, by go_num⟩
      case measure => simp [intOf]
    · go_wp2
      go_round
      case rel => exact ⟨3, by omega, by go_num⟩
      case measure => simp [intOf]
    · rcases hx with hx | hx
      · go_wp2
        go_ret
        exact ⟨rfl, (Below.refl _ _).alloc (Nat.le_refl _) _⟩
      · have hx0 : ¬ a < 0 := by omega
        go_wp2
        go_ret
        exact ⟨rfl, (Below.refl _ _).alloc (Nat.le_refl _) _⟩
theorem right_any (f l s a : Int) (ba : Option Addr) (n cap : Nat) (w : World) :
    Calls Try.prog 65 #[.agg #[.int .i64 f, .int .i64 l, .int .i64 s, .int .i64 a, .slice ba n cap]] w (BoolBelow (rightB f l s a n) w) := by
  unfold rightB
  cases h0 : okN f with
  | false => exact right_no0 f l s a ba n cap w ((okN_no f).1 h0)
  | true =>
    cases h1 : okN l with
    | false => exact right_no1 f l s a ba n cap w ((okN_iff f).1 h0) ((okN_no l).1 h1)
    | true =>
      cases h2 : okN s with
      | false => exact right_no2 f l s a ba n cap w ((okN_iff f).1 h0) ((okN_iff l).1 h1) ((okN_no s).1 h2)
      | true =>
        cases h3 : okN a with
        | false => exact right_no3 f l s a ba n cap w ((okN_iff f).1 h0) ((okN_iff l).1 h1) ((okN_iff s).1 h2) ((okN_no a).1 h3)
        | true => exact right_yes f l s a ba n cap w ((okN_iff f).1 h0) ((okN_iff l).1 h1) ((okN_iff s).1 h2) ((okN_iff a).1 h3)
end Go.Proofs.Ytndfelbgppbncaa
