/- package bytes: signed numbers, by contract. -/
import Derived.Test.YtgamhgeiceakeaaDoorVMem
set_option linter.unusedVariables false
set_option linter.unusedSimpArgs false
namespace Go.Proofs.YtgamhgeiceakeaaDoor
open Go.RowKit
theorem xor_u64_0 (m : Nat) (h : m < 18446744073709551616) : bits .xor .u64 (m : Int) 0 = (m : Int) := by
  have := bits_xor_u64_nat m 0 h (by decide)
  rw [Nat.xor_zero] at this
  exact this
theorem xor_comm_u64 (a b : Int) : bits .xor .u64 a b = bits .xor .u64 b a := by
  show IntKind.u64.wrap ((BitVec.ofInt 64 a ^^^ BitVec.ofInt 64 b).toNat : Int) = IntKind.u64.wrap ((BitVec.ofInt 64 b ^^^ BitVec.ofInt 64 a).toNat : Int)
  rw [BitVec.xor_comm]
theorem xor_comm_i64 (a b : Int) : bits .xor .i64 a b = bits .xor .i64 b a := by
  show IntKind.i64.wrap ((BitVec.ofInt 64 a ^^^ BitVec.ofInt 64 b).toNat : Int) = IntKind.i64.wrap ((BitVec.ofInt 64 b ^^^ BitVec.ofInt 64 a).toNat : Int)
  rw [BitVec.xor_comm]
theorem xor_i64_0 (x : Nat) (hx : x < 9223372036854775808) : bits .xor .i64 (x : Int) 0 = (x : Int) := by
  show IntKind.i64.wrap ((BitVec.ofInt 64 (x : Int) ^^^ BitVec.ofInt 64 0).toNat : Int) = _
  have h1 : BitVec.ofInt 64 (0 : Int) = 0#64 := by decide
  have h2 : (BitVec.ofInt 64 (x : Int)).toNat = x := by
    rw [BitVec.ofInt_natCast, BitVec.toNat_ofNat]; exact Nat.mod_eq_of_lt (by omega)
  rw [h1, BitVec.xor_zero, h2, IntKind.wrap_i64]
  omega
/-- the program's way back -/
theorem un_way (m : Nat) (h : m < 18446744073709551616) : bits .xor .i64 (wrap64 ((m : Int) / 2)) (wrap64 (-wrap64 (bits .and .u64 (m : Int) 1))) = Va.ung m := by
  have h2 : wrap64 ((m : Int) / 2) = ((m / 2 : Nat) : Int) := by rw [IntWalk.wrap64_in _ (by omega)]; omega
  rw [Lib.u64_and1 _ (by omega) (by omega), h2]
  unfold Va.ung
  rcases (show m % 2 = 0 ∨ m % 2 = 1 by omega) with e | e
  · rw [if_pos e, show ((m : Int) % 2) = 0 by omega, show wrap64 (-wrap64 0) = 0 from by rw [IntWalk.wrap64_in 0 (by omega), IntWalk.wrap64_in _ (by omega)]; rfl]
    exact xor_i64_0 _ (by omega)
  · rw [if_neg (by omega), show ((m : Int) % 2) = 1 by omega, show wrap64 (-wrap64 1) = -1 from by rw [IntWalk.wrap64_in 1 (by omega), IntWalk.wrap64_in _ (by omega)], xor_comm_i64]
    exact Lib.i64_not _ (by omega)
set_option maxHeartbeats 1600000 in
set_option maxRecDepth 100000 in
theorem int_any (B : Nat) (v : Value) (l : List UInt8) (n : Int) (w : World) (hn : Va.I64 n) (ho : Ow w B v l) (hB : B ≤ w.heap.size) (hl : l.length ≤ 1099511627776) :
    Calls Tryd.prog 50 #[v, .int .i64 n] w (OwPost B v (l ++ By.uv (Va.zg n)) w) := by
  have C := Lib.hid (uint_any B v l (Va.zg n) w (Va.zg_lt hn) ho hB hl)
  obtain ⟨h1, h2⟩ := hn
  clear ho
  by_cases h0 : 0 ≤ n
  · have hz : bits .xor .u64 (n * 2) (n / 9223372036854775808) = (Va.zg n : Nat) := by
      have e : n * 2 = (Va.zg n : Nat) := by unfold Va.zg; rw [if_pos h0]; omega
      rw [show n / 9223372036854775808 = 0 by omega, e]
      exact xor_u64_0 _ (Va.zg_lt ⟨h1, h2⟩)
    go_enter Tryd.func50, Tryd.ntmps50
    go_wp2_with fail
    refine (C.out).mono ?_
    rintro e w2 ⟨v', rfl, ho, hg, hnn⟩
    go_wp2
    go_ret
    exact ⟨v', rfl, ho, hg, hnn⟩
  · have hz : bits .xor .u64 (IntKind.u64.wrap (IntKind.u64.wrap n * 2)) (IntKind.u64.wrap (n / 9223372036854775808)) = (Va.zg n : Nat) := by
      rw [show n / 9223372036854775808 = -1 by omega, xor_comm_u64]
      exact Lib.zigzag_neg h1 (by omega)
    go_enter Tryd.func50, Tryd.ntmps50
    go_wp2_with fail
    refine (C.out).mono ?_
    rintro e w2 ⟨v', rfl, ho, hg, hnn⟩
    go_wp2
    go_ret
    exact ⟨v', rfl, ho, hg, hnn⟩
def GiPost (l : List UInt8) (at' : Nat) (w : World) (e : Ending) (w' : World) : Prop :=
  e = .returned (.tuple #[.int .i64 (Va.ung (if (By.gu (l.drop at')).2.2 = 0 then (By.gu (l.drop at')).1 else 0)), .int .i64 (if (By.gu (l.drop at')).2.2 = 0 then at' + (By.gu (l.drop at')).2.1 else 0 : Nat), .int .i64 (By.gu (l.drop at')).2.2]) ∧ w = w'
set_option maxHeartbeats 1600000 in
set_option maxRecDepth 100000 in
theorem getInt_any (ba : Option Addr) (n cap : Nat) (l : List UInt8) (at' : Nat) (w : World) (hn : l.length = n) (hr : Rd w ba l) (ha : at' ≤ n) (hl : n ≤ 1099511627776) :
    Calls Tryd.prog 45 #[.slice ba n cap, .int .i64 at'] w (GiPost l at' w) := by
  have C := Lib.hid (getUint_any ba n cap l at' w hn hr ha hl)
  clear hr
  go_enter Tryd.func45, Tryd.ntmps45
  go_wp2_with fail
  with_reducible refine (C.out).mono ?_
  rintro e w2 ⟨rfl, rfl⟩
  have hlt : (if (By.gu (l.drop at')).2.2 = 0 then (By.gu (l.drop at')).1 else 0) < 18446744073709551616 := by
    by_cases h : (By.gu (l.drop at')).2.2 = 0
    · rw [if_pos h]
      exact (Va.gu_inv (l.drop at') _ (By.gu (l.drop at')).2.1 (by rw [← h])).2.2.2
    · rw [if_neg h]; omega
  generalize hm2 : (if (By.gu (l.drop at')).2.2 = 0 then (By.gu (l.drop at')).1 else 0) = m2 at hlt ⊢
  generalize hnx : (if (By.gu (l.drop at')).2.2 = 0 then at' + (By.gu (l.drop at')).2.1 else 0) = nx
  have HM2 := Lib.hid hm2
  have HNX := Lib.hid hnx
  clear hm2 hnx
  have hw := un_way m2 hlt
  have hw2 : bits .xor .i64 ((m2 : Int) / 2) (wrap64 (-wrap64 (bits .and .u64 (m2 : Int) 1))) = Va.ung m2 := by rw [← hw, IntWalk.wrap64_in ((m2 : Int) / 2) (by omega)]
  go_wp2
  go_ret3
  unfold GiPost
  rw [HM2.out, HNX.out]
  exact ⟨rfl, rfl⟩
end Go.Proofs.YtgamhgeiceakeaaDoor
