/- package bytes: sums, copies, by contract. -/
import Derived.Test.YtndfelbgppbncaaBOne
set_option linter.unusedVariables false
namespace Go.Proofs.Ytndfelbgppbncaa
open Go.RowKit
/-- what a slice of bytes reads as -/
def Rd (w : World) (ba : Option Addr) (l : List UInt8) : Prop := l = [] ∨ ∃ b o, ba = some (⟨b, o, none⟩ : Addr) ∧ b < w.heap.size ∧ ∀ i (h : i < l.length), w.cell? ⟨b, o + i, none⟩ = some (.int .u8 (l[i].toNat : Nat))
theorem Rd.below {w w' : World} {ba : Option Addr} {l : List UInt8} (h : Rd w ba l) (hb : Below w.heap.size w w') : Rd w' ba l := by
  rcases h with h | ⟨b, o, e, hlt, hc⟩
  · exact Or.inl h
  · refine Or.inr ⟨b, o, e, Nat.lt_of_lt_of_le hlt hb.size, fun i hi => ?_⟩
    rw [hb.cell (p := ⟨b, o + i, none⟩) hlt]; exact hc i hi
theorem Rd.take {w : World} {ba : Option Addr} {l : List UInt8} (h : Rd w ba l) (n : Nat) : Rd w ba (l.take n) := by
  rcases h with h | ⟨b, o, e, hlt, hc⟩
  · exact Or.inl (by rw [h]; simp)
  · refine Or.inr ⟨b, o, e, hlt, fun i hi => ?_⟩
    rw [List.length_take] at hi
    rw [hc i (by omega), List.getElem_take]
theorem Rd.drop {w : World} {b o : Nat} {l : List UInt8} (h : Rd w (some ⟨b, o, none⟩) l) (n : Nat) : Rd w (some ⟨b, o + n, none⟩) (l.drop n) := by
  rcases h with h | ⟨b, o, e, hlt, hc⟩
  · exact Or.inl (by rw [h]; simp)
  · cases e
    refine Or.inr ⟨b, o + n, rfl, hlt, fun i hi => ?_⟩
    rw [List.length_drop] at hi
    rw [Nat.add_assoc, hc (n + i) (by omega), List.getElem_drop]
theorem bits_xor_u32 (x y : Nat) (hx : x < 4294967296) (hy : y < 4294967296) : bits .xor .u32 (x : Int) (y : Int) = ((x ^^^ y : Nat) : Int) := by
  have hz : x ^^^ y < 2 ^ 32 := Nat.xor_lt_two_pow hx hy
  have e1 : (BitVec.ofInt 32 (x : Int)).toNat = x := by rw [BitVec.toNat_ofInt]; omega
  have e2 : (BitVec.ofInt 32 (y : Int)).toNat = y := by rw [BitVec.toNat_ofInt]; omega
  show IntKind.u32.wrap ((BitVec.ofInt 32 (x : Int) ^^^ BitVec.ofInt 32 (y : Int)).toNat : Int) = _
  rw [BitVec.toNat_xor, e1, e2, wraps_u32 _ (by omega) (by omega)]
theorem u32_and1 (x : Int) (h₀ : 0 ≤ x) (h₁ : x < 4294967296) : bits .and .u32 x 1 = x % 2 := by
  have h := bits_mask .u32 32 (by decide) wraps_u32 1 (by decide) x h₀ (by omega)
  simpa using h
theorem u32_and_const0 : bits .and .u32 3988292384 0 = 0 := by decide
theorem u32_and_const1 : bits .and .u32 3988292384 4294967295 = 3988292384 := by decide
theorem xor_ones32 (b : Nat) (hb : b < 2 ^ 32) : (2 ^ 32 - 1) ^^^ b = 2 ^ 32 - 1 - b := by
  apply Nat.eq_of_testBit_eq
  intro i
  rw [Nat.testBit_xor, Nat.testBit_two_pow_sub_one, show 2 ^ 32 - 1 - b = 2 ^ 32 - (b + 1) by omega, Nat.testBit_two_pow_sub_succ hb]
  by_cases hi : i < 32
  · simp [hi]
  · have : b.testBit i = false := Nat.testBit_lt_two_pow (Nat.lt_of_lt_of_le hb (Nat.pow_le_pow_right (by decide) (by omega)))
    simp [hi, this]
theorem u32_not (c : Nat) (h : c < 4294967296) : bits .xor .u32 IntKind.u32.max (c : Int) = ((4294967295 - c : Nat) : Int) := by
  rw [show IntKind.u32.max = ((4294967295 : Nat) : Int) from by decide, bits_xor_u32 _ _ (by decide) h]
  have := xor_ones32 c h
  rw [show (2 : Nat) ^ 32 - 1 = 4294967295 from by decide] at this
  rw [this]
def crcI : Nat → Nat → Nat
  | 0, c => c
  | q + 1, c => By.crc1 (crcI q c)
theorem crcI_lt (q c : Nat) (h : c < 4294967296) : crcI q c < 4294967296 := by
  induction q with
  | zero => exact h
  | succ q ih => exact By.crc1_lt _ ih
theorem crc_take (l : List UInt8) (j : Nat) (h : j < l.length) : By.crcF 4294967295 (l.take (j + 1)) = By.crc8 (By.crcF 4294967295 (l.take j) ^^^ l[j].toNat) := by
  rw [List.take_succ_eq_append_getElem h, By.crcF_snoc]; rfl
theorem ret_int {k : IntKind} {a b : Int} (h : a = b) : Ending.returned (.int k a) = .returned (.int k b) := by rw [h]
set_option maxHeartbeats 1600000 in
set_option maxRecDepth 100000 in
theorem crc_any (ba : Option Addr) (n cap : Nat) (l : List UInt8) (w : World) (hn : l.length = n) (hr : Rd w ba l) (hl : n ≤ 1099511627776) :
    Calls Try.prog 83 #[.slice ba n cap] w fun e w' => e = .returned (.int .u32 (By.crc l)) ∧ w = w' := by
  subst hn
  have HR := Lib.hid hr
  clear hr
  go_enter Try.func83, Try.ntmps83
  go_wp2
  go_loop [3, 8] (fun c i => ∃ j : Nat, j ≤ l.length ∧ i = .int .i64 j ∧ c = .int .u32 (By.crcF 4294967295 (l.take j))) (fun _ i => l.length - (intOf i).toNat)
  case atStart => exact ⟨0, Nat.zero_le _, rfl, rfl⟩
  case round =>
    obtain ⟨j, hj, rfl, rfl⟩ := hrel
    have hcl := By.crcF_lt (l.take j) 4294967295 (by omega)
    by_cases hlt : j < l.length
    · have hct := crc_take l j hlt
      obtain ⟨b, o, rfl, hbs, hcell⟩ : ∃ b o, ba = some (⟨b, o, none⟩ : Addr) ∧ b < w.heap.size ∧ ∀ i (h : i < l.length), w.cell? ⟨b, o + i, none⟩ = some (.int .u8 (l[i].toNat : Nat)) := by
        rcases HR.out with h | h
        · rw [h] at hlt; simp at hlt
        · exact h
      have hc1 := hcell j hlt
      have hxb : l[j].toNat < 256 := l[j].toNat_lt
      generalize l[j] = x at hc1 hct hxb
      generalize By.crcF 4294967295 (l.take j) = c at hcl hct
      have hx1 := bits_xor_u32 c x.toNat hcl (by omega)
      have hx2 : c ^^^ x.toNat < 4294967296 := Nat.xor_lt_two_pow (n := 32) hcl (by omega)
      generalize c ^^^ x.toNat = d at hct hx1 hx2
      have HCT := Lib.hid hct
      clear hct hcell
      go_wp2
      go_loop [3, 16] (fun c i => ∃ q : Nat, q ≤ 8 ∧ i = .int .i64 q ∧ c = .int .u32 (crcI q d)) (fun _ i => 8 - (intOf i).toNat)
      case atStart => exact ⟨0, by omega, rfl, rfl⟩
      case round =>
        obtain ⟨q, hq, rfl, rfl⟩ := hrel
        have hci := crcI_lt q d hx2
        by_cases hq8 : q < 8
        · have hst : crcI (q + 1) d = By.crc1 (crcI q d) := rfl
          generalize crcI q d = m at hci hst
          unfold By.crc1 at hst
          have ha := u32_and1 (m : Int) (by omega) (by omega)
          by_cases h2 : m % 2 = 1
          · rw [if_pos h2] at hst
            have hm2 : (m : Int) % 2 = 1 := by omega
            rw [hm2] at ha
            have hk := u32_and_const1
            have hxx : bits .xor .u32 ((m : Int) / 2) 3988292384 = ((m / 2 ^^^ 3988292384 : Nat) : Int) := bits_xor_u32 (m / 2) 3988292384 (by omega) (by omega)
            have hwn : IntKind.u32.wrap (-1) = 4294967295 := by decide
            have HST := Lib.hid hst
            clear hst
            go_wp2
            go_round
            case rel => exact ⟨q + 1, by omega, by go_num, by rw [HST.out]⟩
            case measure => simp [intOf]; omega
          · rw [if_neg h2] at hst
            have hm2 : (m : Int) % 2 = 0 := by omega
            rw [hm2] at ha
            have hk := u32_and_const0
            have hxx : bits .xor .u32 ((m : Int) / 2) 0 = ((m / 2 ^^^ 0 : Nat) : Int) := bits_xor_u32 (m / 2) 0 (by omega) (by omega)
            have HST := Lib.hid hst
            clear hst
            go_wp2
            go_round
            case rel => exact ⟨q + 1, by omega, by go_num, by rw [HST.out, Nat.xor_zero]; go_num⟩
            case measure => simp [intOf]; omega
        · obtain rfl : q = 8 := by omega
          go_wp2
          go_round
          case rel => exact ⟨j + 1, by omega, by go_num, by rw [HCT.out]; rfl⟩
          case measure => simp [intOf]; omega
    · obtain rfl : j = l.length := by omega
      rw [List.take_length] at hcl ⊢
      have hcc : By.crc l = 4294967295 - By.crcF 4294967295 l := rfl
      generalize By.crcF 4294967295 l = c at hcl hcc
      have HC := Lib.hid hcc
      have HX := Lib.hid (u32_not c hcl)
      clear hcc
      go_wp2
      go_ret
      exact ⟨ret_int (by rw [HC.out, HX.out]), rfl⟩
end Go.Proofs.Ytndfelbgppbncaa
