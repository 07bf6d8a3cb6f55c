/- The document's own words: digit, letter, hex, line, passed. -/
import Derived.Test.YthbdnbeiafpkcaaDoorWTen
import Derived.IntWalk
set_option linter.unusedVariables false
namespace Go.Proofs.YthbdnbeiafpkcaaDoor
open Go.RowKit
namespace Wo
theorem runL_cons (p : UInt8 → Bool) (c : UInt8) (l : Bs) : runL p (c :: l) = if p c then runL p l + 1 else 0 := rfl
theorem passL_blank (c : UInt8) (l : Bs) (h : isBlank c = true) : passL (c :: l) = 1 + passL l := by
  have e : stepL (c :: l) = stepL l + 1 := by
    unfold stepL
    rw [runL_cons, if_pos h, List.drop_succ_cons]; omega
  rw [passL_step _ (by omega), e, List.drop_succ_cons]
  by_cases h0 : stepL l = 0
  · rw [h0]; simp
  · rw [passL_step l h0]; omega
theorem passL_hash (c : UInt8) (l : Bs) (h : c.toNat = 35) : passL (c :: l) = runL notNl (c :: l) + passL ((c :: l).drop (runL notNl (c :: l))) := by
  have hb : isBlank c = false := by unfold isBlank; simp [h]
  have hn : notNl c = true := by unfold notNl; simp [h]
  have e : stepL (c :: l) = runL notNl (c :: l) := by
    unfold stepL
    rw [show runL isBlank (c :: l) = 0 from by rw [runL_cons, hb]; rfl, List.drop_zero, if_pos (by simp; exact UInt8.toNat_inj.1 h), Nat.zero_add]
  rw [passL_step _ (by rw [e, runL_cons, if_pos hn]; omega), e]
theorem passL_other (c : UInt8) (l : Bs) (hb : isBlank c = false) (h : c.toNat ≠ 35) : passL (c :: l) = 0 := by
  refine passL_stop _ ?_
  unfold stepL
  rw [show runL isBlank (c :: l) = 0 from by rw [runL_cons, hb]; rfl, List.drop_zero, if_neg (by simp; intro e; subst e; exact h rfl)]
theorem passL_at (l : Bs) (j : Nat) (h : j < l.length) : passL (l.drop j) = if isBlank l[j] then 1 + passL (l.drop (j + 1)) else if l[j].toNat = 35 then runL notNl (l.drop j) + passL (l.drop (j + runL notNl (l.drop j))) else 0 := by
  have e := List.drop_eq_getElem_cons h
  split
  · rw [e, passL_blank _ _ (by assumption)]
  · split
    · rw [← List.drop_drop]
      conv => lhs; rw [e]
      rw [passL_hash _ _ (by assumption), ← e]
    · rw [e, passL_other _ _ (by simpa using (by assumption : ¬ isBlank l[j] = true)) (by assumption)]
theorem lineL_step (l : Bs) (k : Nat) (h : k < l.length) : lineL l (k + 1) = lineL l k + (if l[k].toNat = 10 then 1 else 0) := by
  unfold lineL
  rw [List.take_succ_eq_append_getElem h, List.count_append, List.count_singleton]
  by_cases p : l[k].toNat = 10
  · rw [if_pos p, if_pos (by simp; exact UInt8.toNat_inj.1 p)]; omega
  · rw [if_neg p, if_neg (by simp; intro e; rw [e] at p; exact p rfl)]; omega
theorem lineL_le (l : Bs) (k : Nat) : lineL l k ≤ 1 + k := by
  unfold lineL
  have h1 := List.count_le_length (a := (10 : UInt8)) (l := l.take k)
  rw [List.length_take] at h1
  omega
end Wo
theorem rdigit_any (c : UInt8) (w : World) : Calls Tryd.prog 45 #[.int .u8 c.toNat] w fun e w' => e = .returned (.bool (Wo.isDigit c)) ∧ w = w' := by
  have hc : c.toNat < 256 := c.toNat_lt
  go_enter Tryd.func45, Tryd.ntmps45
  go_wp2
  all_goals
    go_ret
    exact ⟨ret_bool (by unfold Wo.isDigit; rw [Bool.eq_iff_iff]; simp at *; omega), rfl⟩
theorem rletter_any (c : UInt8) (w : World) : Calls Tryd.prog 47 #[.int .u8 c.toNat] w fun e w' => e = .returned (.bool (Wo.isLetter c)) ∧ w = w' := by
  have hc : c.toNat < 256 := c.toNat_lt
  go_enter Tryd.func47, Tryd.ntmps47
  go_wp2
  all_goals
    go_ret
    exact ⟨ret_bool (by unfold Wo.isLetter; rw [Bool.eq_iff_iff]; simp at *; omega), rfl⟩
theorem rhex_any (c : UInt8) (w : World) : Calls Tryd.prog 60 #[.int .u8 c.toNat] w fun e w' => e = .returned (.int .i64 (hexi c)) ∧ w = w' := by
  have hc : c.toNat < 256 := c.toNat_lt
  by_cases h1 : 48 ≤ c.toNat ∧ c.toNat ≤ 57
  · have hd := (Wo.isDigit_iff c).2 h1
    have hv : hexi c = (c.toNat : Int) - 48 := by unfold hexi Wo.hexv; rw [if_pos h1]; simp; omega
    obtain ⟨p1, p2⟩ := h1
    have i1 : IntKind.u8.wrap ((c.toNat : Int) - 48) = (c.toNat : Int) - 48 := IntWalk.u8_in _ (by omega)
    have c1 := fun w => rdigit_any c w
    simp only [hd] at c1
    have C1 := Lib.hid c1
    clear c1 hd
    go_enter Tryd.func60, Tryd.ntmps60
    go_wp2_with (go_at_call 45; refine (C1.out _).mono ?_; rintro e w' ⟨rfl, rfl⟩)
    go_ret
    exact ⟨ret_int (by rw [hv]), rfl⟩
  · have hd : Wo.isDigit c = false := by rw [Bool.eq_false_iff]; exact fun h => h1 ((Wo.isDigit_iff c).1 h)
    have c1 := fun w => rdigit_any c w
    simp only [hd] at c1
    have C1 := Lib.hid c1
    clear c1 hd
    go_enter Tryd.func60, Tryd.ntmps60
    go_wp2_with (go_at_call 45; refine (C1.out _).mono ?_; rintro e w' ⟨rfl, rfl⟩)
    all_goals
      go_ret
      exact ⟨ret_int (by unfold hexi Wo.hexv; rw [if_neg h1]; first | (rw [if_pos (by simp at *; omega)]; simp at *; omega) | (rw [if_neg (by simp at *; omega)])), rfl⟩
set_option maxRecDepth 100000 in
theorem rline_any (s : ByteArray) (a : Nat) (w : World) (ha : a ≤ s.size) (hs : s.size ≤ 1048576) : Calls Tryd.prog 22 #[.string s, .int .i64 a] w fun e w' => e = .returned (.int .i64 (Wo.lineL s.data.toList a)) ∧ w = w' := by
  go_enter Tryd.func22, Tryd.ntmps22
  go_wp2
  go_loop [5, 6] (fun n i => ∃ k : Nat, k ≤ a ∧ n = .int .i64 (Wo.lineL s.data.toList k) ∧ i = .int .i64 k) (fun _ i => a - (intOf i).toNat)
  case atStart => exact ⟨0, Nat.zero_le _, by simp [Wo.lineL], rfl⟩
  case round =>
    obtain ⟨k, hk, rfl, rfl⟩ := hrel
    by_cases hlt : k < a
    · have h1 := Wo.lineL_step s.data.toList k (by show k < s.size; omega)
      change Wo.lineL s.data.toList (k + 1) = Wo.lineL s.data.toList k + (if s[k].toNat = 10 then 1 else 0) at h1
      have h2 := Wo.lineL_le s.data.toList k
      have hks : k < s.size := by omega
      by_cases p : s[k].toNat = 10
      · rw [if_pos p] at h1
        have k1 : ((s[k].toNat : Int) == 10) = true := beqI (by omega)
        have H1 := Lib.hid h1
        clear h1 p
        go_wp2
        go_roundw
        case rel => exact ⟨k + 1, by omega, by rw [H1.out]; go_num, by go_num⟩
        case measure => simp [intOf]; omega
      · rw [if_neg p] at h1
        have k1 : ((s[k].toNat : Int) == 10) = false := bneI (by omega)
        have H1 := Lib.hid h1
        clear h1 p
        go_wp2
        go_roundw
        case rel => exact ⟨k + 1, by omega, by rw [H1.out]; go_num, by go_num⟩
        case measure => simp [intOf]; omega
    · obtain rfl : k = a := by omega
      go_wp2
      go_ret
      exact ⟨rfl, rfl⟩
set_option maxRecDepth 100000 in
theorem passed_any (s : ByteArray) (a : Nat) (w : World) (ha : a ≤ s.size) (hs : s.size ≤ 1048576) : Calls Tryd.prog 21 #[.string s, .int .i64 a] w fun e w' => e = .returned (.int .i64 ((a + Wo.passL (s.data.toList.drop a) : Nat) : Int)) ∧ w = w' := by
  go_enter Tryd.func21, Tryd.ntmps21
  go_wp2
  go_loop [1] (fun i => ∃ j : Nat, j ≤ s.size ∧ i = .int .i64 j ∧ a + Wo.passL (s.data.toList.drop a) = j + Wo.passL (s.data.toList.drop j)) (fun i => s.size - (intOf i).toNat)
  case atStart => exact ⟨a, ha, rfl, rfl⟩
  case round =>
    obtain ⟨j, hj, rfl, hall⟩ := hrel
    have HA := Lib.hid hall
    clear hall
    by_cases hlt : j < s.size
    · have hat := Wo.passL_at s.data.toList j hlt
      change Wo.passL (s.data.toList.drop j) = (if Wo.isBlank s[j] then 1 + Wo.passL (s.data.toList.drop (j + 1)) else if s[j].toNat = 35 then Wo.runL Wo.notNl (s.data.toList.drop j) + Wo.passL (s.data.toList.drop (j + Wo.runL Wo.notNl (s.data.toList.drop j))) else 0) at hat
      by_cases p1 : s[j].toNat = 35
      · have hb : Wo.isBlank s[j] = false := by unfold Wo.isBlank; simp [p1]
        rw [hb, if_neg (by decide), if_pos p1] at hat
        have HT := Lib.hid hat
        have hr1 := Wo.runL_at Wo.notNl s.data.toList j hlt
        change Wo.runL Wo.notNl (s.data.toList.drop j) = (if Wo.notNl s[j] then Wo.runL Wo.notNl (s.data.toList.drop (j + 1)) + 1 else 0) at hr1
        rw [if_pos (by unfold Wo.notNl; simp [p1])] at hr1
        have H1 := Lib.hid hr1
        clear hat hb hr1
        have k1 : ((s[j].toNat : Int) == 35) = true := beqI (by omega)
        clear p1
        go_wp2_with fail
        go_loop [1] (fun i => ∃ m : Nat, j ≤ m ∧ m ≤ s.size ∧ i = .int .i64 m ∧ j + Wo.runL Wo.notNl (s.data.toList.drop j) = m + Wo.runL Wo.notNl (s.data.toList.drop m)) (fun i => s.size - (intOf i).toNat)
        case atStart => exact ⟨j, Nat.le_refl _, hj, rfl, rfl⟩
        case round =>
          obtain ⟨m, hjm, hms, rfl, hrun⟩ := hrel
          have HR := Lib.hid hrun
          clear hrun
          by_cases hm : m < s.size
          · have hr := Wo.runL_at Wo.notNl s.data.toList m hm
            change Wo.runL Wo.notNl (s.data.toList.drop m) = (if Wo.notNl s[m] then Wo.runL Wo.notNl (s.data.toList.drop (m + 1)) + 1 else 0) at hr
            by_cases p : s[m].toNat = 10
            · have hn : Wo.notNl s[m] = false := by unfold Wo.notNl; simp [p]
              rw [hn, if_neg (by decide)] at hr
              have HN := Lib.hid hr
              have k2 : ((s[m].toNat : Int) == 10) = true := beqI (by omega)
              clear hr hn p
              go_wp2
              have h0 := HR.out
              have h1 := HT.out
              have h2 := H1.out
              rw [HN.out, Nat.add_zero] at h0
              rw [h0] at h1
              exact ⟨⟨m, hms, rfl, by have := HA.out; omega⟩, by simp [intOf]; omega⟩
            · have hn : Wo.notNl s[m] = true := by unfold Wo.notNl; simp [p]
              rw [hn, if_pos rfl] at hr
              have HN := Lib.hid hr
              have k2 : ((s[m].toNat : Int) == 10) = false := bneI (by omega)
              clear hr hn p
              go_wp2
              go_roundw
              case rel => exact ⟨m + 1, by omega, by omega, by go_num, by have := HR.out; have := HN.out; omega⟩
              case measure => simp [intOf]; omega
          · obtain rfl : m = s.size := by omega
            have hn : Wo.runL Wo.notNl (s.data.toList.drop s.size) = 0 := by rw [List.drop_of_length_le (by exact Nat.le_refl _)]; rfl
            have HN := Lib.hid hn
            clear hn
            go_wp2
            have h0 := HR.out
            have h1 := HT.out
            have h2 := H1.out
            rw [HN.out, Nat.add_zero] at h0
            rw [h0] at h1
            exact ⟨⟨s.size, Nat.le_refl _, rfl, by have := HA.out; omega⟩, by simp [intOf]; omega⟩
      · have k1 : ((s[j].toNat : Int) == 35) = false := bneI (by omega)
        rw [if_neg p1] at hat
        by_cases hb : Wo.isBlank s[j] = true
        · rw [if_pos hb] at hat
          have HT := Lib.hid (HA.out.trans (by rw [hat]))
          clear hat
          unfold Wo.isBlank at hb
          simp only [Bool.or_eq_true, beq_iff_eq] at hb
          rcases hb with hb | hb | hb | hb
          all_goals
            go_wp2
            go_roundw
            case rel => exact ⟨j + 1, by omega, by go_num, by have := HT.out; omega⟩
            case measure => simp [intOf]; omega
        · rw [if_neg hb] at hat
          have HT := Lib.hid (HA.out.trans (by rw [hat]))
          have hb' := hb
          unfold Wo.isBlank at hb'
          simp only [Bool.or_eq_true, beq_iff_eq, not_or] at hb'
          obtain ⟨q1, q2, q3, q4⟩ := hb'
          have r1 : ((s[j].toNat : Int) == 32) = false := bneI (by omega)
          have r2 : ((s[j].toNat : Int) == 9) = false := bneI (by omega)
          have r3 : ((s[j].toNat : Int) == 10) = false := bneI (by omega)
          have r4 : ((s[j].toNat : Int) == 13) = false := bneI (by omega)
          clear hat hb q1 q2 q3 q4
          go_wp2
          go_ret
          exact ⟨ret_int (by have := HT.out; omega), rfl⟩
    · obtain rfl : j = s.size := by omega
      have HT := Lib.hid (HA.out.trans (by rw [List.drop_of_length_le (by exact Nat.le_refl _), show Wo.passL [] = 0 from rfl]))
      go_wp2
      go_ret
      exact ⟨ret_int (by have := HT.out; omega), rfl⟩
end Go.Proofs.YthbdnbeiafpkcaaDoor
