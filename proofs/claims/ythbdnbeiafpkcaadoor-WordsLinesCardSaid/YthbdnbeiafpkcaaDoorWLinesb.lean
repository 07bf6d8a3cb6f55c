/- droverlaw08.WordsLines: the walk at a text that is cut. -/
import Derived.Test.YthbdnbeiafpkcaaDoorWLines
set_option linter.unusedVariables false
namespace Go.Proofs.YthbdnbeiafpkcaaDoor
open Go.RowKit
set_option maxHeartbeats 4000000 in
set_option maxRecDepth 100000 in
theorem lines_long (s : ByteArray) (w : World) (hl : LaidW w) (hm : s.size ≤ maxLen) (h : 1000 < s.size) : Calls Tryd.prog 5 #[.string s] w (TruePost w) := by
  have HW := Lib.hid hl
  clear hl
  unfold maxLen at hm
  have b1 : (1000 : Int) < (s.size : Int) := by omega
  have hs0 : (s.extract 0 1000).size ≤ 1000 := by simp; omega
  have HS0 := Lib.hid hs0
  clear hs0
  go_enter Tryd.func5, Tryd.ntmps5
  go_wp2_with fail
  have hs := HS0.out
  clear HS0 b1 h hm
  generalize s.extract 0 1000 = S at hs ⊢
  go_loopw [3, 4] (fun at' n wr => ∃ a k : Nat, a ≤ S.size ∧ k ≤ a ∧ at' = .int .i64 a ∧ n = .int .i64 k ∧ Below w.heap.size w wr) (fun _ n _ => 1100 - (intOf n).toNat)
  case atStart => exact ⟨0, 0, Nat.zero_le _, Nat.le_refl _, rfl, rfl, Below.refl _ _⟩
  case round =>
    obtain ⟨a, k, ha, hk, rfl, rfl, hb⟩ := hrel
    have HB := Lib.hid hb
    have HWR := Lib.hid (HW.out.below hb (Nat.le_refl _))
    have c1 := fun w' hw => next_any S a w' hw (by unfold maxLen; omega)
    have G := Wo.next_goes S.data.toList a (by have : S.data.toList.length = S.size := rfl; omega) ha
    generalize Wo.nextL S.data.toList a = r at c1 G
    obtain ⟨kd, ts, nn, ln, ax, en, er, fl⟩ := r
    obtain ⟨g1, g2, g3, g4, g5, g6⟩ := G
    simp only at g1 g2 g3 g4 g5 g6
    unfold NextPost wordV at c1
    simp only at c1
    have C1 := Lib.hid c1
    have eS : S.data.toList.length = S.size := rfl
    rw [eS] at g4 g5
    have hbs := hb.size
    clear c1 hb
    by_cases p1 : er = 100
    · subst p1
      obtain ⟨q1, q2⟩ := g2 rfl
      rw [← cnt_take] at q1
      change fl ≤ 1 + cnt S at q2
      have i1 : (1 : Int) + (cnt (S.extract 0 a) : Int) ≤ (fl : Int) := by omega
      have i2 : (fl : Int) ≤ (1 : Int) + (cnt S : Int) := by omega
      have i5 : decide ((1 : Int) + (cnt (S.extract 0 a) : Int) ≤ (fl : Int)) = true := by simpa using i1
      have i6 : decide ((fl : Int) ≤ (1 : Int) + (cnt S : Int)) = true := by simpa using i2
      have i3 := cnt_le S
      have i4 : cnt (S.extract 0 a) ≤ 1000 := by omega
      clear g1 g2 g3 g4 g5 g6 q1 q2 eS
      go_wp2_with fail
      with_reducible refine (C1.out _ HWR.out).mono ?_
      rintro e w1 ⟨rfl, hb1⟩
      have HB1 := Lib.hid (HB.out.trans (hb1.mono HB.out.size))
      have HW1 := Lib.hid (HWR.out.below hb1 (Nat.le_refl _))
      clear hb1
      go_wp2_with fail
      have i7 : IntKind.i64.wrap ((1 : Int) + (cnt (S.extract 0 a) : Int)) = 1 + (cnt (S.extract 0 a) : Int) := IntWalk.i64_in _ (by omega)
      have i8 : IntKind.i64.wrap ((1 : Int) + (cnt S : Int)) = 1 + (cnt S : Int) := IntWalk.i64_in _ (by omega)
      have i9 : (a : Int) ≤ (S.size : Int) := by omega
      go_region_with (first | (go_at_call 15; refine (count_any _ _).mono ?_; rintro e w' ⟨rfl, rfl⟩) | (go_at_call 14; refine (awake_any _ ?_).mono ?_; exact ((HW1.out.alloc _).alloc _).drew; rintro e w5 ⟨rfl, hb5⟩; have HB5 := Lib.hid (((HB1.out.alloc HB1.out.size _).alloc (by have := HB1.out.size; simp; omega) _).drew.trans (hb5.mono (by have := HB1.out.size; simp; omega))); clear hb5))
      all_goals
        go_wp2
        go_ret
        exact ⟨rfl, HB5.out⟩
    · obtain rfl : er = 0 := by omega
      have h3 := g3 rfl
      rw [← cnt_take] at h3
      obtain ⟨h4, h5, h6⟩ := g4 rfl
      have h7 := g5 rfl
      have h8 := g6 rfl
      have i3 := cnt_le (S.extract 0 ax)
      have i4 : (S.extract 0 ax).size ≤ 1000 := by simp; omega
      have k1 : ((ln : Int) != 1 + (cnt (S.extract 0 ax) : Int)) = false := by rw [h3]; simp
      have k2 : ((ln : Int) == 1 + (cnt (S.extract 0 ax) : Int)) = true := by rw [h3]; simp
      have i8 : IntKind.i64.wrap ((1 : Int) + (cnt (S.extract 0 ax) : Int)) = 1 + (cnt (S.extract 0 ax) : Int) := IntWalk.i64_in _ (by omega)
      have i9 : (ax : Int) ≤ (S.size : Int) := by omega
      have i10 : (0 : Int) ≤ (ax : Int) := by omega
      clear g1 g2 g3 g4 g5 g6 eS p1 i3 i4
      have H3 := Lib.hid h3
      have H7 := Lib.hid h7
      have H8 := Lib.hid h8
      clear h3 h7 h8
      by_cases p2 : kd = 6
      · subst p2
        obtain ⟨e1, e2⟩ := H7.out rfl
        have j1 : ((ax : Int) == (S.size : Int)) = true := beqI (by omega)
        have j2 : ((en : Int) == (S.size : Int)) = true := beqI (by omega)
        clear e1 e2
        go_wp2_with fail
        with_reducible refine (C1.out _ HWR.out).mono ?_
        rintro e w1 ⟨rfl, hb1⟩
        have HB1 := Lib.hid (HB.out.trans (hb1.mono HB.out.size))
        have HW1 := Lib.hid (HWR.out.below hb1 (Nat.le_refl _))
        clear hb1
        go_wp2_with fail
        go_quiet ((go_at_call 15; exact Calls.quiet_of_same (count_any _ _)))
        go_wp2_with fail
        with_reducible refine (awake_any _ ?_).mono ?_
        · exact ((HW1.out.alloc _).alloc _).below (belowN (Below.refl _ _) nq) (Nat.le_refl _)
        rintro e w5 ⟨rfl, hb5⟩
        have HB5 := Lib.hid ((belowN ((HB1.out.alloc HB1.out.size _).alloc (by have := HB1.out.size; simp; omega) _) nq).trans (hb5.mono (by have := HB1.out.size; simp; omega)))
        clear hb5
        go_wp2
        go_ret
        exact ⟨rfl, HB5.out⟩
      · have j1 : ((kd : Int) == 6) = false := bneI (by omega)
        have j2 := H8.out p2
        clear p2
        go_wp2_with fail
        with_reducible refine (C1.out _ HWR.out).mono ?_
        rintro e w1 ⟨rfl, hb1⟩
        have HB1 := Lib.hid (HB.out.trans (hb1.mono HB.out.size))
        clear hb1
        go_wp2_with fail
        go_quiet ((go_at_call 15; exact Calls.quiet_of_same (count_any _ _)))
        go_wp2
        go_roundw
        case rel => exact ⟨en, k + 1, by omega, by omega, by go_num, by go_num, belowN ((HB1.out.alloc HB1.out.size _).alloc (by have := HB1.out.size; simp; omega) _) nq⟩
        case measure => simp [intOf]; omega
theorem lines_true (s : ByteArray) (w : World) (hl : LaidW w) (hs : s.size ≤ maxLen) : Calls Tryd.prog 5 #[.string s] w (TruePost w) := by
  by_cases h : 1000 < s.size
  · exact lines_long s w hl hs h
  · exact lines_short s w hl (by omega)
end Go.Proofs.YthbdnbeiafpkcaaDoor
