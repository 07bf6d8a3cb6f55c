/- droverlaw08.WordsNear: the walk. -/
import Derived.Test.YthbdnbeiafpkcaaDoorWTen
set_option linter.unusedVariables false
namespace Go.Proofs.YthbdnbeiafpkcaaDoor
open Go.RowKit
set_option maxHeartbeats 4000000 in
set_option maxRecDepth 100000 in
theorem near_long (s m : ByteArray) (at' : Int) (w : World) (hl : LaidW w) (h : 500 < s.size ∨ 500 < m.size) (hs : s.size ≤ maxLen) (hm : m.size ≤ maxLen) : Calls Tryd.prog 7 #[.string s, .int .i64 at', .string m] w (TruePost w) := by
  have HW := Lib.hid hl
  clear hl
  unfold maxLen at hs hm
  by_cases h1 : 500 < s.size
  · have b1 : (500 : Int) < (s.size : Int) := by omega
    clear h
    go_enter Tryd.func7, Tryd.ntmps7
    go_wp2_with fail
    with_reducible refine (awake_any _ HW.out).mono ?_
    rintro e w1 ⟨rfl, hb⟩
    have HB := Lib.hid hb
    clear hb
    go_wp2
    go_ret
    exact ⟨rfl, HB.out⟩
  · have b1 : ¬ (500 : Int) < (s.size : Int) := by omega
    have b2 : (500 : Int) < (m.size : Int) := by omega
    clear h
    go_enter Tryd.func7, Tryd.ntmps7
    go_wp2_with fail
    with_reducible refine (awake_any _ HW.out).mono ?_
    rintro e w1 ⟨rfl, hb⟩
    have HB := Lib.hid hb
    clear hb
    go_wp2
    go_ret
    exact ⟨rfl, HB.out⟩
set_option maxHeartbeats 4000000 in
set_option maxRecDepth 100000 in
theorem near_any (s m : ByteArray) (at' : Int) (w : World) (hl : LaidW w) (hs : s.size ≤ 500) (hm : m.size ≤ 500)
    (hp : (Wo.nextL s.data.toList at').err = 0 → (Wo.nextL s.data.toList at').kind ≠ 6 → (Wo.nextL s.data.toList at').end' < s.size → Wo.nextL (s.data.toList ++ m.data.toList) at' = Wo.nextL s.data.toList at') :
    Calls Tryd.prog 7 #[.string s, .int .i64 at', .string m] w (TruePost w) := by
  have c1 := fun w hw => next_any s at' w hw (by unfold maxLen; omega)
  have c2 := fun w hw => next_any (s ++ m) at' w hw (by rw [ByteArray.size_append]; unfold maxLen; omega)
  rw [ByteArray.data_append, Array.toList_append] at c2
  unfold NextPost wordV at c1 c2
  generalize Wo.nextL (s.data.toList ++ m.data.toList) at' = r2 at c2 hp
  generalize Wo.nextL s.data.toList at' = r1 at c1 hp
  obtain ⟨k, ts, n, ln, a, en, er, fl⟩ := r1
  simp only at c1 hp
  have C1 := Lib.hid c1
  have C2 := Lib.hid c2
  have HW := Lib.hid hl
  have HP := Lib.hid hp
  have lt2 : ∀ n : Nat, n < n + 1 + 1 := fun n => by omega
  clear c1 c2 hl hp
  have b1 : ¬ (500 : Int) < (s.size : Int) := by omega
  have b2 : ¬ (500 : Int) < (m.size : Int) := by omega
  by_cases h1 : er = 0 ∧ k ≠ 6 ∧ en < s.size
  · obtain ⟨h1, h2, h3⟩ := h1
    have hr := HP.out h1 h2 h3
    subst hr
    simp only at C2
    subst h1
    have k2 : ((k : Int) == 6) = false := bneI (by omega)
    have k3 : ¬ ((s.size : Int) ≤ (en : Int)) := by omega
    clear h2
    go_enter Tryd.func7, Tryd.ntmps7
    go_wp2_with fail
    with_reducible refine (C1.out _ HW.out).mono ?_
    rintro e w1 ⟨rfl, hb⟩
    have HW1 := Lib.hid (HW.out.below hb (Nat.le_refl _))
    have HB := Lib.hid hb
    clear hb
    go_wp2_with fail
    with_reducible refine (C2.out _ ?_).mono ?_
    · exact (HW1.out.alloc _).alloc _
    rintro e w2 ⟨rfl, hb⟩
    obtain ⟨q1, q2, s1, s2, hb2⟩ := cells_two hb
    have HW2 := Lib.hid (((HW1.out.alloc _).alloc _).below hb (Nat.le_refl _))
    have HB2 := Lib.hid (HB.out.trans (hb2.mono HB.out.size))
    clear hb hb2
    go_wp2_with fail
    with_reducible refine (awake_any _ ?_).mono ?_
    · exact (HW2.out.alloc _).alloc _
    rintro e w3 ⟨rfl, hb⟩
    have HB3 := Lib.hid (((HB2.out.alloc HB2.out.size _).alloc (by have := HB2.out.size; simp; omega) _).trans (hb.mono (by have := HB2.out.size; simp; omega)))
    clear hb
    go_wp2
    go_ret
    exact ⟨rfl, HB3.out⟩
  · go_enter Tryd.func7, Tryd.ntmps7
    by_cases g1 : er = 0
    · subst g1
      by_cases g2 : k = 6
      · subst g2
        go_wp2_with fail
        with_reducible refine (C1.out _ HW.out).mono ?_
        rintro e w1 ⟨rfl, hb⟩
        have HW1 := Lib.hid (HW.out.below hb (Nat.le_refl _))
        have HB := Lib.hid hb
        clear hb
        go_wp2_with fail
        with_reducible refine (awake_any _ ?_).mono ?_
        · exact (HW1.out.alloc _).alloc _
        rintro e w3 ⟨rfl, hb⟩
        have HB3 := Lib.hid (((HB.out.alloc HB.out.size _).alloc (by have := HB.out.size; simp; omega) _).trans (hb.mono (by have := HB.out.size; simp; omega)))
        clear hb
        go_wp2
        go_ret
        exact ⟨rfl, HB3.out⟩
      · have k2 : ((k : Int) == 6) = false := bneI (by omega)
        have k3 : (s.size : Int) ≤ (en : Int) := by omega
        go_wp2_with fail
        with_reducible refine (C1.out _ HW.out).mono ?_
        rintro e w1 ⟨rfl, hb⟩
        have HW1 := Lib.hid (HW.out.below hb (Nat.le_refl _))
        have HB := Lib.hid hb
        clear hb
        go_wp2_with fail
        with_reducible refine (awake_any _ ?_).mono ?_
        · exact (HW1.out.alloc _).alloc _
        rintro e w3 ⟨rfl, hb⟩
        have HB3 := Lib.hid (((HB.out.alloc HB.out.size _).alloc (by have := HB.out.size; simp; omega) _).trans (hb.mono (by have := HB.out.size; simp; omega)))
        clear hb
        go_wp2
        go_ret
        exact ⟨rfl, HB3.out⟩
    · have k1 : ((er : Int) == 0) = false := bneI (by omega)
      have k1' : ((er : Int) != 0) = true := by rw [bne_iff_ne]; omega
      go_wp2_with fail
      with_reducible refine (C1.out _ HW.out).mono ?_
      rintro e w1 ⟨rfl, hb⟩
      have HW1 := Lib.hid (HW.out.below hb (Nat.le_refl _))
      have HB := Lib.hid hb
      clear hb
      go_wp2_with fail
      with_reducible refine (awake_any _ ?_).mono ?_
      · exact (HW1.out.alloc _).alloc _
      rintro e w3 ⟨rfl, hb⟩
      have HB3 := Lib.hid (((HB.out.alloc HB.out.size _).alloc (by have := HB.out.size; simp; omega) _).trans (hb.mono (by have := HB.out.size; simp; omega)))
      clear hb
      go_wp2
      go_ret
      exact ⟨rfl, HB3.out⟩
end Go.Proofs.YthbdnbeiafpkcaaDoor
