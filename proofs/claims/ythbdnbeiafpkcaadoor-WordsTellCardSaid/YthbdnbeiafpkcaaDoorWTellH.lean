/- droverlaw08.WordsTell: the walk. -/
import Derived.Test.YthbdnbeiafpkcaaDoorWTellG
set_option linter.unusedVariables false
namespace Go.Proofs.YthbdnbeiafpkcaaDoor
open Go.RowKit
set_option maxHeartbeats 4000000 in
set_option maxRecDepth 100000 in
theorem tell_short (s : ByteArray) (at' : Int) (w : World) (hl : LaidW w) (hs : s.size ≤ 2000) : Calls Tryd.prog 3 #[.string s, .int .i64 at'] w (TruePost w) := by
  have c1 := fun w hw => next_any s at' w hw (by unfold maxLen; omega)
  have c2 := fun w => rnext_any s at' w (by unfold maxLen; omega)
  have c3 := fun w => quoteS s w (by omega)
  have c4 := fun w => rquote_any s w (by omega)
  unfold NextPost wordV at c1 c2
  generalize Wo.nextL s.data.toList at' = r at c1 c2
  generalize bsOf (Wo.quoteL s.data.toList) = Q at c3 c4
  obtain ⟨k, ts, n, ln, a, en, er, fl⟩ := r
  simp only at c1 c2
  have C1 := Lib.hid c1
  have C2 := Lib.hid c2
  have C3 := Lib.hid c3
  have C4 := Lib.hid c4
  have HW := Lib.hid hl
  clear c1 c2 c3 c4 hl
  have b1 : ¬ (2000 : Int) < (s.size : Int) := by omega
  have b2 : decide ((2000 : Int) < (s.size : Int)) = false := decide_eq_false b1
  go_enter Tryd.func3, Tryd.ntmps3
  go_wp2_with fail
  with_reducible refine (C1.out _ HW.out).mono ?_
  rintro e w1 ⟨rfl, hb⟩
  have HW1 := Lib.hid (HW.out.below hb (Nat.le_refl _))
  have HB := Lib.hid hb
  clear hb
  go_wp2_with fail
  with_reducible refine (C2.out _).mono ?_
  rintro e w2 ⟨rfl, hb⟩
  have HW2 := Lib.hid (((HW1.out.alloc _).alloc _).below hb (Nat.le_refl _))
  obtain ⟨q1, q2, s1, s2, hb2⟩ := cells_two hb
  have HB2 := Lib.hid (HB.out.trans (hb2.mono HB.out.size))
  clear hb hb2
  go_wp2_with fail
  with_reducible refine (C3.out _).mono ?_
  rintro e w3 ⟨rfl, hb⟩
  have HW3 := Lib.hid (((HW2.out.alloc _).alloc _).below hb (Nat.le_refl _))
  have HB3 := Lib.hid (((HB2.out.alloc HB2.out.size _).alloc (by have := HB2.out.size; simp; omega) _).trans (hb.mono (by have := HB2.out.size; simp; omega)))
  clear hb
  go_wp2_with fail
  with_reducible refine (C4.out _).mono ?_
  rintro e w4 ⟨rfl, hb⟩
  have HW4 := Lib.hid (HW3.out.below hb (Nat.le_refl _))
  have HB4 := Lib.hid (HB3.out.trans (hb.mono HB3.out.size))
  clear hb
  go_wp2_with fail
  with_reducible refine (awake_any _ HW4.out).mono ?_
  rintro e w5 ⟨rfl, hb⟩
  have HB5 := Lib.hid (HB4.out.trans (hb.mono HB4.out.size))
  clear hb
  go_wp2
  go_ret
  exact ⟨rfl, HB5.out⟩
set_option maxHeartbeats 4000000 in
set_option maxRecDepth 100000 in
theorem tell_mid (s : ByteArray) (at' : Int) (w : World) (hl : LaidW w) (hs : 2000 < s.size) (hs' : s.size ≤ 32768) : Calls Tryd.prog 3 #[.string s, .int .i64 at'] w (TruePost w) := by
  have hz : (s.extract 0 2000).size ≤ 2000 := by simp; omega
  have hc : ∀ S : ByteArray, S.size ≤ 2000 → (∀ w, LaidW w → Calls Tryd.prog 10 #[.string S, .int .i64 at'] w (NextPost (Wo.nextL S.data.toList at') w)) ∧ (∀ w, Calls Tryd.prog 11 #[.string S, .int .i64 at'] w (NextPost (Wo.nextL S.data.toList at') w)) ∧
      (∀ w, Calls Tryd.prog 12 #[.string S] w fun e w' => e = .returned (.string (bsOf (Wo.quoteL S.data.toList))) ∧ Below w.heap.size w w') ∧ (∀ w, Calls Tryd.prog 13 #[.string S] w fun e w' => e = .returned (.string (bsOf (Wo.quoteL S.data.toList))) ∧ Below w.heap.size w w') :=
    fun S hS => ⟨fun w hw => next_any S at' w hw (by unfold maxLen; omega), fun w => rnext_any S at' w (by unfold maxLen; omega), fun w => quoteS S w (by omega), fun w => rquote_any S w (by omega)⟩
  have HW := Lib.hid hl
  have HCS := Lib.hid hc
  have HZ := Lib.hid hz
  clear hl hc hz
  have b0 : (2000 : Int) < (s.size : Int) := by omega
  have b9 : (s.size : Int) ≤ 32768 := by omega
  go_enter Tryd.func3, Tryd.ntmps3
  go_wp2_with fail
  have hz := HZ.out
  generalize s.extract 0 2000 = S at hz
  clear HZ b0 b9 hs hs'
  obtain ⟨c1, c2, c3, c4⟩ := HCS.out S hz
  clear HCS
  unfold NextPost wordV at c1 c2
  generalize Wo.nextL S.data.toList at' = r at c1 c2
  generalize bsOf (Wo.quoteL S.data.toList) = Q at c3 c4
  obtain ⟨k, ts, n, ln, a, en, er, fl⟩ := r
  simp only at c1 c2
  have C1 := Lib.hid c1
  have C2 := Lib.hid c2
  have C3 := Lib.hid c3
  have C4 := Lib.hid c4
  clear c1 c2 c3 c4
  have b1 : ¬ (2000 : Int) < (S.size : Int) := by omega
  have b2 : decide ((2000 : Int) < (S.size : Int)) = false := decide_eq_false b1
  with_reducible refine (C1.out _ HW.out).mono ?_
  rintro e w1 ⟨rfl, hb⟩
  have HW1 := Lib.hid (HW.out.below hb (Nat.le_refl _))
  have HB := Lib.hid hb
  clear hb
  go_wp2_with fail
  with_reducible refine (C2.out _).mono ?_
  rintro e w2 ⟨rfl, hb⟩
  have HW2 := Lib.hid (((HW1.out.alloc _).alloc _).below hb (Nat.le_refl _))
  obtain ⟨q1, q2, s1, s2, hb2⟩ := cells_two hb
  have HB2 := Lib.hid (HB.out.trans (hb2.mono HB.out.size))
  clear hb hb2
  go_wp2_with fail
  with_reducible refine (C3.out _).mono ?_
  rintro e w3 ⟨rfl, hb⟩
  have HW3 := Lib.hid (((HW2.out.alloc _).alloc _).below hb (Nat.le_refl _))
  have HB3 := Lib.hid (((HB2.out.alloc HB2.out.size _).alloc (by have := HB2.out.size; simp; omega) _).trans (hb.mono (by have := HB2.out.size; simp; omega)))
  clear hb
  go_wp2_with fail
  with_reducible refine (C4.out _).mono ?_
  rintro e w4 ⟨rfl, hb⟩
  have HW4 := Lib.hid (HW3.out.below hb (Nat.le_refl _))
  have HB4 := Lib.hid (HB3.out.trans (hb.mono HB3.out.size))
  clear hb
  go_wp2_with fail
  with_reducible refine (awake_any _ HW4.out).mono ?_
  rintro e w5 ⟨rfl, hb⟩
  have HB5 := Lib.hid (HB4.out.trans (hb.mono HB4.out.size))
  clear hb
  go_wp2
  go_ret
  exact ⟨rfl, HB5.out⟩
set_option maxHeartbeats 4000000 in
set_option maxRecDepth 100000 in
theorem tell_long (s : ByteArray) (at' : Int) (w : World) (hl : LaidW w) (hs : 32768 < s.size) (hs' : s.size ≤ maxLen) : Calls Tryd.prog 3 #[.string s, .int .i64 at'] w (TruePost w) := by
  have c1 := fun w hw => next_any s at' w hw hs'
  have c2 := fun w => rnext_any s at' w hs'
  unfold NextPost wordV at c1 c2
  generalize Wo.nextL s.data.toList at' = r at c1 c2
  obtain ⟨k, ts, n, ln, a, en, er, fl⟩ := r
  simp only at c1 c2
  have C1 := Lib.hid c1
  have C2 := Lib.hid c2
  have HW := Lib.hid hl
  clear c1 c2 hl
  have b1 : (2000 : Int) < (s.size : Int) := by omega
  have b3 : ¬ (s.size : Int) ≤ 32768 := by omega
  go_enter Tryd.func3, Tryd.ntmps3
  go_wp2_with fail
  with_reducible refine (C1.out _ HW.out).mono ?_
  rintro e w1 ⟨rfl, hb⟩
  have HW1 := Lib.hid (HW.out.below hb (Nat.le_refl _))
  have HB := Lib.hid hb
  clear hb
  go_wp2_with fail
  with_reducible refine (C2.out _).mono ?_
  rintro e w2 ⟨rfl, hb⟩
  have HW2 := Lib.hid (((HW1.out.alloc _).alloc _).below hb (Nat.le_refl _))
  obtain ⟨q1, q2, s1, s2, hb2⟩ := cells_two hb
  have HB2 := Lib.hid (HB.out.trans (hb2.mono HB.out.size))
  clear hb hb2
  go_wp2_with fail
  with_reducible refine (awake_any _ ?_).mono ?_
  · exact (HW2.out.alloc _).alloc _
  rintro e w5 ⟨rfl, hb⟩
  have HB5 := Lib.hid (((HB2.out.alloc HB2.out.size _).alloc (by have := HB2.out.size; simp; omega) _).trans (hb.mono (by have := HB2.out.size; simp; omega)))
  clear hb
  go_wp2
  go_ret
  exact ⟨rfl, HB5.out⟩
theorem tell_true (s : ByteArray) (at' : Int) (w : World) (hl : LaidW w) (hs : s.size ≤ maxLen) (_ : (Lit.int .i64 at').wf = true) : Calls Tryd.prog 3 #[.string s, .int .i64 at'] w (TruePost w) := by
  by_cases h1 : s.size ≤ 2000
  · exact tell_short s at' w hl h1
  · by_cases h2 : s.size ≤ 32768
    · exact tell_mid s at' w hl (by omega) h2
    · exact tell_long s at' w hl (by omega) hs
end Go.Proofs.YthbdnbeiafpkcaaDoor
