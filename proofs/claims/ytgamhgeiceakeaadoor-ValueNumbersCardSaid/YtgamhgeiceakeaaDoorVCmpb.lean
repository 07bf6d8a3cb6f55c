/- value.Compare, Same, by contract. -/
import Derived.Test.YtgamhgeiceakeaaDoorVCmp
set_option linter.unusedVariables false
set_option linter.unusedSimpArgs false
namespace Go.Proofs.YtgamhgeiceakeaaDoor
open Go.RowKit
open Va (V)
set_option maxHeartbeats 1600000 in
set_option maxRecDepth 100000 in
theorem Compare_any (v u : V) (ok ok' : Nat → Prop) (x y : Value) (w : World) (h : RV ok w v x) (h' : RV ok' w u y) : Calls Tryd.prog 19 #[x, y] w (IB (Va.cmpV v u 16) w) := by
  obtain ⟨k, n, s, l⟩ := v
  obtain ⟨k', n', s', l'⟩ := u
  obtain ⟨ba, cap, rfl, -, -, -, hL⟩ := h.inv
  obtain ⟨ba', cap', rfl, -, -, -, hL'⟩ := h'.inv
  have hlc := hL.le
  have hlc' := hL'.le
  clear hL hL'
  have hB1 : Below w.heap.size w ((w.alloc (.cells #[.int .u8 k, .int .i64 n, .string s, .slice ba l.length cap] 25)).alloc (.cells #[.int .u8 k', .int .i64 n', .string s', .slice ba' l'.length cap'] 25)) := ((Below.refl _ _).alloc (Nat.le_refl _) _).alloc (by simp) _
  have hw1 : w.heap.size < w.heap.size + 1 + 1 := by omega
  have C := Lib.hid (show Calls Tryd.prog 36 #[.agg #[.int .u8 k, .int .i64 n, .string s, .slice ba l.length cap], .agg #[.int .u8 k', .int .i64 n', .string s', .slice ba' l'.length cap'], .int .i64 16] _ _ from compare_any _ _ ok ok' _ _ _ (h.past hB1) (h'.past hB1) 16 (by omega))
  have HB1 := Lib.hid hB1
  clear hB1 h h'
  generalize Va.cmpV (.mk k n s l) (.mk k' n' s' l') 16 = R at C ⊢
  go_enter Tryd.func19, Tryd.ntmps19
  go_wp2_with fail
  with_reducible refine (C.out).mono ?_
  rintro e w1 ⟨rfl, hb⟩
  have HB := Lib.hid (HB1.out.trans (hb.mono HB1.out.size))
  clear hb
  go_wp2
  go_ret
  exact ⟨rfl, HB.out⟩
set_option maxHeartbeats 1600000 in
set_option maxRecDepth 100000 in
theorem Same_any (v u : V) (ok ok' : Nat → Prop) (x y : Value) (w : World) (h : RV ok w v x) (h' : RV ok' w u y) : Calls Tryd.prog 20 #[x, y] w (BB (Va.cmpV v u 16 == 0) w) := by
  obtain ⟨k, n, s, l⟩ := v
  obtain ⟨k', n', s', l'⟩ := u
  obtain ⟨ba, cap, rfl, -, -, -, hL⟩ := h.inv
  obtain ⟨ba', cap', rfl, -, -, -, hL'⟩ := h'.inv
  have hlc := hL.le
  have hlc' := hL'.le
  clear hL hL'
  have hB1 : Below w.heap.size w ((w.alloc (.cells #[.int .u8 k, .int .i64 n, .string s, .slice ba l.length cap] 25)).alloc (.cells #[.int .u8 k', .int .i64 n', .string s', .slice ba' l'.length cap'] 25)) := ((Below.refl _ _).alloc (Nat.le_refl _) _).alloc (by simp) _
  have hw1 : w.heap.size < w.heap.size + 1 + 1 := by omega
  have C := Lib.hid (Compare_any _ _ ok ok' _ _ _ (h.past hB1) (h'.past hB1))
  have HB1 := Lib.hid hB1
  clear hB1 h h'
  generalize Va.cmpV (.mk k n s l) (.mk k' n' s' l') 16 = R at C ⊢
  go_enter Tryd.func20, Tryd.ntmps20
  go_wp2_with fail
  with_reducible refine (C.out).mono ?_
  rintro e w1 ⟨rfl, hb⟩
  have HB := Lib.hid (HB1.out.trans (hb.mono HB1.out.size))
  clear hb
  go_wp2
  go_ret
  exact ⟨rfl, HB.out⟩
end Go.Proofs.YtgamhgeiceakeaaDoor
