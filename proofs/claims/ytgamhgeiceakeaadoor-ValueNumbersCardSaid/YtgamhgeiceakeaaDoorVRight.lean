/- Right, by contract. -/
import Derived.Test.YtgamhgeiceakeaaDoorVMem
set_option linter.unusedVariables false
set_option linter.unusedSimpArgs false
namespace Go.Proofs.YtgamhgeiceakeaaDoor
open Go.RowKit
open Va (V)
theorem sz0 (s : ByteArray) : (s.toList = []) = (s.size = 0) := by
  rw [ByteArray.toList_eq]
  refine propext ⟨fun h => ?_, fun h => ?_⟩
  · show s.data.size = 0
    rw [← Array.length_toList, h]; rfl
  · exact List.eq_nil_of_length_eq_zero (by rw [Array.length_toList]; exact h)
theorem nil0 {α : Type} (l : List α) : (l = []) = (l.length = 0) := by cases l <;> simp
theorem tl0 (s : ByteArray) : s.toList.length = s.size := by rw [ByteArray.toList_eq, Array.length_toList]; rfl
theorem ie0 {α : Type} (l : List α) : (l.isEmpty = true) = (l.length = 0) := by cases l <;> simp
theorem ret_bool {a b : Bool} (h : a = b) : Ending.returned (.bool a) = .returned (.bool b) := by rw [h]
def R1Post (pl : Nat) (r : Bool × Int) (w : World) (e : Ending) (w' : World) : Prop := e = .returned (.bool r.1) ∧ Blk w' pl #[.int .i64 r.2] 3 ∧ w.grownBy w' (some pl)
def R1P (v : V) : Prop := ∀ (ok : Nat → Prop) (W0 : World) (x : Value) (h : RV ok W0 v x) (w : World) (hw : Below W0.heap.size W0 w) (pl pr : Nat) (hpl : W0.heap.size ≤ pl) (hne : pr ≠ pl) (left : Int) (h0 : 0 ≤ left) (h1 : left ≤ 256) (lv : Nat) (hlv : lv ≤ 16)
  (hl : Blk w pl #[.int .i64 left] 3) (hr : Blk w pr #[.func (.func 34) #[] #[.pointer (some ⟨pl, 0, none⟩), .pointer (some ⟨pr, 0, none⟩)]] 60),
  Calls Tryd.prog 34 #[x, .int .i64 lv, .pointer (some ⟨pl, 0, none⟩), .pointer (some ⟨pr, 0, none⟩)] w (R1Post pl (Va.rgt v lv left) w)
theorem rgt_1 (n : Int) (s : ByteArray) (l : List V) (lv : Nat) (left : Int) : Va.rgt (.mk 1 n s l) lv left = (decide (0 ≤ left - 1) && decide (0 < lv) && (s.size == 0 && l.isEmpty), left - 1) := by unfold Va.rgt; rfl
theorem rgt_2 (n : Int) (s : ByteArray) (l : List V) (lv : Nat) (left : Int) : Va.rgt (.mk 2 n s l) lv left = (decide (0 ≤ left - 1) && decide (0 < lv) && (s.size == 0 && l.isEmpty) && (n == 0 || n == 1), left - 1) := by unfold Va.rgt; rfl
theorem rgt_5 (n : Int) (s : ByteArray) (l : List V) (lv : Nat) (left : Int) : Va.rgt (.mk 5 n s l) lv left = (decide (0 ≤ left - 1) && decide (0 < lv) && (s.size == 0 && l.isEmpty) && decide (0 ≤ n), left - 1) := by unfold Va.rgt; rfl
theorem rgt_3 (n : Int) (s : ByteArray) (l : List V) (lv : Nat) (left : Int) : Va.rgt (.mk 3 n s l) lv left = (decide (0 ≤ left - 1) && decide (0 < lv) && (n == 0) && l.isEmpty && decide (s.size ≤ 4096), left - 1) := by unfold Va.rgt; rfl
theorem rgt_4 (n : Int) (s : ByteArray) (l : List V) (lv : Nat) (left : Int) : Va.rgt (.mk 4 n s l) lv left = Va.rgtL l (lv - 1) (decide (0 ≤ left - 1) && decide (0 < lv) && (n == 0) && (s.size == 0)) (left - 1) := by unfold Va.rgt; rfl
theorem rgt_0 (k : Nat) (n : Int) (s : ByteArray) (l : List V) (lv : Nat) (left : Int) (k1 : k ≠ 1) (k2 : k ≠ 2) (k3 : k ≠ 3) (k4 : k ≠ 4) (k5 : k ≠ 5) : Va.rgt (.mk k n s l) lv left = (false, left - 1) := by
  unfold Va.rgt; rw [if_neg k1, if_neg k2, if_neg k5, if_neg k3, if_neg k4]
theorem rgt_le (v : V) (lv : Nat) (left : Int) (h0 : 0 ≤ left) : (Va.rgt v lv left).2 ≤ left ∧ ((Va.rgt v lv left).1 = true → 0 ≤ (Va.rgt v lv left).2) := by
  have h := Va.rgt_ok v lv left h0
  by_cases c : Va.okV v lv = true ∧ (Va.cnt v : Int) ≤ left
  · rw [h.1 c]; exact ⟨by show left - (Va.cnt v : Int) ≤ left; omega, fun _ => by show 0 ≤ left - (Va.cnt v : Int); omega⟩
  · have h2 := h.2 c; exact ⟨h2.2.2, fun e => by rw [h2.1] at e; cases e⟩
theorem rgtL_nil (lv : Nat) (b : Bool) (lf : Int) : Va.rgtL [] lv b lf = (b, lf) := rfl
theorem rgtL_drop (l : List V) (lv i : Nat) (b : Bool) (lf : Int) (h : i < l.length) : Va.rgtL (l.drop i) lv b lf = Va.rgtL (l.drop (i + 1)) lv (b && (Va.rgt l[i] lv lf).1) (if b then (Va.rgt l[i] lv lf).2 else lf) := by
  rw [List.drop_eq_getElem_cons h]
  conv => lhs; unfold Va.rgtL
set_option maxHeartbeats 3200000 in
set_option maxRecDepth 100000 in
theorem right1_any : ∀ v, R1P v := V.ind fun k n s l ih => by
  intro ok W0 x h w hw pl pr hpl hne left h0 h1 lv hlv hl hr
  obtain ⟨ba, cap, rfl, hk, hn, hs, hL⟩ := h.inv
  have hlen : l.length ≤ 9223372036854775807 := by have h1 := hL.le; have h2 := hL.max; simp only [maxLen] at h2; omega
  have HL := Lib.hid hL
  have HR := Lib.hid hr
  have HW := Lib.hid hw
  have hgs : w.grownBy (w.setCell ⟨pl, 0, none⟩ (.int .i64 (left - 1))) (some pl) := grown_set (grown_refl _ _) _ _
  have hal : ∀ (W : World) (cs : Array Value), Below W.heap.size W (W.alloc (.cells cs 25)) := fun W cs => (Below.refl _ _).alloc (Nat.le_refl _) _
  have HB2 : Hid (∀ cs : Array Value, Blk ((w.setCell ⟨pl, 0, none⟩ (.int .i64 (left - 1))).alloc (.cells cs 25)) pl #[.int .i64 (left - 1)] 3) := Lib.hid (fun cs => (hl.set 0 (.int .i64 (left - 1))).below (hal _ _))
  have HG2 : Hid (∀ cs : Array Value, w.grownBy ((w.setCell ⟨pl, 0, none⟩ (.int .i64 (left - 1))).alloc (.cells cs 25)) (some pl)) := Lib.hid (fun cs => grown_below hgs (hal _ _))
  have cl := hl.cell 0
  have fl := fun o => hl.free o
  have ltl := hl.lt
  clear h hL hl hr hw hgs hal
  by_cases k1 : k = 1
  · subst k1
    rw [rgt_1]
    go_enter Tryd.func34, Tryd.ntmps34
    go_wp2
    all_goals (try simp only [nil0, tl0] at *)
    all_goals (go_ret; refine ⟨ret_bool ?_, HB2.out _, HG2.out _⟩)
    all_goals (rw [Bool.eq_iff_iff]; simp only [Bool.and_eq_true, Bool.or_eq_true, decide_eq_true_eq, beq_iff_eq, ie0, Bool.false_eq_true, Bool.true_eq, true_and, false_and, iff_true, iff_false, true_iff, false_iff]; omega)
  by_cases k2 : k = 2
  · subst k2
    rw [rgt_2]
    go_enter Tryd.func34, Tryd.ntmps34
    go_wp2
    all_goals (try simp only [nil0, tl0] at *)
    all_goals (go_ret; refine ⟨ret_bool ?_, HB2.out _, HG2.out _⟩)
    all_goals (rw [Bool.eq_iff_iff]; simp only [Bool.and_eq_true, Bool.or_eq_true, decide_eq_true_eq, beq_iff_eq, ie0, Bool.false_eq_true, Bool.true_eq, true_and, false_and, iff_true, iff_false, true_iff, false_iff]; omega)
  by_cases k5 : k = 5
  · subst k5
    rw [rgt_5]
    go_enter Tryd.func34, Tryd.ntmps34
    go_wp2
    all_goals (try simp only [nil0, tl0] at *)
    all_goals (go_ret; refine ⟨ret_bool ?_, HB2.out _, HG2.out _⟩)
    all_goals (rw [Bool.eq_iff_iff]; simp only [Bool.and_eq_true, Bool.or_eq_true, decide_eq_true_eq, beq_iff_eq, ie0, Bool.false_eq_true, Bool.true_eq, true_and, false_and, iff_true, iff_false, true_iff, false_iff]; omega)
  by_cases k3 : k = 3
  · subst k3
    rw [rgt_3]
    go_enter Tryd.func34, Tryd.ntmps34
    go_wp2
    all_goals (try simp only [nil0, tl0] at *)
    all_goals (go_ret; refine ⟨ret_bool ?_, HB2.out _, HG2.out _⟩)
    all_goals (rw [Bool.eq_iff_iff]; simp only [Bool.and_eq_true, Bool.or_eq_true, decide_eq_true_eq, beq_iff_eq, ie0, Bool.false_eq_true, Bool.true_eq, true_and, false_and, iff_true, iff_false, true_iff, false_iff]; omega)
  by_cases k4 : k = 4
  · subst k4
    by_cases hG : (decide (0 ≤ left - 1) && decide (0 < lv) && (n == 0) && (s.size == 0)) = true
    · have HD := Lib.hid hG
      simp only [Bool.and_eq_true, decide_eq_true_eq, beq_iff_eq] at hG
      obtain ⟨⟨⟨g1, g2⟩, g3⟩, g4⟩ := hG
      have g5 : (s.toList == []) = true := beq_iff_eq.2 ((sz0 s).mpr g4)
      go_enter Tryd.func34, Tryd.ntmps34
      go_wp2
      go_loopw [8, 99] (fun okv iv wr => ∃ (i : Nat) (b : Bool) (lf : Int), i ≤ l.length ∧ okv = .bool b ∧ iv = .int .i64 i ∧ Blk wr pl #[.int .i64 lf] 3 ∧ w.grownBy wr (some pl) ∧ Va.rgtL (l.drop i) (lv - 1) b lf = Va.rgtL l (lv - 1) true (left - 1) ∧ (b = true → 0 ≤ lf ∧ 1 ≤ lv) ∧ lf ≤ 256) (fun _ i _ => l.length - (intOf i).toNat)
      case atStart => exact ⟨0, true, left - 1, by omega, rfl, rfl, HB2.out _, HG2.out _, by rw [List.drop_zero], fun e => (by first | omega | cases e), by omega⟩
      case round =>
        obtain ⟨i, b, lf, hi, rfl, rfl, hbr, hgr, heq, hb0, hb1⟩ := hrel
        have HEQ := Lib.hid heq
        have HBR := Lib.hid hbr
        have HGR := Lib.hid hgr
        have HWR := Lib.hid (HW.out.grown hgr HW.out.size (fun k hk => by cases hk; exact hpl))
        have hrr := HR.out.kept hgr (fun e => hne (Option.some.inj e))
        have HRR := Lib.hid hrr
        clear heq hbr hgr hrr
        by_cases hlt : i < l.length
        · obtain ⟨bb, o, x, hba, hok, h4, hrv⟩ := HL.out.at_ i hlt
          have h4' := h4.kept HWR.out.size (HWR.out.block bb h4.lt)
          have C0 := ih l[i] (List.getElem_mem hlt) ok W0 x hrv
          have hle := rgt_le l[i] (lv - 1)
          have hdr := fun b => rgtL_drop l (lv - 1) i b lf hlt
          generalize l[i] = u at hrv C0 hle hdr
          obtain ⟨k2, n2, s2, l2⟩ := u
          obtain ⟨ba2, cap2, rfl, -, -, -, hL2⟩ := hrv.inv
          obtain ⟨hlt4, a1, a2, a3, a4, hx4, c1, c2, c3, c4⟩ := h4'
          cases hx4
          have hca2 := hL2.le
          subst hba
          have hj0 : (0 : Int) ≤ (i : Int) := by omega
          have hj1 : (i : Int) < (l.length : Int) := by omega
          have hal : Below wr.heap.size wr (wr.alloc (.cells #[.int .u8 k2, .int .i64 n2, .string s2, .slice ba2 l2.length cap2] 25)) := (Below.refl _ _).alloc (Nat.le_refl _) _
          have HB3 := Lib.hid (HBR.out.below hal)
          have HG3 := Lib.hid (grown_below HGR.out hal)
          cases b with
          | false =>
            have HE := Lib.hid ((hdr false).symm.trans HEQ.out)
            clear h4 hal hrv C0 hdr hL2
            go_wp2
            go_roundw
            case rel => exact ⟨i + 1, false, lf, by omega, rfl, by go_num, HB3.out, HG3.out, HE.out, fun e => (by cases e), hb1⟩
            case measure => simp [intOf]; omega
          | true =>
            have hb2 := hb0 rfl
            have HE := Lib.hid ((hdr true).symm.trans HEQ.out)
            have hle := hle lf hb2.1
            have C := Lib.hid (C0 (wr.alloc (.cells #[.int .u8 k2, .int .i64 n2, .string s2, .slice ba2 l2.length cap2] 25)) (HWR.out.trans (hal.mono HWR.out.size)) pl pr hpl hne lf hb2.1 hb1 (lv - 1) (by omega) HB3.out (HRR.out.below hal))
            have hrc := HRR.out.cell 0
            have hrf := fun o => HRR.out.free o
            have hrl := HRR.out.lt
            have hlv1 : ((lv - 1 : Nat) : Int) = (lv : Int) - 1 := by omega
            rw [hlv1] at C
            simp only [Bool.true_and, if_true] at HE
            generalize Va.rgt (.mk k2 n2 s2 l2) (lv - 1) lf = r at HE hle C
            clear h4 hal hrv C0 hdr hL2
            go_wp2_with fail
            with_reducible refine (C.out).mono ?_
            rintro e w2 ⟨rfl, hb4, hg4⟩
            have HB4 := Lib.hid hb4
            have HG4 := Lib.hid (grown_trans HG3.out hg4)
            clear hb4 hg4
            go_wp2
            go_roundw
            case rel => exact ⟨i + 1, r.1, r.2, by omega, rfl, by go_num, HB4.out, HG4.out, HE.out, fun e => ⟨hle.2 e, hb2.2⟩, by omega⟩
            case measure => simp [intOf]; omega
        · obtain rfl : i = l.length := by omega
          have he := HEQ.out
          rw [List.drop_length] at he
          rw [rgtL_nil] at he
          have HE := Lib.hid he
          clear he
          go_wp2
          go_ret
          refine ⟨?_, ?_, HGR.out⟩
          · rw [rgt_4, HD.out, ← HE.out]; rfl
          · rw [rgt_4, HD.out, ← HE.out]; exact HBR.out
    · have HD := Lib.hid (Bool.eq_false_iff.2 hG)
      simp only [Bool.and_eq_true, decide_eq_true_eq, beq_iff_eq] at hG
      go_enter Tryd.func34, Tryd.ntmps34
      go_wp2
      all_goals (try (exfalso; simp only [nil0, tl0] at *; omega))
      all_goals (try (have e : s.toList.isEmpty = false := Bool.eq_false_iff.2 (fun h => by rw [ie0, tl0] at h; exact hG ⟨⟨⟨by omega, by omega⟩, by omega⟩, h⟩); simp only [e]))
      all_goals
        go_loopw [8, 99] (fun okv iv wr => ∃ (i : Nat), i ≤ l.length ∧ okv = .bool false ∧ iv = .int .i64 i ∧ Blk wr pl #[.int .i64 (left - 1)] 3 ∧ w.grownBy wr (some pl)) (fun _ i _ => l.length - (intOf i).toNat)
        case atStart => exact ⟨0, by omega, rfl, rfl, HB2.out _, HG2.out _⟩
        case round =>
          obtain ⟨i, hi, rfl, rfl, hbr, hgr⟩ := hrel
          have HBR := Lib.hid hbr
          have HGR := Lib.hid hgr
          have HWR := Lib.hid (HW.out.grown hgr HW.out.size (fun k hk => by cases hk; exact hpl))
          clear hbr hgr
          by_cases hlt : i < l.length
          · obtain ⟨bb, o, x, hba, hok, h4, hrv⟩ := HL.out.at_ i hlt
            have h4' := h4.kept HWR.out.size (HWR.out.block bb h4.lt)
            generalize l[i] = u at hrv
            obtain ⟨k2, n2, s2, l2⟩ := u
            obtain ⟨ba2, cap2, rfl, -, -, -, hL2⟩ := hrv.inv
            obtain ⟨hlt4, a1, a2, a3, a4, hx4, c1, c2, c3, c4⟩ := h4'
            cases hx4
            have hca2 := hL2.le
            subst hba
            have hj0 : (0 : Int) ≤ (i : Int) := by omega
            have hj1 : (i : Int) < (l.length : Int) := by omega
            have hal : Below wr.heap.size wr (wr.alloc (.cells #[.int .u8 k2, .int .i64 n2, .string s2, .slice ba2 l2.length cap2] 25)) := (Below.refl _ _).alloc (Nat.le_refl _) _
            have HB3 := Lib.hid (HBR.out.below hal)
            have HG3 := Lib.hid (grown_below HGR.out hal)
            clear h4 hal hrv hL2
            go_wp2
            go_roundw
            case rel => exact ⟨i + 1, by omega, rfl, by go_num, HB3.out, HG3.out⟩
            case measure => simp [intOf]; omega
          · obtain rfl : i = l.length := by omega
            go_wp2
            go_ret
            refine ⟨?_, ?_, HGR.out⟩
            · rw [rgt_4, HD.out, Va.rgtL_false]; rfl
            · rw [rgt_4, HD.out, Va.rgtL_false]; exact HBR.out
  · rw [rgt_0 k n s l lv left k1 k2 k3 k4 k5]
    have q1 : ((k : Int) == 1) = false := bneI (by omega)
    have q2 : ((k : Int) == 2) = false := bneI (by omega)
    have q3 : ((k : Int) == 3) = false := bneI (by omega)
    have q4 : ((k : Int) == 4) = false := bneI (by omega)
    have q5 : ((k : Int) == 5) = false := bneI (by omega)
    go_enter Tryd.func34, Tryd.ntmps34
    go_wp2
    all_goals (go_ret; exact ⟨rfl, HB2.out _, HG2.out _⟩)
def BoPost (B : Nat) (b : Bool) (w : World) (e : Ending) (w' : World) : Prop := e = .returned (.bool b) ∧ Below B w w'
set_option maxHeartbeats 1600000 in
set_option maxRecDepth 100000 in
theorem right_any (ok : Nat → Prop) (v : V) (x : Value) (w : World) (h : RV ok w v x) : Calls Tryd.prog 13 #[x] w (BoPost w.heap.size (Va.right v) w) := by
  have HV := Lib.hid h
  have hrr := Va.rgt_right v
  obtain ⟨k, n, s, l⟩ := v
  obtain ⟨ba, cap, rfl, hk, hn, hs, hL⟩ := h.inv
  have hcap := hL.le
  rw [← hrr]
  clear h hL hrr
  have CR := Lib.hid (fun W (hb : Below w.heap.size w W) pl pr h1 h2 hl hr => right1_any _ ok w _ HV.out W hb pl pr h1 h2 256 (by omega) (by omega) 16 (by omega) hl hr)
  go_enter Tryd.func13, Tryd.ntmps13
  go_wp2_with fail
  generalize hA : Obj.cells #[Value.int IntKind.u8 ↑k, Value.int IntKind.i64 n, Value.string s, Value.slice ba l.length cap] 25 = A
  have e1 : (w.alloc A).heap.size = w.heap.size + 1 := by simp
  have b1 := Blk.new (w.alloc A) #[.int .i64 256] 3
  rw [e1] at b1
  have e2 : ((w.alloc A).alloc (.cells #[.int .i64 256] 3)).heap.size = w.heap.size + 1 + 1 := by simp
  have b2 := Blk.new ((w.alloc A).alloc (.cells #[.int .i64 256] 3)) #[.func (.func 34) #[] #[.pointer (some ⟨w.heap.size + 1, 0, none⟩), .pointer (some ⟨w.heap.size + 1 + 1, 0, none⟩)]] 60
  rw [e2] at b2
  have hbl : Below w.heap.size w (((w.alloc A).alloc (.cells #[.int .i64 256] 3)).alloc (.cells #[.func (.func 34) #[] #[.pointer (some ⟨w.heap.size + 1, 0, none⟩), .pointer (some ⟨w.heap.size + 1 + 1, 0, none⟩)]] 60)) := (((Below.refl _ _).alloc (Nat.le_refl _) _).alloc (by rw [e1]; omega) _).alloc (by rw [e2]; omega) _
  refine (CR.out _ hbl (w.heap.size + 1) (w.heap.size + 1 + 1) (by omega) (by omega) (b1.below ((Below.refl _ _).alloc (Nat.le_refl _) _)) b2).mono ?_
  rintro e w2 ⟨rfl, _, hg⟩
  have HB := Lib.hid (hbl.grown hg hbl.size (fun k hk => by cases hk; omega))
  clear hbl hg b1 b2 CR
  go_wp2
  go_ret
  exact ⟨rfl, HB.out⟩
end Go.Proofs.YtgamhgeiceakeaaDoor
