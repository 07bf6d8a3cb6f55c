/- droverlaw08.WordsLines: the walk. -/
import Derived.Test.YthbdnbeiafpkcaaDoorWQuotes
set_option linter.unusedVariables false
namespace Go.Proofs.YthbdnbeiafpkcaaDoor
open Go.RowKit
namespace Wo
/-- what a token tells of its place -/
structure Goes (t : Bs) (a : Nat) (r : Wd) : Prop where
  err : r.err = 0 ∨ r.err = 100
  bad : r.err = 100 → 1 + (t.take a).count 10 ≤ r.fline ∧ r.fline ≤ 1 + t.count 10
  line : r.err = 0 → r.line = 1 + (t.take r.at').count 10
  at_le : r.err = 0 → r.at' ≤ r.end' ∧ r.end' ≤ t.length ∧ a ≤ r.at'
  stop : r.err = 0 → r.kind = 6 → r.at' = t.length ∧ r.end' = t.length
  goes : r.err = 0 → r.kind ≠ 6 → r.at' < r.end'
theorem take_count_mono (t : Bs) (a b : Nat) (h : a ≤ b) : (t.take a).count 10 ≤ (t.take b).count 10 := by
  have : t.take a = (t.take b).take a := by rw [List.take_take, Nat.min_eq_left h]
  rw [this]
  exact (List.take_sublist a (t.take b)).count_le 10
theorem foundL_kind (l : Bs) : (foundL l).kind ≠ 6 := by
  have hs : ∀ l : Bs, (signL l).kind ≠ 6 := by
    intro l; unfold signL; split
    · show (5 : Nat) ≠ 6; decide
    · show (0 : Nat) ≠ 6; decide
  cases l with
  | nil => show (0 : Nat) ≠ 6; decide
  | cons c r =>
    unfold foundL
    simp only
    split
    · split
      · show (1 : Nat) ≠ 6; decide
      · show (0 : Nat) ≠ 6; decide
    · split
      · show (2 : Nat) ≠ 6; decide
      · split
        · show (if _ then 4 else 3 : Nat) ≠ 6; split <;> decide
        · exact hs _
theorem next_goes (t : Bs) (a : Nat) (ht : t.length ≤ 32768) (ha : a ≤ t.length) : Goes t a (nextL t a) := by
  rw [nextL_in t a ht ha]
  have hle := passL_le (t.drop a)
  rw [List.length_drop] at hle
  have hl : ∀ n, lineL t n = 1 + (t.take n).count 10 := fun _ => rfl
  by_cases he : a + passL (t.drop a) = t.length
  · rw [if_pos he, he]
    exact ⟨Or.inl rfl, (fun h => by cases h), fun _ => rfl, fun _ => ⟨Nat.le_refl _, Nat.le_refl _, ha⟩, fun _ _ => ⟨rfl, rfl⟩, fun _ h => absurd rfl h⟩
  · rw [if_neg he]
    have hfl := foundL_len (t.drop (a + passL (t.drop a)))
    rw [List.length_drop] at hfl
    have hk := foundL_kind (t.drop (a + passL (t.drop a)))
    by_cases hf : (foundL (t.drop (a + passL (t.drop a)))).len = 0
    · rw [if_pos hf]
      refine ⟨Or.inr rfl, fun _ => ⟨?_, ?_⟩, (fun h => by cases h), (fun h => by cases h), (fun h => by cases h), (fun h => by cases h)⟩
      · show 1 + (t.take a).count 10 ≤ 1 + (t.take (a + passL (t.drop a))).count 10
        have := take_count_mono t a (a + passL (t.drop a)) (by omega)
        omega
      · show 1 + (t.take (a + passL (t.drop a))).count 10 ≤ 1 + t.count 10
        have := (List.take_sublist (a + passL (t.drop a)) t).count_le 10
        omega
    · rw [if_neg hf]
      exact ⟨Or.inl rfl, (fun h => by cases h), fun _ => rfl, fun _ => ⟨(by show a + passL (t.drop a) ≤ a + passL (t.drop a) + (foundL (t.drop (a + passL (t.drop a)))).len; omega), (by show a + passL (t.drop a) + (foundL (t.drop (a + passL (t.drop a)))).len ≤ t.length; omega), (by show a ≤ a + passL (t.drop a); omega)⟩, fun _ h => absurd h hk, (fun _ _ => by show a + passL (t.drop a) < a + passL (t.drop a) + (foundL (t.drop (a + passL (t.drop a)))).len; omega)⟩
end Wo
theorem LaidW.drew {w : World} (h : LaidW w) : LaidW w.drew := h.below (Below.refl w.heap.size w).drew (Nat.le_refl _)
def cnt (s : ByteArray) : Nat := s.data.toList.count 10
theorem count_any (s : ByteArray) (w : World) : Calls Tryd.prog 15 #[.string s, .string ⟨#[10]⟩] w fun e w' => e = .returned (.int .i64 (cnt s)) ∧ w' = w := Tryd.strings_Count_one s 10 w
theorem cnt_take (s : ByteArray) (n : Nat) : cnt (s.extract 0 n) = (s.data.toList.take n).count 10 := by unfold cnt; rw [takeS]
theorem cnt_le (s : ByteArray) : cnt s ≤ s.size := List.count_le_length
set_option maxHeartbeats 4000000 in
set_option maxRecDepth 100000 in
theorem lines_short (S : ByteArray) (w : World) (hl : LaidW w) (hs : S.size ≤ 1000) : Calls Tryd.prog 5 #[.string S] w (TruePost w) := by
  have HW := Lib.hid hl
  clear hl
  have b1 : ¬ (1000 : Int) < (S.size : Int) := by omega
  go_enter Tryd.func5, Tryd.ntmps5
  go_wp2_with fail
  go_loopw [3, 4] (fun at' n wr => ∃ a k : Nat, a ≤ S.size ∧ k ≤ a ∧ at' = .int .i64 a ∧ n = .int .i64 k ∧ Below w.heap.size w wr) (fun _ n _ => 1100 - (intOf n).toNat)
  case atStart => exact ⟨0, 0, Nat.zero_le _, Nat.le_refl _, rfl, rfl, Below.refl _ _⟩
  case round =>
    obtain ⟨a, k, ha, hk, rfl, rfl, hb⟩ := hrel
    have HB := Lib.hid hb
    have HWR := Lib.hid (HW.out.below hb (Nat.le_refl _))
    have c1 := fun w' hw => next_any S a w' hw (by unfold maxLen; omega)
    have G := Wo.next_goes S.data.toList a (by have : S.data.toList.length = S.size := rfl; omega) ha
    generalize Wo.nextL S.data.toList a = r at c1 G
    obtain ⟨kd, ts, nn, ln, ax, en, er, fl⟩ := r
    obtain ⟨g1, g2, g3, g4, g5, g6⟩ := G
    simp only at g1 g2 g3 g4 g5 g6
    unfold NextPost wordV at c1
    simp only at c1
    have C1 := Lib.hid c1
    have eS : S.data.toList.length = S.size := rfl
    rw [eS] at g4 g5
    have hbs := hb.size
    clear c1 hb
    by_cases p1 : er = 100
    · subst p1
      obtain ⟨q1, q2⟩ := g2 rfl
      rw [← cnt_take] at q1
      change fl ≤ 1 + cnt S at q2
      have i1 : (1 : Int) + (cnt (S.extract 0 a) : Int) ≤ (fl : Int) := by omega
      have i2 : (fl : Int) ≤ (1 : Int) + (cnt S : Int) := by omega
      have i5 : decide ((1 : Int) + (cnt (S.extract 0 a) : Int) ≤ (fl : Int)) = true := by simpa using i1
      have i6 : decide ((fl : Int) ≤ (1 : Int) + (cnt S : Int)) = true := by simpa using i2
      have i3 := cnt_le S
      have i4 : cnt (S.extract 0 a) ≤ 1000 := by omega
      clear g1 g2 g3 g4 g5 g6 q1 q2 eS
      go_wp2_with fail
      with_reducible refine (C1.out _ HWR.out).mono ?_
      rintro e w1 ⟨rfl, hb1⟩
      have HB1 := Lib.hid (HB.out.trans (hb1.mono HB.out.size))
      have HW1 := Lib.hid (HWR.out.below hb1 (Nat.le_refl _))
      clear hb1
      go_wp2_with fail
      have i7 : IntKind.i64.wrap ((1 : Int) + (cnt (S.extract 0 a) : Int)) = 1 + (cnt (S.extract 0 a) : Int) := IntWalk.i64_in _ (by omega)
      have i8 : IntKind.i64.wrap ((1 : Int) + (cnt S : Int)) = 1 + (cnt S : Int) := IntWalk.i64_in _ (by omega)
      have i9 : (a : Int) ≤ (S.size : Int) := by omega
      go_region_with (first | (go_at_call 15; refine (count_any _ _).mono ?_; rintro e w' ⟨rfl, rfl⟩) | (go_at_call 14; refine (awake_any _ ?_).mono ?_; exact ((HW1.out.alloc _).alloc _).drew; rintro e w5 ⟨rfl, hb5⟩; have HB5 := Lib.hid (((HB1.out.alloc HB1.out.size _).alloc (by have := HB1.out.size; simp; omega) _).drew.trans (hb5.mono (by have := HB1.out.size; simp; omega))); clear hb5))
      all_goals
        go_wp2
        go_ret
        exact ⟨rfl, HB5.out⟩
    · obtain rfl : er = 0 := by omega
      have h3 := g3 rfl
      rw [← cnt_take] at h3
      obtain ⟨h4, h5, h6⟩ := g4 rfl
      have h7 := g5 rfl
      have h8 := g6 rfl
      have i3 := cnt_le (S.extract 0 ax)
      have i4 : (S.extract 0 ax).size ≤ 1000 := by simp; omega
      have k1 : ((ln : Int) != 1 + (cnt (S.extract 0 ax) : Int)) = false := by rw [h3]; simp
      have k2 : ((ln : Int) == 1 + (cnt (S.extract 0 ax) : Int)) = true := by rw [h3]; simp
      have i8 : IntKind.i64.wrap ((1 : Int) + (cnt (S.extract 0 ax) : Int)) = 1 + (cnt (S.extract 0 ax) : Int) := IntWalk.i64_in _ (by omega)
      have i9 : (ax : Int) ≤ (S.size : Int) := by omega
      have i10 : (0 : Int) ≤ (ax : Int) := by omega
      clear g1 g2 g3 g4 g5 g6 eS p1 i3 i4
      have H3 := Lib.hid h3
      have H7 := Lib.hid h7
      have H8 := Lib.hid h8
      clear h3 h7 h8
      by_cases p2 : kd = 6
      · subst p2
        obtain ⟨e1, e2⟩ := H7.out rfl
        have j1 : ((ax : Int) == (S.size : Int)) = true := beqI (by omega)
        have j2 : ((en : Int) == (S.size : Int)) = true := beqI (by omega)
        clear e1 e2
        go_wp2_with fail
        with_reducible refine (C1.out _ HWR.out).mono ?_
        rintro e w1 ⟨rfl, hb1⟩
        have HB1 := Lib.hid (HB.out.trans (hb1.mono HB.out.size))
        have HW1 := Lib.hid (HWR.out.below hb1 (Nat.le_refl _))
        clear hb1
        go_wp2_with fail
        go_quiet ((go_at_call 15; exact Calls.quiet_of_same (count_any _ _)))
        go_wp2_with fail
        with_reducible refine (awake_any _ ?_).mono ?_
        · exact ((HW1.out.alloc _).alloc _).below (belowN (Below.refl _ _) nq) (Nat.le_refl _)
        rintro e w5 ⟨rfl, hb5⟩
        have HB5 := Lib.hid ((belowN ((HB1.out.alloc HB1.out.size _).alloc (by have := HB1.out.size; simp; omega) _) nq).trans (hb5.mono (by have := HB1.out.size; simp; omega)))
        clear hb5
        go_wp2
        go_ret
        exact ⟨rfl, HB5.out⟩
      · have j1 : ((kd : Int) == 6) = false := bneI (by omega)
        have j2 := H8.out p2
        clear p2
        go_wp2_with fail
        with_reducible refine (C1.out _ HWR.out).mono ?_
        rintro e w1 ⟨rfl, hb1⟩
        have HB1 := Lib.hid (HB.out.trans (hb1.mono HB.out.size))
        clear hb1
        go_wp2_with fail
        go_quiet ((go_at_call 15; exact Calls.quiet_of_same (count_any _ _)))
        go_wp2
        go_roundw
        case rel => exact ⟨en, k + 1, by omega, by omega, by go_num, by go_num, belowN ((HB1.out.alloc HB1.out.size _).alloc (by have := HB1.out.size; simp; omega) _) nq⟩
        case measure => simp [intOf]; omega
end Go.Proofs.YthbdnbeiafpkcaaDoor
