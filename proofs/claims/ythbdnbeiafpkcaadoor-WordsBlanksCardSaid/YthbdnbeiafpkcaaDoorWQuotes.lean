/- droverlaw08.WordsQuotes: the walk. -/
import Derived.Test.YthbdnbeiafpkcaaDoorWTen
import Derived.Test.YthbdnbeiafpkcaaDoorWPureb
import Derived.IntWalk
set_option linter.unusedVariables false
namespace Go.Proofs.YthbdnbeiafpkcaaDoor
open Go.RowKit
def bsOf (l : List UInt8) : ByteArray := ⟨l.toArray⟩
theorem bsOf_size (l : List UInt8) : (bsOf l).size = l.length := rfl
theorem bsOf_list (l : List UInt8) : (bsOf l).data.toList = l := by unfold bsOf; simp
theorem bs_ext (a b : ByteArray) (h : a.data.toList = b.data.toList) : a = b := by
  cases a with | mk x => cases b with | mk y => cases x with | mk l => cases y with | mk r => simp at h; subst h; rfl
theorem bs_back (s : ByteArray) : bsOf s.data.toList = s := bs_ext _ _ (bsOf_list _)
theorem quoteS (s : ByteArray) (w : World) (hs : s.size ≤ 1048576) : Calls Tryd.prog 12 #[.string s] w fun e w' => e = .returned (.string (bsOf (Wo.quoteL s.data.toList))) ∧ Below w.heap.size w w' := quote_any s w hs
theorem cat_quote (a b : List UInt8) : bsOf (Wo.quoteL (a ++ b)) = (bsOf (Wo.quoteL a)).extract 0 ((bsOf (Wo.quoteL a)).size - 1) ++ (bsOf (Wo.quoteL b)).extract 1 (bsOf (Wo.quoteL b)).size := by
  apply bs_ext
  rw [ByteArray.data_append, Array.toList_append, takeS, dropS, bsOf_list, bsOf_list, bsOf_list, bsOf_size]
  unfold Wo.quoteL
  rw [Wo.quoteB_app, List.length_cons, List.length_append]
  simp
set_option maxHeartbeats 4000000 in
set_option maxRecDepth 100000 in
theorem quotes_long (a b : ByteArray) (w : World) (hl : LaidW w) (h : 1000 < a.size ∨ 1000 < b.size) (hs : a.size ≤ maxLen) (hm : b.size ≤ maxLen) : Calls Tryd.prog 8 #[.string a, .string b] w (TruePost w) := by
  have HW := Lib.hid hl
  clear hl
  unfold maxLen at hs hm
  by_cases h1 : 1000 < a.size
  · have b1 : (1000 : Int) < (a.size : Int) := by omega
    clear h
    go_enter Tryd.func8, Tryd.ntmps8
    go_wp2_with fail
    with_reducible refine (awake_any _ HW.out).mono ?_
    rintro e w1 ⟨rfl, hb⟩
    have HB := Lib.hid hb
    clear hb
    go_wp2
    go_ret
    exact ⟨rfl, HB.out⟩
  · have b1 : ¬ (1000 : Int) < (a.size : Int) := by omega
    have b2 : (1000 : Int) < (b.size : Int) := by omega
    clear h
    go_enter Tryd.func8, Tryd.ntmps8
    go_wp2_with fail
    with_reducible refine (awake_any _ HW.out).mono ?_
    rintro e w1 ⟨rfl, hb⟩
    have HB := Lib.hid hb
    clear hb
    go_wp2
    go_ret
    exact ⟨rfl, HB.out⟩
set_option maxHeartbeats 4000000 in
set_option maxRecDepth 100000 in
theorem quotes_any (a b : ByteArray) (w : World) (hl : LaidW w) (ha : a.size ≤ 1000) (hb : b.size ≤ 1000) : Calls Tryd.prog 8 #[.string a, .string b] w (TruePost w) := by
  have ea : a.data.toList.length = a.size := rfl
  have eb : b.data.toList.length = b.size := rfl
  have c1 := fun w => quoteS a w (by omega)
  have c2 := fun w => quoteS b w (by omega)
  have c3 := fun w => quoteS (a ++ b) w (by rw [ByteArray.size_append]; omega)
  rw [ByteArray.data_append, Array.toList_append] at c3
  have hcat := cat_quote a.data.toList b.data.toList
  have l1 := Wo.quoteL_len a.data.toList
  have l2 := Wo.quoteL_len b.data.toList
  have l3 := Wo.quoteL_len (a.data.toList ++ b.data.toList)
  have l4 := Wo.quoteB_len (a.data.toList ++ b.data.toList)
  rw [List.length_append] at l4
  have l5 := Wo.quoteB_len a.data.toList
  have l6 := Wo.quoteB_len b.data.toList
  have hrange := Wo.quoteL_range (a.data.toList ++ b.data.toList)
  have hnext := Wo.next_quote (a.data.toList ++ b.data.toList) (by rw [List.length_append]; omega)
  have hab : bsOf (a.data.toList ++ b.data.toList) = a ++ b := by
    apply bs_ext; rw [bsOf_list, ByteArray.data_append, Array.toList_append]
  have c4 := fun w hw => next_any (bsOf (Wo.quoteL (a.data.toList ++ b.data.toList))) 0 w hw (by rw [bsOf_size]; unfold maxLen; omega)
  rw [bsOf_list, hnext] at c4
  unfold NextPost wordV at c4
  rw [show (⟨(a.data.toList ++ b.data.toList).toArray⟩ : ByteArray) = a ++ b from hab] at c4
  rw [← bsOf_size] at l1 l2 l3
  have hr : ∀ k (h : k < (bsOf (Wo.quoteL (a.data.toList ++ b.data.toList))).size), 32 ≤ ((bsOf (Wo.quoteL (a.data.toList ++ b.data.toList)))[k]).toNat ∧ ((bsOf (Wo.quoteL (a.data.toList ++ b.data.toList)))[k]).toNat ≤ 126 := fun k h => by
    have hk : k < (Wo.quoteL (a.data.toList ++ b.data.toList)).length := h
    exact hrange _ (List.getElem_mem hk)
  rw [show ((Wo.quoteL (a.data.toList ++ b.data.toList)).length : Nat) = (bsOf (Wo.quoteL (a.data.toList ++ b.data.toList))).size from rfl] at c4
  generalize bsOf (Wo.quoteL (a.data.toList ++ b.data.toList)) = C at *
  generalize bsOf (Wo.quoteL a.data.toList) = A at *
  generalize bsOf (Wo.quoteL b.data.toList) = B at *
  have C1 := Lib.hid c1
  have C2 := Lib.hid c2
  have C3 := Lib.hid c3
  have C4 := Lib.hid c4
  have HR := Lib.hid hr
  have HC := Lib.hid hcat
  have HW := Lib.hid hl
  have b1 : ¬ (1000 : Int) < (a.size : Int) := by omega
  have b2 : ¬ (1000 : Int) < (b.size : Int) := by omega
  have z1 : ((A.size : Int) == 0) = false := bneI (by omega)
  have z2 : ((B.size : Int) == 0) = false := bneI (by omega)
  have m1 : A.size ≤ 10000 ∨ True := Or.inr trivial
  have n1 : 1 ≤ A.size := by omega
  have n2 : 1 ≤ B.size := by omega
  have n3 : C.size ≤ 10000 := by omega
  have n4 : A.size ≤ 10000 := by omega
  have n5 : B.size ≤ 10000 := by omega
  clear c1 c2 c3 c4 hr hcat hl hrange hnext hab l1 l2 l3 l4 l5 l6 m1 ea eb
  go_enter Tryd.func8, Tryd.ntmps8
  go_wp2_with fail
  with_reducible refine (C1.out _).mono ?_
  rintro e w1 ⟨rfl, hb1⟩
  have HB1 := Lib.hid hb1
  have HW1 := Lib.hid (HW.out.below hb1 (Nat.le_refl _))
  clear hb1
  go_wp2_with fail
  with_reducible refine (C2.out _).mono ?_
  rintro e w2 ⟨rfl, hb2⟩
  have HB2 := Lib.hid (HB1.out.trans (hb2.mono HB1.out.size))
  have HW2 := Lib.hid (HW1.out.below hb2 (Nat.le_refl _))
  clear hb2
  go_wp2_with fail
  with_reducible refine (C3.out _).mono ?_
  rintro e w3 ⟨rfl, hb3⟩
  have HB3 := Lib.hid (HB2.out.trans (hb3.mono HB2.out.size))
  have HW3 := Lib.hid (HW2.out.below hb3 (Nat.le_refl _))
  clear hb3
  go_wp2_with fail
  have w1' : IntKind.i64.wrap ((A.size : Int) - 1) = (A.size : Int) - 1 := IntWalk.i64_in _ (by omega)
  have k1 : (0 : Int) ≤ (A.size : Int) - 1 := by omega
  have k2 : (A.size : Int) - 1 ≤ (A.size : Int) := by omega
  have k3 : ((A.size : Int) - 1).toNat = A.size - 1 := by omega
  have k4 : (1 : Int) ≤ (B.size : Int) := by omega
  have hB : (C.toList == (A.extract 0 (A.size - 1) ++ B.extract 1 B.size).toList) = true := by rw [← HC.out]; exact beq_self_eq_true _
  go_quiet (fail)
  clear hB k3
  go_wp2_with fail
  go_loop [50] (fun i => ∃ k : Nat, k ≤ C.size ∧ i = .int .i64 k) (fun i => C.size - (intOf i).toNat)
  case atStart => exact ⟨0, Nat.zero_le _, rfl⟩
  case round =>
    obtain ⟨k, hk, rfl⟩ := hrel
    by_cases hlt : k < C.size
    · obtain ⟨r1, r2⟩ := HR.out k hlt
      go_wp2
      go_round
      case rel => exact ⟨k + 1, by omega, by go_num⟩
      case measure => simp [intOf]; omega
    · obtain rfl : k = C.size := by omega
      go_wp2_with fail
      with_reducible refine (C4.out _ ?_).mono ?_
      · exact HW3.out.below (belowN (Below.refl _ _) nq) (Nat.le_refl _)
      rintro e w4 ⟨rfl, hb4⟩
      have HB4 := Lib.hid ((belowN HB3.out nq).trans (hb4.mono HB3.out.size))
      have HW4 := Lib.hid ((HW3.out.below (belowN (Below.refl _ _) nq) (Nat.le_refl _)).below hb4 (Nat.le_refl _))
      clear hb4
      go_wp2_with fail
      with_reducible refine (awake_any _ ?_).mono ?_
      · exact (HW4.out.alloc _).alloc _
      rintro e w5 ⟨rfl, hb5⟩
      have HB5 := Lib.hid (((HB4.out.alloc HB4.out.size _).alloc (by have := HB4.out.size; simp; omega) _).trans (hb5.mono (by have := HB4.out.size; simp; omega)))
      clear hb5
      go_wp2
      go_ret
      exact ⟨rfl, HB5.out⟩
theorem quotes_true (a b : ByteArray) (w : World) (hl : LaidW w) (hs : a.size ≤ maxLen) (hm : b.size ≤ maxLen) : Calls Tryd.prog 8 #[.string a, .string b] w (TruePost w) := by
  by_cases h : 1000 < a.size ∨ 1000 < b.size
  · exact quotes_long a b w hl h hs hm
  · exact quotes_any a b w hl (by omega) (by omega)
end Go.Proofs.YthbdnbeiafpkcaaDoor
