/- droverlaw08.WordsInts: the walk for a number below 0; both. -/
import Derived.Test.YthbdnbeiafpkcaaDoorWInts
set_option linter.unusedVariables false
namespace Go.Proofs.YthbdnbeiafpkcaaDoor
open Go.RowKit
set_option maxHeartbeats 4000000 in
set_option maxRecDepth 100000 in
theorem ints_neg (N U : Nat) (w : World) (hl : LaidW w) (hN : N < 9223372036854775808) (hU : U < 256) : Calls Tryd.prog 9 #[.int .i64 (-((N : Int) + 1)), .int .u8 U] w (TruePost w) := by
  obtain ⟨i0, hi, hz0, hz1, hz2⟩ := info_parts Tryd.info_u8
  have HW := Lib.hid hl
  have HN := Lib.hid hN
  clear hl hN
  have b1 : (-((N : Int) + 1)) < 0 := by omega
  have b2 : IntKind.i64.wrap (-((N : Int) + 1) + 1) = -(N : Int) := by rw [show -((N : Int) + 1) + 1 = -(N : Int) by omega]; exact IntWalk.i64_in _ (by have := HN.out; omega)
  have b3 : wrap64 (N : Int) = (N : Int) := IntWalk.wrap64_in _ (by have := HN.out; omega)
  go_enter Tryd.func9, Tryd.ntmps9
  go_wp2_with fail
  rw [b3]
  clear b1 b2 b3
  go_loopw [5, 6] (fun v kv wr => IntsRel N w v kv wr) (fun v _ _ => match v with | .slice _ n _ => 20 - n | _ => 0)
  case atStart => exact ⟨N, [], rfl, World.ownsRow_nil _ _ _ _, Below.refl _ _, fun _ => rfl, (fun x hx => by cases hx), rfl, Nat.zero_le _, (by have := HN.out; show N < 10 ^ 19; omega)⟩
  case round =>
    obtain ⟨k, D, rfl, hown, hb, hnil, hdig, hdec, hlen, hk⟩ := hrel
    have HO := Lib.hid hown
    have HB := Lib.hid hb
    have HD := Lib.hid hdig
    have HE := Lib.hid hdec
    have HK := Lib.hid hk
    have hk64 : k < 9223372036854775808 := by
      have h1 : k ≤ Wo.decF k D := Wo.decF_ge D k
      rw [hdec] at h1; have := HN.out; omega
    have hsz : w.heap.size ≤ wr.heap.size := hb.size
    have hmod : k % 10 < 10 := Nat.mod_lt _ (by decide)
    by_cases hD : D = []
    · have hv := hnil hD
      subst hv
      subst hD
      clear hown hb hnil hdig hdec hk hlen
      have R := ints_first k N w wr HE.out HK.out HB.out
      have HR := Lib.hid R
      clear R
      by_cases k0 : 0 < k
      · have k1 : (0 : Int) < (k : Int) := by omega
        go_wp2
        exact ⟨HR.out, by simp⟩
      · obtain rfl : k = 0 := by omega
        go_wp2
        exact ⟨HR.out, by simp⟩
    · obtain ⟨g, cap, cur, hv, hg, hgb, _, _, _, _⟩ : ∃ g cap cur, u5 = Value.slice (some ⟨g, 0, none⟩) D.length cap ∧ w.heap.size ≤ g ∧ wr.heap[g]? = some (.cells cur 5 (0, 0)) ∧ D.length ≤ cap ∧ cap ≤ maxLen ∧ cur.size = cap * 1 ∧ cur.toList.take (D.length * 1) = u8s D := by
        rcases hown.2 with ⟨_, h0⟩ | h
        · exact absurd (List.eq_nil_of_length_eq_zero h0) hD
        · obtain ⟨g, cap, cur, q1, q2, q3, q4, q5, q6, q7⟩ := h
          exact ⟨g, cap, cur, q1, q2, q3, q4, q5, q6, q7⟩
      subst hv
      have hd0 : ((D.length : Int) == 0) = false := bneI (by have : D.length ≠ 0 := fun e => hD (List.eq_nil_of_length_eq_zero e); omega)
      have hd1 : 1 ≤ D.length := by have : D.length ≠ 0 := fun e => hD (List.eq_nil_of_length_eq_zero e); omega
      have hcells := hown.cells (g := g) rfl
      have HC := Lib.hid hcells
      have hglt : g < wr.heap.size := (hown.lt g rfl).2
      clear hcells hown hb hnil hdig hdec hk hgb hg
      by_cases k0 : 0 < k
      · have k1 : (0 : Int) < (k : Int) := by omega
        have hl18 : D.length ≤ 18 := by
          have := HK.out
          rcases Nat.lt_or_ge 18 D.length with h | h
          · rw [show 19 - D.length = 0 by omega] at this; simp at this; omega
          · exact h
        go_wp2_with (at_builtin; refine wpList_append_own _ rfl _ _ 36 rfl w.heap.size 5 i0 (.int .u8 0) 1 1 Tryd.underlying36 hi hz0 hz1 hz2 rfl (by decide) _ 1 [.int .u8 (48 + (k : Int) % 10)] rfl ?d0 ⟨g, 0, none⟩ D.length cap (u8s D) rfl ?d6 ?d1 ?d2 ?d3 ?d4 ?d5 ?_)
        case d0 => exact World.ownsRow_lit (size := 1) wr #[.int .u8 (48 + (k : Int) % 10)] 1 hsz (by decide) rfl
        case d6 => rw [u8s_len]; omega
        case d1 =>
          intro j u hj
          have hj' := HC.out j u hj
          rw [← hj']
          exact ((Below.refl wr.heap.size wr).alloc (Nat.le_refl _) _).cell (p := (⟨g, 0, none⟩ : Addr).add j) (by rw [addPlain]; exact hglt)
        case d2 => intro u hu; unfold u8s at hu; obtain ⟨x, _, rfl⟩ := List.mem_map.1 hu; rfl
        case d3 => unfold maxLen; omega
        case d4 => omega
        case d5 => simp; omega
        intro v' w1 hown' hgrow hnn
        have R := ints_next k N D w wr w1 v' HE.out HK.out HB.out HD.out hl18 hown' hgrow
        have HR := Lib.hid R
        have hv' : ∃ g' cap', v' = .slice (some ⟨g', 0, none⟩) (1 + D.length) cap' := by
          rcases hown'.2 with ⟨_, h0⟩ | ⟨g', cap', cur', q1, _⟩
          · omega
          · exact ⟨g', cap', q1⟩
        obtain ⟨g', cap', rfl⟩ := hv'
        clear R hown' hgrow hnn
        go_wp2
        exact ⟨HR.out, by show 20 - (1 + D.length) < 20 - D.length; omega⟩
      · obtain rfl : k = 0 := by omega
        have hdec : Wo.decF 0 D = N := HE.out
        have hv : ∀ W, Below wr.heap.size wr W → (convert 36 9 (.slice (some ⟨g, 0, none⟩) D.length cap)).run Tryd.prog W = .ok (.string ⟨D.toArray⟩) W := fun W hW => conv_own (own_below HO.out hW)
        have hv0 := hv wr.drew (Below.refl _ _).drew
        have HV := Lib.hid hv
        clear hv
        have hu : U % 31 < 31 := Nat.mod_lt _ (by decide)
        have hwr : IntKind.i64.wrap ((U : Int).tmod 31) = ((U % 31 : Nat) : Int) := by
          rw [Int.tmod_eq_emod_of_nonneg (by omega), IntWalk.i64_in _ (by omega)]; omega
        have CR := Lib.hid (fun w' => repeat_any (U % 31) hu _ hwr w')
        clear hwr
        have hint := Wo.next_int (List.replicate (U % 31) 48 ++ D) (by simp [hD]) (Wo.allDig_app _ _ (Wo.allDig_zeros _) HD.out) (by rw [List.length_append, List.length_replicate]; omega)
        rw [Wo.dec_all _ N _ hdec, if_pos HN.out, List.length_append, List.length_replicate] at hint
        have hint9 := Wo.next_int ((List.replicate (U % 31) 48 ++ D) ++ [57]) (by simp) (Wo.allDig_app _ _ (Wo.allDig_app _ _ (Wo.allDig_zeros _) HD.out) (by intro x hx; simp at hx; subst hx; decide)) (by rw [List.length_append, List.length_append, List.length_replicate, List.length_singleton]; omega)
        rw [Wo.dec_nine _ N _ hdec] at hint9
        clear hdec
        have hlen9 : List.length (List.replicate (U % 31) (48 : UInt8) ++ D) = U % 31 + D.length := by rw [List.length_append, List.length_replicate]
        have HI := Lib.hid hint
        have HI9 := Lib.hid hint9
        clear hint hint9
        have hcat : ¬ 9223372036854775807 < U % 31 + D.length := by omega
        go_wp2_with fail
        go_region_with (go_at_call 18; refine (CR.out _).mono ?_; rintro e w1 ⟨rfl, hb1⟩; have hv1 := HV.out w1 (by exact (Below.refl _ _).drew.trans (hb1.mono (Nat.le_refl _))))
        all_goals
          have HB1 := Lib.hid (HB.out.trans ((Below.refl _ _).drew.trans (hb1.mono (Nat.le_refl _)) |>.mono HB.out.size))
          have HW1 := Lib.hid (HW.out.below HB1.out (Nat.le_refl _))
          clear hv1 hv0 hb1
          have hS : ((⟨Array.replicate (U % 31) 48⟩ : ByteArray) ++ ⟨D.toArray⟩).data.toList = List.replicate (U % 31) 48 ++ D := by rw [ByteArray.data_append, Array.toList_append]; simp
          have hz : ((⟨Array.replicate (U % 31) 48⟩ : ByteArray) ++ ⟨D.toArray⟩).size = U % 31 + D.length := by rw [← hlen9, ← hS]; rfl
          go_wp2_with fail
          generalize ((⟨Array.replicate (U % 31) 48⟩ : ByteArray) ++ ⟨D.toArray⟩) = S at hS hz
          have hzS : S.size < 100 := by omega
          have c1 := fun w hw => next_any S 0 w hw (by unfold maxLen; omega)
          have c2 := fun w hw => next_any (S ++ ⟨#[57]⟩) 0 w hw (by rw [ByteArray.size_append]; show S.size + 1 ≤ _; unfold maxLen; omega)
          rw [ByteArray.data_append, Array.toList_append, show (⟨#[57]⟩ : ByteArray).data.toList = [57] from rfl, hS, HI9.out] at c2
          rw [hS, HI.out, ← hz] at c1
          unfold NextPost wordV at c1 c2
          simp only at c1
          have C1 := Lib.hid c1
          clear c1 hS hz CR HV hcat hlen9 HI HI9 hd1 hd0 HK HE HC HO HD
          by_cases f9 : 10 * N + 9 < 9223372036854775808
          · rw [if_pos f9] at c2
            simp only at c2
            generalize List.length (List.replicate (U % 31) 48 ++ D ++ [57]) = q9 at c2
            have C2 := Lib.hid c2
            have t1 : (N : Int) < 922337203685477580 := by omega
            clear c2 f9
            with_reducible refine (C1.out _ HW1.out).mono ?_
            rintro e w2 ⟨rfl, hb⟩
            have HB2 := Lib.hid (HB1.out.trans (hb.mono HB1.out.size))
            have HW2 := Lib.hid (HW1.out.below hb (Nat.le_refl _))
            clear hb
            go_wp2_with fail
            with_reducible refine (C2.out _ ?_).mono ?_
            · exact (HW2.out.alloc _).alloc _
            rintro e w3 ⟨rfl, hb⟩
            have HW3 := Lib.hid (((HW2.out.alloc _).alloc _).below hb (Nat.le_refl _))
            have HB3 := Lib.hid (((HB2.out.alloc HB2.out.size _).alloc (by have := HB2.out.size; simp; omega) _).trans (hb.mono (by have := HB2.out.size; simp; omega)))
            clear hb
            go_wp2_with fail
            with_reducible refine (awake_any _ ?_).mono ?_
            · exact (HW3.out.alloc _).alloc _
            rintro e w4 ⟨rfl, hb⟩
            have HB4 := Lib.hid (((HB3.out.alloc HB3.out.size _).alloc (by have := HB3.out.size; simp; omega) _).trans (hb.mono (by have := HB3.out.size; simp; omega)))
            clear hb
            go_wp2
            go_ret
            exact ⟨rfl, HB4.out⟩
          · rw [if_neg f9] at c2
            simp only at c2
            have C2 := Lib.hid c2
            have t1 : decide ((N : Int) < 922337203685477580) = false := decide_eq_false (by omega)
            clear c2 f9
            with_reducible refine (C1.out _ HW1.out).mono ?_
            rintro e w2 ⟨rfl, hb⟩
            have HB2 := Lib.hid (HB1.out.trans (hb.mono HB1.out.size))
            have HW2 := Lib.hid (HW1.out.below hb (Nat.le_refl _))
            clear hb
            go_wp2_with fail
            with_reducible refine (C2.out _ ?_).mono ?_
            · exact (HW2.out.alloc _).alloc _
            rintro e w3 ⟨rfl, hb⟩
            have HW3 := Lib.hid (((HW2.out.alloc _).alloc _).below hb (Nat.le_refl _))
            have HB3 := Lib.hid (((HB2.out.alloc HB2.out.size _).alloc (by have := HB2.out.size; simp; omega) _).trans (hb.mono (by have := HB2.out.size; simp; omega)))
            clear hb
            go_wp2_with fail
            with_reducible refine (awake_any _ ?_).mono ?_
            · exact (HW3.out.alloc _).alloc _
            rintro e w4 ⟨rfl, hb⟩
            have HB4 := Lib.hid (((HB3.out.alloc HB3.out.size _).alloc (by have := HB3.out.size; simp; omega) _).trans (hb.mono (by have := HB3.out.size; simp; omega)))
            clear hb
            go_wp2
            go_ret
            exact ⟨rfl, HB4.out⟩
theorem ints_true (n u : Int) (w : World) (hl : LaidW w) (hn : -9223372036854775808 ≤ n ∧ n < 9223372036854775808) (hu : 0 ≤ u ∧ u < 256) : Calls Tryd.prog 9 #[.int .i64 n, .int .u8 u] w (TruePost w) := by
  obtain ⟨U, rfl⟩ : ∃ U : Nat, u = U := ⟨u.toNat, by omega⟩
  by_cases h : n < 0
  · obtain ⟨N, rfl⟩ : ∃ N : Nat, n = -((N : Int) + 1) := ⟨(-(n + 1)).toNat, by omega⟩
    exact ints_neg N U w hl (by omega) (by omega)
  · obtain ⟨N, rfl⟩ : ∃ N : Nat, n = N := ⟨n.toNat, by omega⟩
    exact ints_pos N U w hl (by omega) (by omega)
theorem ints_wf (n u : Int) (w : World) (hl : LaidW w) (hn : (Lit.int .i64 n).wf = true) (hu : (Lit.int .u8 u).wf = true) : Calls Tryd.prog 9 #[.int .i64 n, .int .u8 u] w (TruePost w) := by
  unfold Lit.wf at hn hu
  simp only [Bool.and_eq_true, decide_eq_true_eq] at hn hu
  have h1 : IntKind.i64.min = -9223372036854775808 := by decide
  have h2 : IntKind.i64.max = 9223372036854775807 := by decide
  have h3 : IntKind.u8.min = 0 := by decide
  have h4 : IntKind.u8.max = 255 := by decide
  rw [h1, h2] at hn
  rw [h3, h4] at hu
  exact ints_true n u w hl (by omega) (by omega)
end Go.Proofs.YthbdnbeiafpkcaaDoor
