/- value.quoted, by contract. -/
import Derived.Test.YtgamhgeiceakeaaDoorVCmpb
import Derived.Test.YtgamhgeiceakeaaDoorVSpecf
set_option linter.unusedVariables false
set_option linter.unusedSimpArgs false
namespace Go.Proofs.YtgamhgeiceakeaaDoor
open Go.RowKit
open Va (V)
def SB (l : List UInt8) (w : World) (e : Ending) (w' : World) : Prop := e = .returned (.string ⟨l.toArray⟩) ∧ Below w.heap.size w w'
theorem hex_index (n : Nat) (h : n < 16) : (⟨#[48, 49, 50, 51, 52, 53, 54, 55, 56, 57, 97, 98, 99, 100, 101, 102]⟩ : ByteArray)[n]'(by exact h) = Va.hexd n := by
  have : ∀ n : Fin 16, (⟨#[48, 49, 50, 51, 52, 53, 54, 55, 56, 57, 97, 98, 99, 100, 101, 102]⟩ : ByteArray)[n.val]'(by exact n.isLt) = Va.hexd n.val := by decide
  exact this ⟨n, h⟩
theorem Ow.one (w : World) (c : UInt8) (v : Int) (hv : v = (c.toNat : Nat)) : Ow (w.alloc (.cells #[.int .u8 v] 5)) w.heap.size (.slice (some ⟨w.heap.size, 0, none⟩) 1 1) [c] := by
  subst hv
  exact ⟨rfl, Or.inr ⟨w.heap.size, 1, #[.int .u8 (c.toNat : Nat)], rfl, Nat.le_refl _, heap_alloc_new _ _, Nat.le_refl _, by simp [maxLen], rfl, rfl⟩⟩
theorem u8_and15 (x : Int) (h₀ : 0 ≤ x) (h₁ : x < 256) : bits .and .u8 x 15 = x % 16 := bits_mask .u8 8 (by decide) wraps_u8 4 (by decide) x h₀ h₁
theorem hex_at (z : Int) (n : Nat) (hz : z = n) (hn : n < 16) (h' : z.toNat < 16) : (⟨#[48, 49, 50, 51, 52, 53, 54, 55, 56, 57, 97, 98, 99, 100, 101, 102]⟩ : ByteArray)[z.toNat]'(by exact h') = Va.hexd n := by
  subst hz; exact hex_index n hn
set_option maxHeartbeats 1600000 in
set_option maxRecDepth 100000 in
theorem quoted_any (s : ByteArray) (w : World) (hs : s.size ≤ 1048576) : Calls Tryd.prog 52 #[.string s] w (SB (Va.qt s.data.toList) w) := by
  have HO1 := Lib.hid (Ow.one w 34 34 rfl)
  have HB1 := Lib.hid (show Below w.heap.size w (w.alloc (.cells #[.int .u8 34] 5)) from (Below.refl _ _).alloc (Nat.le_refl _) _)
  go_enter Tryd.func52, Tryd.ntmps52
  go_wp2_with fail
  go_loopw [3, 4, 5, 9] (fun vv _ _ iv wr => ∃ k : Nat, k ≤ s.size ∧ iv = .int .i64 k ∧ Ow wr w.heap.size vv (34 :: Va.qtB (s.data.toList.take k)) ∧ Below w.heap.size w wr) (fun _ _ _ i _ => s.size - (intOf i).toNat)
  case atStart => exact ⟨0, Nat.zero_le _, rfl, HO1.out, HB1.out⟩
  case round =>
    obtain ⟨k, hk, rfl, hO, hB⟩ := hrel
    have HO := Lib.hid hO
    have HB := Lib.hid hB
    have hbw : w.heap.size ≤ wr.heap.size := hB.size
    have hql := Va.qtB_le (s.data.toList.take k)
    have htl : (s.data.toList.take k).length ≤ k := List.length_take_le _ _
    have hlen : (34 :: Va.qtB (s.data.toList.take k)).length ≤ 4194304 := by rw [List.length_cons]; omega
    clear hO hB hql htl
    by_cases hlt : k < s.size
    · have hq := Va.qtB_at s.data.toList k hlt
      change Va.qtB (s.data.toList.take (k + 1)) = Va.qtB (s.data.toList.take k) ++ Va.qt1 s[k] at hq
      have HQ := Lib.hid hq
      clear hq
      have hc : s[k].toNat < 256 := s[k].toNat_lt
      by_cases p : Va.isPl s[k]
      · have hq1 : Va.qt1 s[k] = [s[k]] := by unfold Va.qt1; rw [if_pos p]
        have HQ1 := Lib.hid hq1
        obtain ⟨p1, p2, p3, p4⟩ := p
        have k1 : ((s[k].toNat : Int) == 34) = false := bneI (by omega)
        have k2 : ((s[k].toNat : Int) == 92) = false := bneI (by omega)
        have k3 : ((s[k].toNat : Int) != 34) = true := by rw [bne_iff_ne]; omega
        have k4 : ((s[k].toNat : Int) != 92) = true := by rw [bne_iff_ne]; omega
        clear hq1 p3 p4
        go_wp2_with (at_builtin; refine wp_byte _ rfl _ _ rfl w.heap.size _ _ rfl HO.out _ s[k] rfl rfl (by omega) hbw ?_)
        intro v' w1 hown1 hg1 _
        have HO1 := Lib.hid hown1
        have HB1 := Lib.hid (Gw.less HB.out hg1 hbw (fun i hi => (HO.out.lt i hi).1))
        clear hown1 hg1
        go_wp2
        go_roundw
        case rel => exact ⟨k + 1, by omega, by go_num, by rw [HQ.out, HQ1.out]; exact HO1.out, HB1.out⟩
        case measure => simp [intOf]; omega
      · have hq1 : Va.qt1 s[k] = [92, Va.hexd (s[k].toNat / 16), Va.hexd (s[k].toNat % 16)] := by unfold Va.qt1; rw [if_neg p]
        have HQ1 := Lib.hid hq1
        clear hq1
        by_cases p1 : 32 ≤ s[k].toNat
        case neg =>
          clear p
          have hand := u8_and15 (s[k].toNat : Int) (by omega) (by omega)
          have hx1 : 0 ≤ (s[k].toNat : Int) / 16 ∧ (s[k].toNat : Int) / 16 < 16 := by omega
          have hx2 : 0 ≤ (s[k].toNat : Int) % 16 ∧ (s[k].toNat : Int) % 16 < 16 := by omega
          have hx3 : s[k].toNat / 16 < 16 := by omega
          have hx4 : s[k].toNat % 16 < 16 := by omega
          have hl3 : (34 :: Va.qtB (s.data.toList.take k)).length + 3 ≤ maxLen := by unfold maxLen; omega
          have HLEN := Lib.hid hlen
          clear hlen
          go_wp2_with fail
          refine wp_region_T_drew (fun _ => True) 10 (by kernel_rfl) trivial (fun hS => ?_)
          refine wpAnyT_take 0 rfl (by kernel_rfl) (by kernel_rfl) (by decide) (by kernel_rfl) (by kernel_rfl) (fun _ _ _ h => h) hS (by kernel_rfl) (v := ?_) ?_ ?_
          rotate_left
          · intro w' hSw; (try dsimp only at hSw); go_simp; (try with_reducible rfl)
          simp only [Act.put, List.setIfInBounds_toArray, List.set_cons_zero, List.set_cons_succ]
          refine wpAnyT_take 1 rfl (by kernel_rfl) (by kernel_rfl) (by decide) (by kernel_rfl) (by kernel_rfl) (fun _ _ _ h => h) hS (by kernel_rfl) (v := ?_) ?_ ?_
          rotate_left
          · intro w' hSw; (try dsimp only at hSw); go_simp; (try with_reducible rfl)
          simp only [Act.put, List.setIfInBounds_toArray, List.set_cons_zero, List.set_cons_succ]
          refine wpAnyT_take 2 rfl (by kernel_rfl) (by kernel_rfl) (by decide) (by kernel_rfl) (by kernel_rfl) (fun _ _ _ h => h) hS (by kernel_rfl) (v := ?_) ?_ ?_
          rotate_left
          · intro w' hSw; (try dsimp only at hSw); go_simp; (try with_reducible rfl)
          simp only [Act.put, List.setIfInBounds_toArray, List.set_cons_zero, List.set_cons_succ]
          refine wpAnyT_take 3 rfl (by kernel_rfl) (by kernel_rfl) (by decide) (by kernel_rfl) (by kernel_rfl) (fun _ _ _ h => h) hS (by kernel_rfl) (v := (.int .u8 ((Va.hexd (s[k].toNat / 16)).toNat : Nat))) ?_ ?_
          · intro w' hSw; (try dsimp only at hSw); go_simp; (rw [hex_at _ _ (by omega) hx3 (by omega)])
          simp only [Act.put, List.setIfInBounds_toArray, List.set_cons_zero, List.set_cons_succ]
          refine wpAnyT_take 4 rfl (by kernel_rfl) (by kernel_rfl) (by decide) (by kernel_rfl) (by kernel_rfl) (fun _ _ _ h => h) hS (by kernel_rfl) (v := ?_) ?_ ?_
          rotate_left
          · intro w' hSw; (try dsimp only at hSw); go_simp; (try with_reducible rfl)
          simp only [Act.put, List.setIfInBounds_toArray, List.set_cons_zero, List.set_cons_succ]
          refine wpAnyT_take 5 rfl (by kernel_rfl) (by kernel_rfl) (by decide) (by kernel_rfl) (by kernel_rfl) (fun _ _ _ h => h) hS (by kernel_rfl) (v := ?_) ?_ ?_
          rotate_left
          · intro w' hSw; (try dsimp only at hSw); go_simp; (try with_reducible rfl)
          simp only [Act.put, List.setIfInBounds_toArray, List.set_cons_zero, List.set_cons_succ]
          refine wpAnyT_take 6 rfl (by kernel_rfl) (by kernel_rfl) (by decide) (by kernel_rfl) (by kernel_rfl) (fun _ _ _ h => h) hS (by kernel_rfl) (v := (.int .u8 ((Va.hexd (s[k].toNat % 16)).toNat : Nat))) ?_ ?_
          · intro w' hSw; (try dsimp only at hSw); go_simp; (rw [hex_at _ _ (by omega) hx4 (by omega)])
          simp only [Act.put, List.setIfInBounds_toArray, List.set_cons_zero, List.set_cons_succ]
          refine wpAnyT_one 7 (by kernel_rfl) rfl (by kernel_rfl) (fun K hK => ?_)
          go_simp
          refine hK _ _ (fun _ => trivial) ?_
          clear hK K
          refine wpAnyT_one 8 (by kernel_rfl) rfl (by kernel_rfl) (fun K hK => ?_)
          obtain ⟨i0, hi0, hz0, hz1, hz2⟩ := info_parts Tryd.info_u8
          refine op_append_gw _ (.tmp 33) (.tmp 40) 26 rfl w.heap.size 5 i0 _ 1 1 Tryd.underlying26 hi0 hz0 hz1 hz2 rfl (by decide) _ _ _ rfl (row_below (World.ownsRow.alloc HO.out _) ((Below.refl _ _).drew)) ⟨wr.heap.size, 0, none⟩ 3 3 [.int .u8 92, .int .u8 ((Va.hexd (s[k].toNat / 16)).toNat : Nat), .int .u8 ((Va.hexd (s[k].toNat % 16)).toNat : Nat)] rfl rfl ?_ ?_ ?_ ?_ ?_ ?_
          · intro j u hj
            exact cells_new _ #[.int .u8 92, .int .u8 ((Va.hexd (s[k].toNat / 16)).toNat : Nat), .int .u8 ((Va.hexd (s[k].toNat % 16)).toNat : Nat)] _ _ rfl j u (by simpa using hj)
          · intro u hu; simp only [List.mem_cons, List.not_mem_nil, or_false] at hu; rcases hu with rfl | rfl | rfl <;> rfl
          · exact hl3
          · have := HLEN.out; omega
          · simp; omega
          intro v6 w6 hown6 hg6 hn6
          have hown7 : Ow w6 w.heap.size v6 ((34 :: Va.qtB (s.data.toList.take k)) ++ [92, Va.hexd (s[k].toNat / 16), Va.hexd (s[k].toNat % 16)]) := by
            unfold Ow; rw [u8s_app, List.length_append]; exact hown6
          have HO7 := Lib.hid hown7
          have HB7 := Lib.hid (Gw.less ((HB.out.alloc hbw (.cells #[.int .u8 92, .int .u8 ((Va.hexd (s[k].toNat / 16)).toNat : Nat), .int .u8 ((Va.hexd (s[k].toNat % 16)).toNat : Nat)] 5)).trans ((Below.refl _ _).drew)) hg6 (by simp; omega) (fun i hi => (HO.out.lt i hi).1))
          clear hown6 hg6 hn6 hown7 hi0 hz0 hz1 hz2
          refine hK _ _ (fun _ => trivial) ?_
          clear hK K
          refine wpAnyT_one 9 (by kernel_rfl) rfl (by kernel_rfl) (fun K hK => ?_)
          go_simp
          refine hK _ _ (fun _ => trivial) ?_
          clear hK K
          refine wpAnyT_done (by kernel_rfl) ?_
          clear hand hx1 hx2 hx3 hx4
          go_wp2
          go_roundw
          case rel => exact ⟨k + 1, by omega, by go_num, by rw [HQ.out, HQ1.out]; exact HO7.out, HB7.out⟩
          case measure => simp [intOf]; omega
        by_cases p2 : s[k].toNat ≤ 126
        case neg =>
          clear p
          have hand := u8_and15 (s[k].toNat : Int) (by omega) (by omega)
          have hx1 : 0 ≤ (s[k].toNat : Int) / 16 ∧ (s[k].toNat : Int) / 16 < 16 := by omega
          have hx2 : 0 ≤ (s[k].toNat : Int) % 16 ∧ (s[k].toNat : Int) % 16 < 16 := by omega
          have hx3 : s[k].toNat / 16 < 16 := by omega
          have hx4 : s[k].toNat % 16 < 16 := by omega
          have hl3 : (34 :: Va.qtB (s.data.toList.take k)).length + 3 ≤ maxLen := by unfold maxLen; omega
          have HLEN := Lib.hid hlen
          clear hlen
          go_wp2_with fail
          refine wp_region_T_drew (fun _ => True) 10 (by kernel_rfl) trivial (fun hS => ?_)
          refine wpAnyT_take 0 rfl (by kernel_rfl) (by kernel_rfl) (by decide) (by kernel_rfl) (by kernel_rfl) (fun _ _ _ h => h) hS (by kernel_rfl) (v := ?_) ?_ ?_
          rotate_left
          · intro w' hSw; (try dsimp only at hSw); go_simp; (try with_reducible rfl)
          simp only [Act.put, List.setIfInBounds_toArray, List.set_cons_zero, List.set_cons_succ]
          refine wpAnyT_take 1 rfl (by kernel_rfl) (by kernel_rfl) (by decide) (by kernel_rfl) (by kernel_rfl) (fun _ _ _ h => h) hS (by kernel_rfl) (v := ?_) ?_ ?_
          rotate_left
          · intro w' hSw; (try dsimp only at hSw); go_simp; (try with_reducible rfl)
          simp only [Act.put, List.setIfInBounds_toArray, List.set_cons_zero, List.set_cons_succ]
          refine wpAnyT_take 2 rfl (by kernel_rfl) (by kernel_rfl) (by decide) (by kernel_rfl) (by kernel_rfl) (fun _ _ _ h => h) hS (by kernel_rfl) (v := ?_) ?_ ?_
          rotate_left
          · intro w' hSw; (try dsimp only at hSw); go_simp; (try with_reducible rfl)
          simp only [Act.put, List.setIfInBounds_toArray, List.set_cons_zero, List.set_cons_succ]
          refine wpAnyT_take 3 rfl (by kernel_rfl) (by kernel_rfl) (by decide) (by kernel_rfl) (by kernel_rfl) (fun _ _ _ h => h) hS (by kernel_rfl) (v := (.int .u8 ((Va.hexd (s[k].toNat / 16)).toNat : Nat))) ?_ ?_
          · intro w' hSw; (try dsimp only at hSw); go_simp; (rw [hex_at _ _ (by omega) hx3 (by omega)])
          simp only [Act.put, List.setIfInBounds_toArray, List.set_cons_zero, List.set_cons_succ]
          refine wpAnyT_take 4 rfl (by kernel_rfl) (by kernel_rfl) (by decide) (by kernel_rfl) (by kernel_rfl) (fun _ _ _ h => h) hS (by kernel_rfl) (v := ?_) ?_ ?_
          rotate_left
          · intro w' hSw; (try dsimp only at hSw); go_simp; (try with_reducible rfl)
          simp only [Act.put, List.setIfInBounds_toArray, List.set_cons_zero, List.set_cons_succ]
          refine wpAnyT_take 5 rfl (by kernel_rfl) (by kernel_rfl) (by decide) (by kernel_rfl) (by kernel_rfl) (fun _ _ _ h => h) hS (by kernel_rfl) (v := ?_) ?_ ?_
          rotate_left
          · intro w' hSw; (try dsimp only at hSw); go_simp; (try with_reducible rfl)
          simp only [Act.put, List.setIfInBounds_toArray, List.set_cons_zero, List.set_cons_succ]
          refine wpAnyT_take 6 rfl (by kernel_rfl) (by kernel_rfl) (by decide) (by kernel_rfl) (by kernel_rfl) (fun _ _ _ h => h) hS (by kernel_rfl) (v := (.int .u8 ((Va.hexd (s[k].toNat % 16)).toNat : Nat))) ?_ ?_
          · intro w' hSw; (try dsimp only at hSw); go_simp; (rw [hex_at _ _ (by omega) hx4 (by omega)])
          simp only [Act.put, List.setIfInBounds_toArray, List.set_cons_zero, List.set_cons_succ]
          refine wpAnyT_one 7 (by kernel_rfl) rfl (by kernel_rfl) (fun K hK => ?_)
          go_simp
          refine hK _ _ (fun _ => trivial) ?_
          clear hK K
          refine wpAnyT_one 8 (by kernel_rfl) rfl (by kernel_rfl) (fun K hK => ?_)
          obtain ⟨i0, hi0, hz0, hz1, hz2⟩ := info_parts Tryd.info_u8
          refine op_append_gw _ (.tmp 33) (.tmp 40) 26 rfl w.heap.size 5 i0 _ 1 1 Tryd.underlying26 hi0 hz0 hz1 hz2 rfl (by decide) _ _ _ rfl (row_below (World.ownsRow.alloc HO.out _) ((Below.refl _ _).drew)) ⟨wr.heap.size, 0, none⟩ 3 3 [.int .u8 92, .int .u8 ((Va.hexd (s[k].toNat / 16)).toNat : Nat), .int .u8 ((Va.hexd (s[k].toNat % 16)).toNat : Nat)] rfl rfl ?_ ?_ ?_ ?_ ?_ ?_
          · intro j u hj
            exact cells_new _ #[.int .u8 92, .int .u8 ((Va.hexd (s[k].toNat / 16)).toNat : Nat), .int .u8 ((Va.hexd (s[k].toNat % 16)).toNat : Nat)] _ _ rfl j u (by simpa using hj)
          · intro u hu; simp only [List.mem_cons, List.not_mem_nil, or_false] at hu; rcases hu with rfl | rfl | rfl <;> rfl
          · exact hl3
          · have := HLEN.out; omega
          · simp; omega
          intro v6 w6 hown6 hg6 hn6
          have hown7 : Ow w6 w.heap.size v6 ((34 :: Va.qtB (s.data.toList.take k)) ++ [92, Va.hexd (s[k].toNat / 16), Va.hexd (s[k].toNat % 16)]) := by
            unfold Ow; rw [u8s_app, List.length_append]; exact hown6
          have HO7 := Lib.hid hown7
          have HB7 := Lib.hid (Gw.less ((HB.out.alloc hbw (.cells #[.int .u8 92, .int .u8 ((Va.hexd (s[k].toNat / 16)).toNat : Nat), .int .u8 ((Va.hexd (s[k].toNat % 16)).toNat : Nat)] 5)).trans ((Below.refl _ _).drew)) hg6 (by simp; omega) (fun i hi => (HO.out.lt i hi).1))
          clear hown6 hg6 hn6 hown7 hi0 hz0 hz1 hz2
          refine hK _ _ (fun _ => trivial) ?_
          clear hK K
          refine wpAnyT_one 9 (by kernel_rfl) rfl (by kernel_rfl) (fun K hK => ?_)
          go_simp
          refine hK _ _ (fun _ => trivial) ?_
          clear hK K
          refine wpAnyT_done (by kernel_rfl) ?_
          clear hand hx1 hx2 hx3 hx4
          go_wp2
          go_roundw
          case rel => exact ⟨k + 1, by omega, by go_num, by rw [HQ.out, HQ1.out]; exact HO7.out, HB7.out⟩
          case measure => simp [intOf]; omega
        by_cases p3 : s[k].toNat = 34
        · have k1 : ((s[k].toNat : Int) == 34) = true := beqI (by omega)
          have k3 : ((s[k].toNat : Int) != 34) = false := by simp [p3]
          clear p p3
          have hand := u8_and15 (s[k].toNat : Int) (by omega) (by omega)
          have hx1 : 0 ≤ (s[k].toNat : Int) / 16 ∧ (s[k].toNat : Int) / 16 < 16 := by omega
          have hx2 : 0 ≤ (s[k].toNat : Int) % 16 ∧ (s[k].toNat : Int) % 16 < 16 := by omega
          have hx3 : s[k].toNat / 16 < 16 := by omega
          have hx4 : s[k].toNat % 16 < 16 := by omega
          have hl3 : (34 :: Va.qtB (s.data.toList.take k)).length + 3 ≤ maxLen := by unfold maxLen; omega
          have HLEN := Lib.hid hlen
          clear hlen
          go_wp2_with fail
          refine wp_region_T_drew (fun _ => True) 10 (by kernel_rfl) trivial (fun hS => ?_)
          refine wpAnyT_take 0 rfl (by kernel_rfl) (by kernel_rfl) (by decide) (by kernel_rfl) (by kernel_rfl) (fun _ _ _ h => h) hS (by kernel_rfl) (v := ?_) ?_ ?_
          rotate_left
          · intro w' hSw; (try dsimp only at hSw); go_simp; (try with_reducible rfl)
          simp only [Act.put, List.setIfInBounds_toArray, List.set_cons_zero, List.set_cons_succ]
          refine wpAnyT_take 1 rfl (by kernel_rfl) (by kernel_rfl) (by decide) (by kernel_rfl) (by kernel_rfl) (fun _ _ _ h => h) hS (by kernel_rfl) (v := ?_) ?_ ?_
          rotate_left
          · intro w' hSw; (try dsimp only at hSw); go_simp; (try with_reducible rfl)
          simp only [Act.put, List.setIfInBounds_toArray, List.set_cons_zero, List.set_cons_succ]
          refine wpAnyT_take 2 rfl (by kernel_rfl) (by kernel_rfl) (by decide) (by kernel_rfl) (by kernel_rfl) (fun _ _ _ h => h) hS (by kernel_rfl) (v := ?_) ?_ ?_
          rotate_left
          · intro w' hSw; (try dsimp only at hSw); go_simp; (try with_reducible rfl)
          simp only [Act.put, List.setIfInBounds_toArray, List.set_cons_zero, List.set_cons_succ]
          refine wpAnyT_take 3 rfl (by kernel_rfl) (by kernel_rfl) (by decide) (by kernel_rfl) (by kernel_rfl) (fun _ _ _ h => h) hS (by kernel_rfl) (v := (.int .u8 ((Va.hexd (s[k].toNat / 16)).toNat : Nat))) ?_ ?_
          · intro w' hSw; (try dsimp only at hSw); go_simp; (rw [hex_at _ _ (by omega) hx3 (by omega)])
          simp only [Act.put, List.setIfInBounds_toArray, List.set_cons_zero, List.set_cons_succ]
          refine wpAnyT_take 4 rfl (by kernel_rfl) (by kernel_rfl) (by decide) (by kernel_rfl) (by kernel_rfl) (fun _ _ _ h => h) hS (by kernel_rfl) (v := ?_) ?_ ?_
          rotate_left
          · intro w' hSw; (try dsimp only at hSw); go_simp; (try with_reducible rfl)
          simp only [Act.put, List.setIfInBounds_toArray, List.set_cons_zero, List.set_cons_succ]
          refine wpAnyT_take 5 rfl (by kernel_rfl) (by kernel_rfl) (by decide) (by kernel_rfl) (by kernel_rfl) (fun _ _ _ h => h) hS (by kernel_rfl) (v := ?_) ?_ ?_
          rotate_left
          · intro w' hSw; (try dsimp only at hSw); go_simp; (try with_reducible rfl)
          simp only [Act.put, List.setIfInBounds_toArray, List.set_cons_zero, List.set_cons_succ]
          refine wpAnyT_take 6 rfl (by kernel_rfl) (by kernel_rfl) (by decide) (by kernel_rfl) (by kernel_rfl) (fun _ _ _ h => h) hS (by kernel_rfl) (v := (.int .u8 ((Va.hexd (s[k].toNat % 16)).toNat : Nat))) ?_ ?_
          · intro w' hSw; (try dsimp only at hSw); go_simp; (rw [hex_at _ _ (by omega) hx4 (by omega)])
          simp only [Act.put, List.setIfInBounds_toArray, List.set_cons_zero, List.set_cons_succ]
          refine wpAnyT_one 7 (by kernel_rfl) rfl (by kernel_rfl) (fun K hK => ?_)
          go_simp
          refine hK _ _ (fun _ => trivial) ?_
          clear hK K
          refine wpAnyT_one 8 (by kernel_rfl) rfl (by kernel_rfl) (fun K hK => ?_)
          obtain ⟨i0, hi0, hz0, hz1, hz2⟩ := info_parts Tryd.info_u8
          refine op_append_gw _ (.tmp 33) (.tmp 40) 26 rfl w.heap.size 5 i0 _ 1 1 Tryd.underlying26 hi0 hz0 hz1 hz2 rfl (by decide) _ _ _ rfl (row_below (World.ownsRow.alloc HO.out _) ((Below.refl _ _).drew)) ⟨wr.heap.size, 0, none⟩ 3 3 [.int .u8 92, .int .u8 ((Va.hexd (s[k].toNat / 16)).toNat : Nat), .int .u8 ((Va.hexd (s[k].toNat % 16)).toNat : Nat)] rfl rfl ?_ ?_ ?_ ?_ ?_ ?_
          · intro j u hj
            exact cells_new _ #[.int .u8 92, .int .u8 ((Va.hexd (s[k].toNat / 16)).toNat : Nat), .int .u8 ((Va.hexd (s[k].toNat % 16)).toNat : Nat)] _ _ rfl j u (by simpa using hj)
          · intro u hu; simp only [List.mem_cons, List.not_mem_nil, or_false] at hu; rcases hu with rfl | rfl | rfl <;> rfl
          · exact hl3
          · have := HLEN.out; omega
          · simp; omega
          intro v6 w6 hown6 hg6 hn6
          have hown7 : Ow w6 w.heap.size v6 ((34 :: Va.qtB (s.data.toList.take k)) ++ [92, Va.hexd (s[k].toNat / 16), Va.hexd (s[k].toNat % 16)]) := by
            unfold Ow; rw [u8s_app, List.length_append]; exact hown6
          have HO7 := Lib.hid hown7
          have HB7 := Lib.hid (Gw.less ((HB.out.alloc hbw (.cells #[.int .u8 92, .int .u8 ((Va.hexd (s[k].toNat / 16)).toNat : Nat), .int .u8 ((Va.hexd (s[k].toNat % 16)).toNat : Nat)] 5)).trans ((Below.refl _ _).drew)) hg6 (by simp; omega) (fun i hi => (HO.out.lt i hi).1))
          clear hown6 hg6 hn6 hown7 hi0 hz0 hz1 hz2
          refine hK _ _ (fun _ => trivial) ?_
          clear hK K
          refine wpAnyT_one 9 (by kernel_rfl) rfl (by kernel_rfl) (fun K hK => ?_)
          go_simp
          refine hK _ _ (fun _ => trivial) ?_
          clear hK K
          refine wpAnyT_done (by kernel_rfl) ?_
          clear hand hx1 hx2 hx3 hx4
          go_wp2
          go_roundw
          case rel => exact ⟨k + 1, by omega, by go_num, by rw [HQ.out, HQ1.out]; exact HO7.out, HB7.out⟩
          case measure => simp [intOf]; omega
        · have p4 : s[k].toNat = 92 := Classical.byContradiction fun h => p ⟨p1, p2, p3, h⟩
          have k1 : ((s[k].toNat : Int) == 34) = false := bneI (by omega)
          have k2 : ((s[k].toNat : Int) == 92) = true := beqI (by omega)
          have k3 : ((s[k].toNat : Int) != 34) = true := by rw [bne_iff_ne]; omega
          have k4 : ((s[k].toNat : Int) != 92) = false := by simp [p4]
          clear p p3 p4
          have hand := u8_and15 (s[k].toNat : Int) (by omega) (by omega)
          have hx1 : 0 ≤ (s[k].toNat : Int) / 16 ∧ (s[k].toNat : Int) / 16 < 16 := by omega
          have hx2 : 0 ≤ (s[k].toNat : Int) % 16 ∧ (s[k].toNat : Int) % 16 < 16 := by omega
          have hx3 : s[k].toNat / 16 < 16 := by omega
          have hx4 : s[k].toNat % 16 < 16 := by omega
          have hl3 : (34 :: Va.qtB (s.data.toList.take k)).length + 3 ≤ maxLen := by unfold maxLen; omega
          have HLEN := Lib.hid hlen
          clear hlen
          go_wp2_with fail
          refine wp_region_T_drew (fun _ => True) 10 (by kernel_rfl) trivial (fun hS => ?_)
          refine wpAnyT_take 0 rfl (by kernel_rfl) (by kernel_rfl) (by decide) (by kernel_rfl) (by kernel_rfl) (fun _ _ _ h => h) hS (by kernel_rfl) (v := ?_) ?_ ?_
          rotate_left
          · intro w' hSw; (try dsimp only at hSw); go_simp; (try with_reducible rfl)
          simp only [Act.put, List.setIfInBounds_toArray, List.set_cons_zero, List.set_cons_succ]
          refine wpAnyT_take 1 rfl (by kernel_rfl) (by kernel_rfl) (by decide) (by kernel_rfl) (by kernel_rfl) (fun _ _ _ h => h) hS (by kernel_rfl) (v := ?_) ?_ ?_
          rotate_left
          · intro w' hSw; (try dsimp only at hSw); go_simp; (try with_reducible rfl)
          simp only [Act.put, List.setIfInBounds_toArray, List.set_cons_zero, List.set_cons_succ]
          refine wpAnyT_take 2 rfl (by kernel_rfl) (by kernel_rfl) (by decide) (by kernel_rfl) (by kernel_rfl) (fun _ _ _ h => h) hS (by kernel_rfl) (v := ?_) ?_ ?_
          rotate_left
          · intro w' hSw; (try dsimp only at hSw); go_simp; (try with_reducible rfl)
          simp only [Act.put, List.setIfInBounds_toArray, List.set_cons_zero, List.set_cons_succ]
          refine wpAnyT_take 3 rfl (by kernel_rfl) (by kernel_rfl) (by decide) (by kernel_rfl) (by kernel_rfl) (fun _ _ _ h => h) hS (by kernel_rfl) (v := (.int .u8 ((Va.hexd (s[k].toNat / 16)).toNat : Nat))) ?_ ?_
          · intro w' hSw; (try dsimp only at hSw); go_simp; (rw [hex_at _ _ (by omega) hx3 (by omega)])
          simp only [Act.put, List.setIfInBounds_toArray, List.set_cons_zero, List.set_cons_succ]
          refine wpAnyT_take 4 rfl (by kernel_rfl) (by kernel_rfl) (by decide) (by kernel_rfl) (by kernel_rfl) (fun _ _ _ h => h) hS (by kernel_rfl) (v := ?_) ?_ ?_
          rotate_left
          · intro w' hSw; (try dsimp only at hSw); go_simp; (try with_reducible rfl)
          simp only [Act.put, List.setIfInBounds_toArray, List.set_cons_zero, List.set_cons_succ]
          refine wpAnyT_take 5 rfl (by kernel_rfl) (by kernel_rfl) (by decide) (by kernel_rfl) (by kernel_rfl) (fun _ _ _ h => h) hS (by kernel_rfl) (v := ?_) ?_ ?_
          rotate_left
          · intro w' hSw; (try dsimp only at hSw); go_simp; (try with_reducible rfl)
          simp only [Act.put, List.setIfInBounds_toArray, List.set_cons_zero, List.set_cons_succ]
          refine wpAnyT_take 6 rfl (by kernel_rfl) (by kernel_rfl) (by decide) (by kernel_rfl) (by kernel_rfl) (fun _ _ _ h => h) hS (by kernel_rfl) (v := (.int .u8 ((Va.hexd (s[k].toNat % 16)).toNat : Nat))) ?_ ?_
          · intro w' hSw; (try dsimp only at hSw); go_simp; (rw [hex_at _ _ (by omega) hx4 (by omega)])
          simp only [Act.put, List.setIfInBounds_toArray, List.set_cons_zero, List.set_cons_succ]
          refine wpAnyT_one 7 (by kernel_rfl) rfl (by kernel_rfl) (fun K hK => ?_)
          go_simp
          refine hK _ _ (fun _ => trivial) ?_
          clear hK K
          refine wpAnyT_one 8 (by kernel_rfl) rfl (by kernel_rfl) (fun K hK => ?_)
          obtain ⟨i0, hi0, hz0, hz1, hz2⟩ := info_parts Tryd.info_u8
          refine op_append_gw _ (.tmp 33) (.tmp 40) 26 rfl w.heap.size 5 i0 _ 1 1 Tryd.underlying26 hi0 hz0 hz1 hz2 rfl (by decide) _ _ _ rfl (row_below (World.ownsRow.alloc HO.out _) ((Below.refl _ _).drew)) ⟨wr.heap.size, 0, none⟩ 3 3 [.int .u8 92, .int .u8 ((Va.hexd (s[k].toNat / 16)).toNat : Nat), .int .u8 ((Va.hexd (s[k].toNat % 16)).toNat : Nat)] rfl rfl ?_ ?_ ?_ ?_ ?_ ?_
          · intro j u hj
            exact cells_new _ #[.int .u8 92, .int .u8 ((Va.hexd (s[k].toNat / 16)).toNat : Nat), .int .u8 ((Va.hexd (s[k].toNat % 16)).toNat : Nat)] _ _ rfl j u (by simpa using hj)
          · intro u hu; simp only [List.mem_cons, List.not_mem_nil, or_false] at hu; rcases hu with rfl | rfl | rfl <;> rfl
          · exact hl3
          · have := HLEN.out; omega
          · simp; omega
          intro v6 w6 hown6 hg6 hn6
          have hown7 : Ow w6 w.heap.size v6 ((34 :: Va.qtB (s.data.toList.take k)) ++ [92, Va.hexd (s[k].toNat / 16), Va.hexd (s[k].toNat % 16)]) := by
            unfold Ow; rw [u8s_app, List.length_append]; exact hown6
          have HO7 := Lib.hid hown7
          have HB7 := Lib.hid (Gw.less ((HB.out.alloc hbw (.cells #[.int .u8 92, .int .u8 ((Va.hexd (s[k].toNat / 16)).toNat : Nat), .int .u8 ((Va.hexd (s[k].toNat % 16)).toNat : Nat)] 5)).trans ((Below.refl _ _).drew)) hg6 (by simp; omega) (fun i hi => (HO.out.lt i hi).1))
          clear hown6 hg6 hn6 hown7 hi0 hz0 hz1 hz2
          refine hK _ _ (fun _ => trivial) ?_
          clear hK K
          refine wpAnyT_one 9 (by kernel_rfl) rfl (by kernel_rfl) (fun K hK => ?_)
          go_simp
          refine hK _ _ (fun _ => trivial) ?_
          clear hK K
          refine wpAnyT_done (by kernel_rfl) ?_
          clear hand hx1 hx2 hx3 hx4
          go_wp2
          go_roundw
          case rel => exact ⟨k + 1, by omega, by go_num, by rw [HQ.out, HQ1.out]; exact HO7.out, HB7.out⟩
          case measure => simp [intOf]; omega
    · obtain rfl : k = s.size := by omega
      have hqt : Va.qt s.data.toList = (34 :: Va.qtB (s.data.toList.take s.size)) ++ [34] := by
        rw [List.take_of_length_le (show s.data.toList.length ≤ s.size from Nat.le_refl _)]; rfl
      obtain ⟨D, hD⟩ : ∃ D, Va.qt s.data.toList = D := ⟨_, rfl⟩
      rw [hD] at hqt
      have HQ := Lib.hid hqt
      have HD := Lib.hid hD
      clear hqt hD
      go_wp2_with (at_builtin; refine wp_byte _ rfl _ _ rfl w.heap.size _ _ rfl HO.out _ 34 rfl rfl (by omega) hbw ?_)
      intro v' w1 hown1 hg1 _
      have HB1 := Lib.hid (Gw.less HB.out hg1 hbw (fun i hi => (HO.out.lt i hi).1))
      have hown2 : Ow w1 w.heap.size v' D := by rw [HQ.out]; exact hown1
      obtain ⟨b2, c2, rfl, h1, h2, _⟩ := hown2.rd
      have kcv := conv_rd (cap := c2) rfl h1 h2
      clear hown1 hown2 hg1 h1 h2
      go_wp2
      go_ret
      exact ⟨by rw [HD.out]; rfl, HB1.out⟩
end Go.Proofs.YtgamhgeiceakeaaDoor
