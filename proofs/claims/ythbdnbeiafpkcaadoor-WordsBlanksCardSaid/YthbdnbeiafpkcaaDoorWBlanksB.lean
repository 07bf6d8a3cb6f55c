/- droverlaw08.WordsBlanks: the walk. -/
import Derived.Test.YthbdnbeiafpkcaaDoorWBlanksA
set_option linter.unusedVariables false
namespace Go.Proofs.YthbdnbeiafpkcaaDoor
open Go.RowKit
set_option maxHeartbeats 8000000 in
set_option maxRecDepth 100000 in
theorem blanks_short (S : ByteArray) (w : World) (hl : LaidW w) (hs : S.size ≤ 1000) : Calls Tryd.prog 4 #[.string S] w (TruePost w) := by
  have HW := Lib.hid hl
  clear hl
  have b1 : ¬ (1000 : Int) < (S.size : Int) := by omega
  go_enter Tryd.func4, Tryd.ntmps4
  go_wp2_with fail
  have c0 := fun w' => quoteS S w' (by omega)
  have hnext := Wo.next_quote S.data.toList (by have : S.data.toList.length = S.size := rfl; omega)
  have l1 := Wo.quoteL_len S.data.toList
  have l2 := Wo.quoteB_len S.data.toList
  have c1 := fun w' hw => next_any (bsOf (Wo.quoteL S.data.toList)) 0 w' hw (by rw [bsOf_size]; have : S.data.toList.length = S.size := rfl; unfold maxLen; omega)
  rw [bsOf_list, hnext] at c1
  unfold NextPost wordV at c1
  simp only at c1
  rw [show (⟨S.data.toList.toArray⟩ : ByteArray) = S from bs_back _] at c1
  generalize (Wo.quoteL S.data.toList).length = ql at c1
  generalize bsOf (Wo.quoteL S.data.toList) = Q at c0 c1
  have C0 := Lib.hid c0
  have C1 := Lib.hid c1
  clear c0 c1 hnext l1 l2
  with_reducible refine (C0.out _).mono ?_
  rintro e w1 ⟨rfl, hb1⟩
  have HB1 := Lib.hid hb1
  have HW1 := Lib.hid (HW.out.below hb1 (Nat.le_refl _))
  clear hb1
  go_wp2_with fail
  with_reducible refine (C1.out _ HW1.out).mono ?_
  rintro e w2 ⟨rfl, hb2⟩
  have HB2 := Lib.hid (HB1.out.trans (hb2.mono HB1.out.size))
  have HW2 := Lib.hid (HW1.out.below hb2 (Nat.le_refl _))
  clear hb2 C0 C1
  obtain ⟨i0, hi, hz0, hz1, hz2⟩ := info_parts Tryd.info_word
  go_wp2_with fail
  obtain ⟨W0, hW0⟩ : ∃ W0 : World, W0 = (w2.alloc (.cells #[.int .u8 2, .string S, .int .i64 0, .int .i64 1, .int .i64 0, .int .i64 ql] 24)).alloc (.cells #[.int .i64 0, .int .i64 0] 27) := ⟨_, rfl⟩
  rw [← hW0]
  have hbx : (∀ o, W0.cell? ⟨w2.heap.size + 1, o, none⟩ = #[Value.int .i64 0, .int .i64 0][o]?) ∧ (∀ o, W0.frozen? ⟨w2.heap.size + 1, o, none⟩ = false) ∧ w2.heap.size + 1 < W0.heap.size ∧ Below w2.heap.size w2 W0 := by
    rw [hW0]
    have hr := Below.refl ((w2.alloc (.cells #[.int .u8 2, .string S, .int .i64 0, .int .i64 1, .int .i64 0, .int .i64 ql] 24)).alloc (.cells #[.int .i64 0, .int .i64 0] 27)).heap.size ((w2.alloc (.cells #[.int .u8 2, .string S, .int .i64 0, .int .i64 1, .int .i64 0, .int .i64 ql] 24)).alloc (.cells #[.int .i64 0, .int .i64 0] 27))
    obtain ⟨q1, q2, q3, q4, q5⟩ := cells_two hr
    exact ⟨q2, box_free hr, q3, q5⟩
  obtain ⟨hx1, hx2, hx3, hx4⟩ := hbx
  have HX1 := Lib.hid hx1
  have HX2 := Lib.hid hx2
  have HX3 := Lib.hid hx3
  have HB0 := Lib.hid (HB2.out.trans (hx4.mono HB2.out.size))
  have HW0 := Lib.hid (HW2.out.below hx4 (Nat.le_refl _))
  have HS2 := Lib.hid HB2.out.size
  clear hW0 hx1 hx2 hx3 hx4 HB2 HW2 HB1 HW1
  go_loopw [5, 6, 7, 8] (fun lv sv av nv wr => BlRel S W0 lv sv av nv wr) (fun _ _ _ n _ => 1100 - (intOf n).toNat)
  case atStart => exact ⟨0, 0, [], ⟨#[]⟩, Nat.zero_le _, Nat.le_refl _, rfl, rfl, rfl, rfl, rfl, Nat.le_refl _, (fun p hp => by cases hp), World.ownsRow_nil _ _ _ _, Below.refl _ _⟩
  case round =>
    obtain ⟨a, k, L, T, ha, hk, hLk, rfl, rfl, rfl, hT, hTs, hg, hown, hb⟩ := hrel
    have HB := Lib.hid hb
    have HO := Lib.hid hown
    have HG := Lib.hid hg
    have HT := Lib.hid hT
    have HLK := Lib.hid hLk
    have HWR := Lib.hid (HW0.out.below hb (Nat.le_refl _))
    have hsz : W0.heap.size ≤ wr.heap.size := hb.size
    have eS : S.data.toList.length = S.size := rfl
    have c1 := fun w' hw => next_any S a w' hw (by unfold maxLen; omega)
    have G := Wo.next_goes S.data.toList a (by omega) ha
    have hgd := Wo.next_good S.data.toList a (by omega) ha
    generalize Wo.nextL S.data.toList a = r at c1 G hgd
    obtain ⟨kd, ts, nn, ln, ax, en, er, fl⟩ := r
    obtain ⟨g1, g2, g3, g4, g5, g6⟩ := G
    simp only at g1 g2 g3 g4 g5 g6 hgd
    unfold NextPost wordV at c1
    simp only at c1
    have C1 := Lib.hid c1
    rw [eS] at g4
    clear c1 hown hg hT hLk hb g2 g3 g5 eS
    by_cases stop : er = 0 ∧ kd ≠ 6
    · obtain ⟨rfl, h6⟩ := stop
      obtain ⟨h4, h5, h7⟩ := g4 rfl
      have h8 := g6 rfl h6
      have hgd := hgd rfl h6
      have HGD := Lib.hid hgd
      have k6 : ((kd : Int) == 6) = false := bneI (by omega)
      clear g1 g4 g6 h6 hgd
      go_wp2_with fail
      with_reducible refine (C1.out _ HWR.out).mono ?_
      rintro e w3 ⟨rfl, hb3⟩
      have HB3 := Lib.hid (HB.out.trans (hb3.mono HB.out.size))
      have HO3 := Lib.hid (own_belowS HO.out hb3)
      have hsz3 := HB3.out.size
      clear hb3 C1
      go_wp2_with (at_builtin; refine wpList_append_own _ rfl _ _ 33 rfl W0.heap.size 24 i0 _ 6 56 Tryd.underlying33 hi hz0 hz1 hz2 rfl (by decide) _ L.length (lcells L) rfl (((HO3.out.alloc _).alloc _).alloc _) ⟨w3.heap.size + 1 + 1, 0, none⟩ 1 1 [.int .u8 kd, .string ⟨ts.toArray⟩, .int .i64 nn, .int .i64 ln, .int .i64 ax, .int .i64 en] rfl rfl ?c1 ?c2 ?c3 ?c4 ?c5 ?_)
      case c1 =>
        intro j u hj
        exact cells_new _ #[.int .u8 kd, .string ⟨ts.toArray⟩, .int .i64 nn, .int .i64 ln, .int .i64 ax, .int .i64 en] _ _ (by simp) j u (by simpa using hj)
      case c2 => intro u hu; simp at hu; rcases hu with rfl | rfl | rfl | rfl | rfl | rfl <;> rfl
      case c3 => have := HLK.out; unfold maxLen; omega
      case c4 => have := HLK.out; omega
      case c5 => simp; omega
      intro v' w4 hown' hgrow hnn
      have hown1 : w4.ownsRow W0.heap.size 24 6 v' (L ++ [((⟨kd, ts, nn, ln, ax, en, 0, fl⟩ : Wo.Wd), (S.data.toList.drop ax).take (en - ax))]).length (lcells (L ++ [((⟨kd, ts, nn, ln, ax, en, 0, fl⟩ : Wo.Wd), (S.data.toList.drop ax).take (en - ax))])) := by rw [lcells_snoc, List.length_append]; exact hown'
      have hb4 : Below W0.heap.size W0 w4 := (((HB3.out.alloc hsz3 _).alloc (by simp; omega) _).alloc (by simp; omega) _).grown hgrow (by simp; omega) (fun k hk => (HO3.out.lt k hk).1)
      obtain ⟨q1, q2⟩ := cells_grown hgrow (fun k hk => (HO3.out.lt k hk).2)
      have HO4 := Lib.hid hown1
      have HB4 := Lib.hid hb4
      clear hown' hgrow hnn hown1 hb4
      go_wp2_with fail
      have hTn := flat_next S T L ⟨kd, ts, nn, ln, ax, en, 0, fl⟩ HT.out
      simp only at hTn
      go_roundw
      case rel => exact ⟨en, k + 1, _, T ++ (S.extract ax en ++ sepB), by omega, by omega, by rw [List.length_append, HLK.out]; rfl, by go_num, by go_num, rfl, hTn, (by rw [ByteArray.size_append, ByteArray.size_append, ByteArray.size_extract]; show _ + (_ + 9) ≤ _; omega), (fun p hp => by
        rcases List.mem_append.1 hp with hp | hp
        · exact HG.out p hp
        · rw [List.mem_singleton.1 hp]; exact HGD.out), HO4.out, HB4.out⟩
      case measure => simp [intOf]; omega
    · have hx : er = 100 ∨ (er = 0 ∧ kd = 6) := by
        rcases g1 with h | h
        · right; exact ⟨h, Classical.byContradiction fun h6 => stop ⟨h, h6⟩⟩
        · exact Or.inl h
      have hTl : (Wo.flat (Wo.bytesOf L)).length ≤ 32768 := by
        rw [← HT.out]; show T.size ≤ _; omega
      have HTL := Lib.hid hTl
      have hTz : T.size ≤ 32768 := by omega
      obtain ⟨ba, cp, hv, hba⟩ : ∃ ba cp, u5 = Value.slice ba L.length cp ∧ (L.length = 0 ∨ ∃ g, ba = some (⟨g, 0, none⟩ : Addr) ∧ g < wr.heap.size) := by
        rcases HO.out.2 with ⟨q1, h0⟩ | ⟨g, cap, cur, q1, q2, q3, _⟩
        · exact ⟨none, 0, by rw [q1, h0], Or.inl h0⟩
        · exact ⟨_, cap, q1, Or.inr ⟨g, rfl, (Array.getElem?_eq_some_iff.1 q3).1⟩⟩
      subst hv
      have HBA := Lib.hid hba
      clear stop g1 g4 g6 hgd hTl hba
      rcases hx with rfl | ⟨rfl, rfl⟩
      all_goals
        obtain ⟨wo, hwo⟩ : ∃ wo : World, wo = wr := ⟨_, rfl⟩
        subst hwo
        go_wp2_with fail
        with_reducible refine (C1.out _ HWR.out).mono ?_
        rintro e w3 ⟨rfl, hb3⟩
        have HB3 := Lib.hid (HB.out.trans (hb3.mono HB.out.size))
        have HW3 := Lib.hid (HWR.out.below hb3 (Nat.le_refl _))
        have HO3 := Lib.hid (own_belowS HO.out hb3)
        have HZ3 := Lib.hid hb3.size
        clear hb3 C1
        go_wp2_with fail
        go_loopw [7, 93] (fun av iv wr => ∃ i : Nat, i ≤ L.length ∧ iv = .int .i64 i ∧ av = .int .i64 (Wo.pos ((Wo.bytesOf L).take i)) ∧ Below w3.heap.size w3 wr) (fun _ i _ => L.length - (intOf i).toNat)
        case atStart => exact ⟨0, Nat.zero_le _, rfl, rfl, ((Below.refl _ _).alloc (Nat.le_refl _) _).alloc (by simp) _⟩
        case round =>
          obtain ⟨i, hil, rfl, rfl, hbq⟩ := hrel
          have HBQ := Lib.hid hbq
          clear hbq
          by_cases hi2 : i < L.length
          · obtain ⟨g, rfl, hg⟩ : ∃ g, ba = some (⟨g, 0, none⟩ : Addr) ∧ g < wo.heap.size := by
              rcases HBA.out with h | h
              · omega
              · exact h
            have agn := Wo.again L HG.out HTL.out i hi2
            have c2 := fun w' hw => next_any T (Wo.pos ((Wo.bytesOf L).take i)) w' hw (by unfold maxLen; omega)
            rw [HT.out, agn] at c2
            unfold NextPost wordV at c2
            simp only at c2
            have hcl : ∀ c u, c < 6 → (wcells L[i].1)[c]? = some u → wr.cell? ⟨g, 6 * i + c, none⟩ = some u := fun c u hc hu => by
              have h1 := HO3.out.cells (g := g) rfl (6 * i + c) u (by rw [lcells_at L i c hi2 hc]; exact hu)
              rw [addPl, Nat.zero_add] at h1
              rw [HBQ.out.cell (p := ⟨g, 6 * i + c, none⟩) (Nat.lt_of_lt_of_le hg HZ3.out)]; exact h1
            generalize L[i].1 = p at c2 hcl
            have hc0 := hcl 0 _ (by omega) rfl
            have hc1 := hcl 1 _ (by omega) rfl
            have hc2 := hcl 2 _ (by omega) rfl
            unfold bsOf at hc1
            have C2 := Lib.hid c2
            clear c2 agn hcl
            generalize hp1 : Wo.pos (List.take (i + 1) (Wo.bytesOf L)) = p1 at C2
            have HP1 := Lib.hid hp1
            clear hp1
            have HWR3 := Lib.hid (HW3.out.below HBQ.out (Nat.le_refl _))
            go_wp2_with fail
            with_reducible refine (C2.out _ HWR3.out).mono ?_
            rintro e w5 ⟨rfl, hb5⟩
            have HB5 := Lib.hid (HBQ.out.trans (hb5.mono HBQ.out.size))
            have hg3 : g < wr.heap.size := Nat.lt_of_lt_of_le (Nat.lt_of_lt_of_le hg HZ3.out) HBQ.out.size
            have hg5 : g < w5.heap.size := Nat.lt_of_lt_of_le hg3 hb5.size
            rw [← hb5.cell (p := ⟨g, 6 * i + 0, none⟩) hg3] at hc0
            rw [← hb5.cell (p := ⟨g, 6 * i + 1, none⟩) hg3] at hc1
            rw [← hb5.cell (p := ⟨g, 6 * i + 2, none⟩) hg3] at hc2
            rw [show 6 * i + 0 = i * 6 by omega] at hc0
            rw [show 6 * i + 1 = i * 6 + 1 by omega] at hc1
            rw [show 6 * i + 2 = i * 6 + 2 by omega] at hc2
            clear hb5
            have hL1 : L.length ≤ 1000 := by have := HLK.out; omega
            have i1 : IntKind.i64.wrap ((i : Int) + 1) = (i : Int) + 1 := IntWalk.i64_in _ (by omega)
            have i2 : (i : Int) < (L.length : Int) := by omega
            have i3 : (0 : Int) ≤ (i : Int) := by omega
            have i4 : ((p.kind : Int) != (p.kind : Int)) = false := by simp
            have i5 : ((p.n : Int) != (p.n : Int)) = false := by simp
            have i6 : ((i : Int) + 1 != (i : Int) + 1) = false := by simp
            go_wp2_with fail
            go_quiet (fail)
            go_wp2_with fail
            go_roundw
            case rel => exact ⟨i + 1, by omega, by go_num, by rw [HP1.out], belowN ((HB5.out.alloc HB5.out.size _).alloc (by have := HB5.out.size; simp; omega) _) nq⟩
            case measure => simp [intOf]; omega
          · obtain rfl : i = L.length := by omega
            have hstop := Wo.next_stop (Wo.bytesOf L) HTL.out
            have htk : (Wo.bytesOf L).take L.length = Wo.bytesOf L := List.take_of_length_le (by unfold Wo.bytesOf; rw [List.length_map]; exact Nat.le_refl _)
            have c2 := fun w' hw => next_any T (Wo.pos ((Wo.bytesOf L).take L.length)) w' hw (by unfold maxLen; omega)
            rw [HT.out] at c2
            rw [← htk] at hstop
            have c2' := c2
            clear c2
            rw [show Wo.nextL (Wo.flat (Wo.bytesOf L)) = Wo.nextL (Wo.flat ((Wo.bytesOf L).take L.length)) by rw [htk]] at c2'
            generalize Wo.nextL (Wo.flat ((Wo.bytesOf L).take L.length)) (Wo.pos ((Wo.bytesOf L).take L.length)) = r2 at c2' hstop
            obtain ⟨kd2, ts2, nn2, ln2, ax2, en2, er2, fl2⟩ := r2
            simp only at hstop
            obtain ⟨rfl, rfl⟩ := hstop
            unfold NextPost wordV at c2'
            simp only at c2'
            have C2 := Lib.hid c2'
            clear c2' htk
            have HWR3 := Lib.hid (HW3.out.below HBQ.out (Nat.le_refl _))
            go_wp2_with fail
            with_reducible refine (C2.out _ HWR3.out).mono ?_
            rintro e w5 ⟨rfl, hb5⟩
            have hB5 := (HB3.out.trans (HBQ.out.mono HB3.out.size)).trans (hb5.mono (Nat.le_trans HB3.out.size HBQ.out.size))
            have hy1 : ∀ o, w5.cell? ⟨w2.heap.size + 1, o, none⟩ = #[Value.int .i64 0, .int .i64 0][o]? := fun o => by rw [hB5.cell (p := ⟨w2.heap.size + 1, o, none⟩) HX3.out]; exact HX1.out o
            have hy2 : ∀ o, w5.frozen? ⟨w2.heap.size + 1, o, none⟩ = false := fun o => by rw [hB5.frozen (p := ⟨w2.heap.size + 1, o, none⟩) HX3.out]; exact HX2.out o
            have hy3 : w2.heap.size + 1 < w5.heap.size := Nat.lt_of_lt_of_le HX3.out hB5.size
            have HB5 := Lib.hid (HB0.out.trans (hB5.mono HB0.out.size))
            clear hB5
            have HW5 := Lib.hid (HWR3.out.below hb5 (Nat.le_refl _))
            clear hb5
            go_wp2_with fail
            have HB7 := Lib.hid (((HB5.out.setCell (p := ⟨w2.heap.size + 1, 0, none⟩) (Nat.le_succ_of_le HS2.out) (.int .i64 0)).setCell (p := ⟨w2.heap.size + 1, 1, none⟩) (Nat.le_succ_of_le HS2.out) (.int .i64 fl2)).alloc (by have := HB5.out.size; simp; omega) (.cells #[.int .u8 6, .string ⟨ts2.toArray⟩, .int .i64 nn2, .int .i64 ln2, .int .i64 ax2, .int .i64 en2] 24))
            with_reducible refine (awake_any _ ?_).mono ?_
            · exact HW.out.below HB7.out (Nat.le_refl _)
            rintro e w6 ⟨rfl, hb6⟩
            have HB6 := Lib.hid (HB7.out.trans (hb6.mono HB7.out.size))
            clear hb6
            go_wp2
            go_ret
            exact ⟨rfl, HB6.out⟩
end Go.Proofs.YthbdnbeiafpkcaaDoor
