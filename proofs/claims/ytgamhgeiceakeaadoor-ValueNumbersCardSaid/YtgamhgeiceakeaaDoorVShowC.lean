/- value.shown, Show, by contract. -/
import Derived.Test.YtgamhgeiceakeaaDoorVShowB
set_option linter.unusedVariables false
set_option linter.unusedSimpArgs false
namespace Go.Proofs.YtgamhgeiceakeaaDoor
open Go.RowKit
open Va (V)
def ShP (v : V) : Prop := ∀ (ok : Nat → Prop) (x : Value) (w : World) (h : RV ok w v x) (ht : Tab w) (lv : Nat) (hr : Va.okV v lv = true) (hc : Va.cnt v ≤ 256), Calls Tryd.prog 35 #[x] w (SB (Va.txt v) w)
theorem bcat (a b : List UInt8) : (⟨a.toArray⟩ : ByteArray) ++ ⟨b.toArray⟩ = ⟨(a ++ b).toArray⟩ := by
  apply Va.ba_ext; rw [ByteArray.data_append, Array.toList_append]
set_option maxHeartbeats 1600000 in
set_option maxRecDepth 100000 in
theorem shown_any : ∀ v, ShP v := V.ind fun k n s l ih => by
  intro ok x w h ht lv hr hcn
  have hwf := rv_wf h
  have hlenT := Va.txt_len _ lv hr hwf
  obtain ⟨ba, cap, rfl, hk, hn, hs, hL⟩ := h.inv
  have hlen : l.length ≤ 9223372036854775807 := by have h1 := hL.le; have h2 := hL.max; simp only [maxLen] at h2; omega
  have hlc := hL.le
  have HL := Lib.hid hL
  have HN := Lib.hid hn
  have HWF := Lib.hid hwf
  have HRI := Lib.hid hr
  have hE : ∃ R, Va.txt (.mk k n s l) = R := ⟨_, rfl⟩
  obtain ⟨R, hR⟩ := hE
  rw [hR] at hlenT ⊢
  have HE := Lib.hid (hR.symm.trans (show Va.txt (.mk k n s l) = if k = 2 then Va.bt (n == 1) else if k = 3 then Va.qt s.data.toList else if k = 5 then 64 :: Lib.itoa n else if k = 4 then Va.tup (Va.txtL l) else Lib.itoa n from rfl))
  have hB1 : Below w.heap.size w (w.alloc (.cells #[.int .u8 k, .int .i64 n, .string s, .slice ba l.length cap] 25)) := (Below.refl _ _).alloc (Nat.le_refl _) _
  have HT := Lib.hid (ht.past hB1)
  have HTW := Lib.hid ht
  have HB1 := Lib.hid hB1
  clear h hL hn hs hr hwf hR hB1 ht
  by_cases k2 : k = 2
  · subst k2
    have C := fmtBool_any (n == 1) (w.alloc (.cells #[.int .u8 (2 : Nat), .int .i64 n, .string s, .slice ba l.length cap] 25))
    rw [show ((2 : Nat) : Int) = 2 from rfl] at C ⊢
    go_enter Tryd.func35, Tryd.ntmps35
    go_wp2_with fail
    refine (C).mono ?_
    rintro e w1 ⟨rfl, hb⟩
    have HB := Lib.hid (HB1.out.trans (hb.mono HB1.out.size))
    clear hb
    go_wp2
    go_ret
    exact ⟨by rw [HE.out]; rfl, HB.out⟩
  by_cases k3 : k = 3
  · subst k3
    have hri := HRI.out
    unfold Va.okV at hri
    simp only [Nat.reduceEqDiff, if_false, if_true, Bool.and_eq_true, beq_iff_eq, decide_eq_true_eq] at hri
    have hs4 : s.size ≤ 1048576 := by have := hri.2.2; omega
    clear hri
    have C := quoted_any s (w.alloc (.cells #[.int .u8 (3 : Nat), .int .i64 n, .string s, .slice ba l.length cap] 25)) hs4
    rw [show ((3 : Nat) : Int) = 3 from rfl] at C ⊢
    go_enter Tryd.func35, Tryd.ntmps35
    go_wp2_with fail
    refine (C).mono ?_
    rintro e w1 ⟨rfl, hb⟩
    have HB := Lib.hid (HB1.out.trans (hb.mono HB1.out.size))
    clear hb
    go_wp2
    go_ret
    exact ⟨by rw [HE.out]; rfl, HB.out⟩
  by_cases k5 : k = 5
  · subst k5
    have C := fmtInt_any n HN.out (w.alloc (.cells #[.int .u8 (5 : Nat), .int .i64 n, .string s, .slice ba l.length cap] 25)) HT.out
    rw [show ((5 : Nat) : Int) = 5 from rfl] at C ⊢
    have hI := Va.itoa_le n HN.out
    generalize Lib.itoa n = D at C hI HE
    go_enter Tryd.func35, Tryd.ntmps35
    go_wp2_with fail
    refine (C).mono ?_
    rintro e w1 ⟨rfl, hb⟩
    have HB := Lib.hid (HB1.out.trans (hb.mono HB1.out.size))
    clear hb
    go_wp2
    go_ret
    exact ⟨by rw [HE.out]; exact congrArg (fun t => Ending.returned (Value.string t)) (bcat [64] D), HB.out⟩
  by_cases k4 : k = 4
  case neg =>
    have z2 : ((k : Int) == 2) = false := bneI (by omega)
    have z3 : ((k : Int) == 3) = false := bneI (by omega)
    have z4 : ((k : Int) == 4) = false := bneI (by omega)
    have z5 : ((k : Int) == 5) = false := bneI (by omega)
    have C := fmtInt_any n HN.out (w.alloc (.cells #[.int .u8 k, .int .i64 n, .string s, .slice ba l.length cap] 25)) HT.out
    have HE2 := Lib.hid (HE.out.trans (by rw [if_neg k2, if_neg k3, if_neg k5, if_neg k4]))
    go_enter Tryd.func35, Tryd.ntmps35
    go_wp2_with fail
    refine (C).mono ?_
    rintro e w1 ⟨rfl, hb⟩
    have HB := Lib.hid (HB1.out.trans (hb.mono HB1.out.size))
    clear hb
    go_wp2
    go_ret
    exact ⟨by rw [HE2.out]; rfl, HB.out⟩
  subst k4
  have hri := HRI.out
  unfold Va.okV at hri
  simp only [Nat.reduceEqDiff, if_false, if_true, Bool.and_eq_true, beq_iff_eq, decide_eq_true_eq] at hri
  have HOKL := Lib.hid hri.2.2
  clear hri
  have hcl : Va.cntL l ≤ 255 := by unfold Va.cnt at hcn; omega
  have hll : l.length ≤ 255 := Nat.le_trans (Va.cntL_len l) hcl
  have HET := Lib.hid (show R = Va.tup (Va.txtL l) from HE.out)
  clear HE
  clear hlenT
  rw [show ((4 : Nat) : Int) = 4 from rfl]
  go_enter Tryd.func35, Tryd.ntmps35
  go_wp2
  go_loopw [3, 5, 30] (fun lv _ iv wr => ∃ i : Nat, i ≤ l.length ∧ iv = .int .i64 i ∧ wr.ownsRow (w.heap.size + 1) 9 1 lv i (strs ((Va.txtL l).take i)) ∧ Below w.heap.size w wr ∧ w.heap.size + 1 ≤ wr.heap.size) (fun _ _ iv _ => l.length - (intOf iv).toNat)
  case atStart => exact ⟨0, by omega, rfl, World.ownsRow_nil _ _ _ _, HB1.out, by simp⟩
  case round =>
    obtain ⟨i, hi, rfl, ho, hB, hsz⟩ := hrel
    have HO := Lib.hid ho
    have HB := Lib.hid hB
    clear ho hB
    by_cases hlt : i < l.length
    · obtain ⟨bb, o, x, hba, hok, h4, hrv⟩ := HL.out.at_ i hlt
      have h4' := h4.kept HB.out.size (HB.out.block bb h4.lt)
      have hti : (Va.txtL l).take (i + 1) = (Va.txtL l).take i ++ [Va.txt l[i]] := by
        rw [Va.txtL_map, List.take_succ_eq_append_getElem (by simpa using hlt)]; simp
      have hok2 : Va.okV l[i] (lv - 1) = true := (Va.okL_iff l (lv - 1)).1 HOKL.out _ (List.getElem_mem hlt)
      have hc2 : Va.cnt l[i] ≤ 256 := by
        have h1 : l = l.take i ++ l[i] :: l.drop (i + 1) := by rw [← List.drop_eq_getElem_cons hlt, List.take_append_drop]
        have h2 := congrArg Va.cntL h1
        rw [Va.cntL_app] at h2
        have h3 : Va.cntL (l[i] :: l.drop (i + 1)) = Va.cnt l[i] + Va.cntL (l.drop (i + 1)) := rfl
        omega
      have C0 := ih l[i] (List.getElem_mem hlt) ok x
      have hrvw := hrv.past HB.out
      generalize l[i] = y at hrv hrvw C0 hok2 hc2 hti
      obtain ⟨k2, n2, s2, l2⟩ := y
      obtain ⟨ba2, cap2, rfl, -, -, -, hL2⟩ := hrv.inv
      obtain ⟨hlt4, a1, a2, a3, a4, hx4, e1, e2, e3, e4⟩ := h4'
      cases hx4
      have hca2 := hL2.le
      subst hba
      have hj0 : (0 : Int) ≤ (i : Int) := by omega
      have hj1 : (i : Int) < (l.length : Int) := by omega
      have hal2 : Below wr.heap.size wr (wr.alloc (.cells #[.int .u8 k2, .int .i64 n2, .string s2, .slice ba2 l2.length cap2] 25)) := (Below.refl _ _).alloc (Nat.le_refl _) _
      have HAL2 := Lib.hid hal2
      have C := Lib.hid (C0 _ (hrvw.past hal2) ((HTW.out.past HB.out).past hal2) (lv - 1) hok2 hc2)
      have HTI := Lib.hid hti
      clear h4 hal2 hrv hrvw C0 hL2 hok2 hc2 hti
      go_wp2_with fail
      refine (C.out).mono ?_
      rintro e w5 ⟨rfl, hb5⟩
      obtain ⟨D, hD⟩ : ∃ D, Va.txt (.mk k2 n2 s2 l2) = D := ⟨_, rfl⟩
      have HB5 := Lib.hid ((HAL2.out).trans (hb5.mono HAL2.out.size))
      have ho5 := row_below HO.out HB5.out
      have hsz5 : w.heap.size + 1 ≤ w5.heap.size := Nat.le_trans hsz HB5.out.size
      have htl : ((Va.txtL l).take i).length = i := by rw [List.length_take, Va.txtL_map, List.length_map]; omega
      obtain ⟨L0, hL0⟩ : ∃ L0, (Va.txtL l).take i = L0 := ⟨_, rfl⟩
      have hti2 := HTI.out
      rw [hD, hL0] at hti2
      rw [hL0] at htl ho5
      rw [hD]
      have HTI2 := Lib.hid hti2
      have HO5 := Lib.hid (show w5.ownsRow (w.heap.size + 1) 9 1 _ L0.length _ by rw [htl]; exact ho5)
      have HTL := Lib.hid htl
      have hl0 : L0.length ≤ 2199023255552 := by omega
      clear hb5 hD hti2 ho5 HTI C htl hL0
      go_wp2_with (at_builtin; refine wp_str _ rfl _ _ rfl (w.heap.size + 1) _ _ rfl HO5.out D rfl hl0 hsz5 ?_)
      intro v6 w6 hown6 hg6
      have hown7 : w6.ownsRow (w.heap.size + 1) 9 1 v6 (i + 1) (strs ((Va.txtL l).take (i + 1))) := by
        rw [HTI2.out, ← HTL.out]; exact hown6
      have HO6 := Lib.hid hown7
      have HB6 := Lib.hid (Gw.less (HB.out.trans (HB5.out.mono HB.out.size)) hg6 (by omega) (fun i hi => by have := (HO.out.lt i hi).1; omega))
      have hs6 : w.heap.size + 1 ≤ w6.heap.size := Nat.le_trans hsz5 hg6.grown.size
      clear hown6 hown7 hg6
      go_wp2
      go_roundw
      case rel => exact ⟨i + 1, by omega, by go_num, HO6.out, HB6.out, hs6⟩
      case measure => simp [intOf]; omega
    · obtain rfl : i = l.length := by omega
      have htl : (Va.txtL l).length = l.length := by rw [Va.txtL_map, List.length_map]
      have htk : (Va.txtL l).take l.length = Va.txtL l := List.take_of_length_le (by omega)
      have hoe := HO.out
      rw [htk] at hoe
      have hwf := HWF.out
      unfold Va.wf at hwf
      have hfl := HOKL.out
      have htot : ∀ l : List V, Va.okL l (lv - 1) = true → Va.wfL l → (Va.txtL l).flatten.length + 4 * l.length ≤ Va.cntL l * 16384 := by
        intro l
        induction l with
        | nil => intro _ _; simp [Va.txtL]
        | cons v l ih2 =>
          intro h hw
          unfold Va.okL at h
          unfold Va.wfL at hw
          rw [Bool.and_eq_true] at h
          have h1 := Va.txt_len v (lv - 1) h.1 hw.1
          have h2 := ih2 h.2 hw.2
          rw [show Va.txtL (v :: l) = Va.txt v :: Va.txtL l from rfl, show Va.cntL (v :: l) = Va.cnt v + Va.cntL l from rfl, List.flatten_cons, List.length_append, Nat.add_mul, List.length_cons]
          omega
      have hft := htot l hfl hwf.2.2
      have hjl := Va.join_le (Va.txtL l)
      clear hwf hfl htot htk ih HOKL HWF HRI HTW HT HL
      generalize Va.txtL l = ps at hoe htl hft hjl HET
      by_cases h1 : l.length = 1
      · rw [h1] at hoe htl
        obtain ⟨p, rfl⟩ := List.length_eq_one_iff.1 htl
        rcases hoe.2 with ⟨_, h0⟩ | ⟨g, cp, cur, rfl, hb, hg, hcp, _⟩
        · omega
        have hcg := hoe.cells (g := g) rfl 0 _ (show (strs [p])[0]? = some (Value.string ⟨p.toArray⟩) from rfl)
        rw [addPl] at hcg
        have hglt : g < wr.heap.size := (Array.getElem?_eq_some_iff.1 hg).1
        have hps : p.length ≤ 4194304 := by simp only [List.flatten_cons, List.flatten_nil, List.append_nil] at hft; omega
        have HR := Lib.hid HET.out
        have HH1 := Lib.hid h1
        clear hoe hg HO hft hjl HET
        go_wp2
        go_ret
        exact ⟨by rw [HR.out]; exact congrArg (fun t => Ending.returned (Value.string t)) (by rw [bcat [40] p, bcat _ [44, 41]]; simp [Va.tup]), HB.out⟩
      · have q1 : ((l.length : Int) == 1) = false := bneI (by omega)
        have ho2 : wr.ownsRow (w.heap.size + 1) 9 1 u3 ps.length (strs ps) := by rw [htl]; exact hoe
        obtain ⟨a, c, rfl, CJ⟩ := join_any (w.heap.size + 1) _ ps wr ho2 (by omega) (by omega)
        have hps : (Lib.join ps [44, 32]).length ≤ 8388608 := by omega
        have HR := Lib.hid (show R = 40 :: (Lib.join ps [44, 32] ++ [41]) by rw [HET.out]; unfold Va.tup; rw [if_neg (by omega)])
        have q2 : ((ps.length : Int) == 1) = false := bneI (by omega)
        have HTLL := Lib.hid htl
        clear hoe ho2 HO hft hjl HET h1 htl
        generalize Lib.join ps [44, 32] = J at CJ hps HR
        have C2 := Lib.hid CJ
        clear CJ
        go_wp2_with fail
        with_reducible refine (C2.out).mono ?_
        rintro e w5 ⟨rfl, hb⟩
        have HB2 := Lib.hid (HB.out.trans (hb.mono HB.out.size))
        clear hb
        go_wp2
        go_ret
        exact ⟨by rw [HR.out]; exact congrArg (fun t => Ending.returned (Value.string t)) (by rw [bcat [40] J, bcat _ [41]]; simp), HB2.out⟩
def shownPost (v : V) : List UInt8 := if Va.right v then Va.txt v else [63]
set_option maxHeartbeats 1600000 in
set_option maxRecDepth 100000 in
theorem Show_any (v : V) (ok : Nat → Prop) (x : Value) (w : World) (h : RV ok w v x) (ht : Tab w) : Calls Tryd.prog 18 #[x] w (SB (shownPost v) w) := by
  obtain ⟨k, n, s, l⟩ := v
  obtain ⟨ba, cap, rfl, -, -, -, hL⟩ := h.inv
  have hlc := hL.le
  clear hL
  have hB1 : Below w.heap.size w (w.alloc (.cells #[.int .u8 k, .int .i64 n, .string s, .slice ba l.length cap] 25)) := (Below.refl _ _).alloc (Nat.le_refl _) _
  have C := Lib.hid (right_any ok _ _ _ (h.past hB1))
  have HF := Lib.hid (Blk.new w #[.int .u8 k, .int .i64 n, .string s, .slice ba l.length cap] 25)
  have HS := Lib.hid (fun W (hb : Below w.heap.size w W) (hr : Va.right (.mk k n s l) = true) => by
    unfold Va.right at hr
    rw [Bool.and_eq_true, decide_eq_true_eq] at hr
    exact shown_any _ ok _ W (h.past hb) (ht.past hb) 16 hr.1 hr.2)
  have HB1 := Lib.hid hB1
  clear hB1 h ht
  generalize hv : V.mk k n s l = v at C HS ⊢
  clear hv
  unfold shownPost
  cases hr : Va.right v with
  | true =>
    rw [hr] at C
    have HR := Lib.hid hr
    clear hr
    rw [if_pos rfl]
    go_enter Tryd.func18, Tryd.ntmps18
    go_wp2_with fail
    with_reducible refine (C.out).mono ?_
    rintro e w1 ⟨rfl, hb⟩
    have F1 := HF.out.below hb
    have e0 := F1.cell 0
    have e1 := F1.cell 1
    have e2 := F1.cell 2
    have e3 := F1.cell 3
    have hlt := F1.lt
    have HB2 := Lib.hid (HB1.out.trans (hb.mono HB1.out.size))
    have C2 := Lib.hid (HS.out w1 HB2.out HR.out)
    clear hb F1 C
    go_wp2_with fail
    with_reducible refine (C2.out).mono ?_
    rintro e w2 ⟨rfl, hb⟩
    have HB3 := Lib.hid (HB2.out.trans (hb.mono HB2.out.size))
    clear hb
    go_wp2
    go_ret
    exact ⟨rfl, HB3.out⟩
  | false =>
    rw [hr] at C
    clear hr
    rw [if_neg (by decide)]
    go_enter Tryd.func18, Tryd.ntmps18
    go_wp2_with fail
    with_reducible refine (C.out).mono ?_
    rintro e w1 ⟨rfl, hb⟩
    have HB2 := Lib.hid (HB1.out.trans (hb.mono HB1.out.size))
    clear hb
    go_wp2
    go_ret
    exact ⟨rfl, HB2.out⟩
end Go.Proofs.YtgamhgeiceakeaaDoor
