/- ValueTuples, the walk where all is looked at. -/
import Derived.Test.YtgamhgeiceakeaaDoorVTuples
import Derived.Deep.DeepCutAuto
set_option linter.unusedVariables false
set_option linter.unusedSimpArgs false
namespace Go.Proofs.YtgamhgeiceakeaaDoor
open Go.RowKit
open Va (V)
theorem Ow.two (w : World) (c d : UInt8) (v u : Int) (hv : v = (c.toNat : Nat)) (hu : u = (d.toNat : Nat)) : Ow (w.alloc (.cells #[.int .u8 v, .int .u8 u] 5)) w.heap.size (.slice (some ⟨w.heap.size, 0, none⟩) 2 2) [c, d] := by
  subst hv; subst hu
  exact ⟨rfl, Or.inr ⟨w.heap.size, 2, #[.int .u8 (c.toNat : Nat), .int .u8 (d.toNat : Nat)], rfl, Nat.le_refl _, heap_alloc_new _ _, Nat.le_refl _, by simp [maxLen], rfl, rfl⟩⟩
theorem app_toList (s t : ByteArray) : (s ++ t).data.toList = s.data.toList ++ t.data.toList := by rw [ByteArray.data_append, Array.toList_append]
theorem Ow.rd1 {w : World} {B n cap : Nat} {ba : Option Addr} {l : List UInt8} (h : Ow w B (.slice ba n cap) l) : Rd w ba l := by
  obtain ⟨ba', cap', e, h1, _, _⟩ := h.rd
  cases e; exact h1
set_option maxHeartbeats 6400000 in
set_option maxRecDepth 100000 in
theorem tuples_yes (l m : List V) (ok ok' : Nat → Prop) (ba bb : Option Addr) (cap cb : Nat) (w : World) (hl : RL ok w l ba cap) (hm : RL ok' w m bb cb) (ht : Tab w)
    (h1 : l.length ≤ 10) (h2 : m.length ≤ 10) (h3 : (Va.smallV (.mk 4 0 Va.em l) 20 60 && Va.right (.mk 4 0 Va.em l)) = true) (h4 : (Va.smallV (.mk 4 0 Va.em m) 20 60 && Va.right (.mk 4 0 Va.em m)) = true) :
    Calls Tryd.prog 4 #[.slice ba l.length cap, .slice bb m.length cb] w (BB true w) := by
  have hra : Va.right (.mk 4 0 Va.em l) = true := by rw [Bool.and_eq_true] at h3; exact h3.2
  have hrb : Va.right (.mk 4 0 Va.em m) = true := by rw [Bool.and_eq_true] at h4; exact h4.2
  have hwf : Va.wf (.mk 4 0 Va.em l) := rv_wf (rv_tup hl)
  have CA := Lib.hid (fun W (hbl : Below w.heap.size w W) => right02_any (.mk 4 0 Va.em l) ok _ W (rv_tup (hl.past hbl)) _ h3)
  have CB := Lib.hid (fun W (hbl : Below w.heap.size w W) => right02_any (.mk 4 0 Va.em m) ok' _ W (rv_tup (hm.past hbl)) _ h4)
  have CW := Lib.hid (fun W (hbl : Below w.heap.size w W) => awake_any W (ht.past hbl))
  have CP := Lib.hid (fun W (hbl : Below w.heap.size w W) => put_yes (.mk 4 0 Va.em l) ok _ W (rv_tup (hl.past hbl)) hra)
  have CS := Lib.hid (fun W (hbl : Below w.heap.size w W) s hs => Show_lit (.mk 4 0 Va.em l) ok _ W s hs (rv_tup (hl.past hbl)) (ht.past hbl))
  have CC := Lib.hid (fun W (hbl : Below w.heap.size w W) n hn => Cmp_lit (.mk 4 0 Va.em l) (.mk 4 0 Va.em m) ok ok' _ _ W n hn (rv_tup (hl.past hbl)) (rv_tup (hm.past hbl)))
  have HL := Lib.hid hl
  have HM := Lib.hid hm
  have HT := Lib.hid ht
  have HRA := Lib.hid hra
  have HRB := Lib.hid hrb
  have HWF := Lib.hid hwf
  have HPL := Lib.hid (fun i => Va.pre_len l hra hwf i)
  have hbyte : (l.length : Int) = ((UInt8.ofNat l.length).toNat : Nat) := by rw [UInt8.toNat_ofNat']; omega
  have HBY := Lib.hid hbyte
  clear hra hrb hwf h3 h4 hbyte
  have hlc := hl.le
  have hmc := hm.le
  have hlen : l.length ≤ 9223372036854775807 := by have h1 := hl.le; have h2 := hl.max; simp only [maxLen] at h2; omega
  have hlen2 : m.length ≤ 9223372036854775807 := by have h1 := hm.le; have h2 := hm.max; simp only [maxLen] at h2; omega
  have hw1 : w.heap.size < w.heap.size + 1 + 1 := by omega
  have F := (Blk.new w #[.int .u8 4, .int .i64 0, .string ⟨#[]⟩, .slice ba l.length cap] 25).below ((Below.refl _ _).alloc (Nat.le_refl _) (.cells #[.int .u8 4, .int .i64 0, .string ⟨#[]⟩, .slice bb m.length cb] 25))
  have F' := Blk.new (w.alloc (.cells #[.int .u8 4, .int .i64 0, .string ⟨#[]⟩, .slice ba l.length cap] 25)) #[.int .u8 4, .int .i64 0, .string ⟨#[]⟩, .slice bb m.length cb] 25
  rw [show (w.alloc (.cells #[.int .u8 4, .int .i64 0, .string ⟨#[]⟩, .slice ba l.length cap] 25)).heap.size = w.heap.size + 1 by simp] at F'
  have HK0 := Lib.hid (⟨bbox (bbox (Below.refl _ _) _) _, F, F'⟩ : Kp2 w w.heap.size (w.heap.size + 1) _ _ _)
  clear F F'
  have e0 := HK0.out.fa.cell 0
  have e1 := HK0.out.fa.cell 1
  have e2 := HK0.out.fa.cell 2
  have e3 := HK0.out.fa.cell 3
  have elt := HK0.out.fa.lt
  have d0 := HK0.out.fb.cell 0
  have d1 := HK0.out.fb.cell 1
  have d2 := HK0.out.fb.cell 2
  have d3 := HK0.out.fb.cell 3
  have dlt := HK0.out.fb.lt
  clear hl hm ht
  go_enter Tryd.func4, Tryd.ntmps4
  go_wp2_with fail
  with_reducible refine (CA.out _ HK0.out.bl).mono ?_
  rintro e w1 ⟨rfl, hb⟩
  have HKw1 := Lib.hid ((HK0.out).past hb)
  clear e0 e1 e2 e3 elt d0 d1 d2 d3 dlt
  have e0 := HKw1.out.fa.cell 0
  have e1 := HKw1.out.fa.cell 1
  have e2 := HKw1.out.fa.cell 2
  have e3 := HKw1.out.fa.cell 3
  have elt := HKw1.out.fa.lt
  have d0 := HKw1.out.fb.cell 0
  have d1 := HKw1.out.fb.cell 1
  have d2 := HKw1.out.fb.cell 2
  have d3 := HKw1.out.fb.cell 3
  have dlt := HKw1.out.fb.lt
  clear hb
  go_wp2_with fail
  with_reducible refine (CB.out _ HKw1.out.bl).mono ?_
  rintro e w2 ⟨rfl, hb⟩
  have HKw2 := Lib.hid ((HKw1.out).past hb)
  clear e0 e1 e2 e3 elt d0 d1 d2 d3 dlt
  have e0 := HKw2.out.fa.cell 0
  have e1 := HKw2.out.fa.cell 1
  have e2 := HKw2.out.fa.cell 2
  have e3 := HKw2.out.fa.cell 3
  have elt := HKw2.out.fa.lt
  have d0 := HKw2.out.fb.cell 0
  have d1 := HKw2.out.fb.cell 1
  have d2 := HKw2.out.fb.cell 2
  have d3 := HKw2.out.fb.cell 3
  have dlt := HKw2.out.fb.lt
  clear hb
  clear CA CB HK0 HKw1
  go_upto_region 5 with (fail)
  have HO3 := Lib.hid ((Ow.two w2 4 (UInt8.ofNat l.length) 4 l.length rfl HBY.out).mono HKw2.out.bl.size)
  have HK3 := Lib.hid (HKw2.out.more (.cells #[.int .u8 4, .int .u8 l.length] 5))
  clear e0 e1 e2 e3 elt d0 d1 d2 d3 dlt HKw2
  go_wp2_with fail
  go_loopw [7, 8, 9, 10, 11] (fun vv tv iv _ _ wr => ∃ (i : Nat) (T : ByteArray), i ≤ l.length ∧ iv = .int .i64 i ∧ tv = .string T ∧ T.data.toList = Va.pre l i ∧ Ow wr w.heap.size vv ([4, UInt8.ofNat l.length] ++ Va.encL (l.take i)) ∧ Kp2 w w.heap.size (w.heap.size + 1) #[.int .u8 4, .int .i64 0, .string ⟨#[]⟩, .slice ba l.length cap] #[.int .u8 4, .int .i64 0, .string ⟨#[]⟩, .slice bb m.length cb] wr) (fun _ _ iv _ _ _ => l.length - (intOf iv).toNat)
  case atStart => exact ⟨0, ⟨#[40]⟩, by omega, rfl, rfl, rfl, HO3.out, HK3.out⟩
  case round =>
    obtain ⟨i, T, hi, rfl, rfl, hT, hO, hK⟩ := hrel
    have HT1 := Lib.hid hT
    have HO := Lib.hid hO
    have HK := Lib.hid hK
    have hTs : T.size ≤ 8388608 := by
      have h1 := HPL.out i
      rw [← hT] at h1
      exact h1
    clear hT hO hK
    by_cases hlt : i < l.length
    · obtain ⟨hpr, hpo⟩ := Va.part_right l HRA.out i hlt
      obtain ⟨b0, o, x, hba, hok, h4w, hrv⟩ := HL.out.at_ i hlt
      have h4 := h4w.kept HK.out.bl.size (HK.out.bl.block b0 h4w.lt)
      have hwfi : Va.wf l[i] := rv_wf hrv
      have htxl : (Va.txt l[i]).length ≤ 4194304 := by
        have h5 := Va.txt_len l[i] 15 hpo hwfi
        have h6 := hpr
        unfold Va.right at h6; rw [Bool.and_eq_true, decide_eq_true_eq] at h6
        omega
      have hel : (Va.enc l[i]).length ≤ 2097152 := by
        have h6 := hpr
        unfold Va.right at h6; rw [Bool.and_eq_true, decide_eq_true_eq] at h6
        have := enc_len l[i] 16 h6.1; omega
      have hwl : (([4, UInt8.ofNat l.length] : List UInt8) ++ Va.encL (l.take i)).length ≤ 4194304 := by
        have h6 := HRA.out
        unfold Va.right at h6; rw [Bool.and_eq_true, decide_eq_true_eq] at h6
        have h7 := enc_len _ 16 h6.1
        rw [Va.enc_tuple l h1] at h7
        have h8 := congrArg (fun t => (Va.encL t).length) (List.take_append_drop i l)
        simp only [Va.encL_app, List.length_append] at h8
        rw [List.length_append] at h7 ⊢
        omega
      have CPi := Lib.hid (put_yes l[i] ok x wr (hrv.past HK.out.bl) hpr)
      have CSi := Lib.hid (fun W (hb : Below w.heap.size w W) => Show_lit l[i] ok x W ⟨(Va.txt l[i]).toArray⟩ (by show _ = Va.txt l[i]; unfold shownPost; rw [if_pos hpr]) (hrv.past hb) (HT.out.past hb))
      have hpa := Va.pre_at l i hlt
      have hea := Va.encL_at l i hlt
      have hne := enc_ne l[i]
      have HPA := Lib.hid hpa
      have HEA := Lib.hid hea
      generalize Va.txt l[i] = D at CSi HPA htxl
      generalize Va.enc l[i] = E at CPi HEA hel hne
      generalize l[i] = y at hrv
      obtain ⟨k2, n2, s2, l2⟩ := y
      obtain ⟨ba2, cap2, rfl, -, -, -, hL2⟩ := hrv.inv
      have hca2 := hL2.le
      obtain ⟨hlt4, a1, a2, a3, a4, hx4, e1, e2, e3, e4⟩ := h4
      cases hx4
      subst hba
      have hj0 : (0 : Int) ≤ (i : Int) := by omega
      have hj1 : (i : Int) < (l.length : Int) := by omega
      have H4W := Lib.hid h4w
      clear hrv hL2 hpa hea hpr hpo hwfi h4w
      go_wp2_with fail
      with_reducible refine (CPi.out).mono ?_
      rintro e w4 ⟨b4, c4, rfl, hx5, hc4, hb, hfr⟩
      have HK4 := Lib.hid (HK.out.past hb)
      have HO4 := Lib.hid (HO.out.past hb)
      have HX4 := Lib.hid hx5
      have hsz4 : w.heap.size ≤ w4.heap.size := HK4.out.bl.size
      clear hx5 hb hfr CPi HK HO e1 e2 e3 e4 hlt4
      obtain ⟨WL, hWL⟩ : ∃ WL, ([4, UInt8.ofNat l.length] : List UInt8) ++ Va.encL (l.take i) = WL := ⟨_, rfl⟩
      rw [hWL] at hwl
      have HOW := Lib.hid (show Ow w4 w.heap.size u7 WL by rw [← hWL]; exact HO4.out)
      have HWL := Lib.hid hWL
      clear HO4 hWL
      obtain ⟨i0, hi0, hz0, hzi1, hzi2⟩ := info_parts Tryd.info_u8
      go_wp2_with (at_builtin; refine wpList_append_rd _ rfl _ _ 26 rfl w.heap.size 5 i0 (.int .u8 0) 1 1 Tryd.underlying26 hi0 hz0 hzi1 hzi2 rfl (by decide) u7 WL.length (u8s WL) rfl HOW.out (some ⟨b4, 0, none⟩) E.length c4 (u8s E) rfl ?_ (fun e => by cases e) ?_ (u8s_one E) ?_ ?_ hsz4 ?_)
      · rw [u8s_len]; omega
      · intro ad he j u hj
        have hjl : j < E.length := by have := (List.getElem?_eq_some_iff.1 hj).1; rw [u8s_len] at this; exact this
        rcases HX4.out with h | ⟨b, o, e, hlt, hc⟩
        · rw [h] at hjl; simp at hjl
        · rw [he] at e; cases e
          rw [addPl, hc j hjl, ← hj]
          unfold u8s; simp [hjl]
      · unfold maxLen; omega
      · omega
      intro v5 w5 ho5 hg5 _
      have hown5 : Ow w5 w.heap.size v5 (WL ++ E) := by unfold Ow; rw [u8s_app, List.length_append]; exact ho5
      have HO5 := Lib.hid hown5
      have HK5 := Lib.hid (Kp2.row HK4.out HOW.out hg5)
      have hlt5 := H4W.out.kept HK5.out.bl.size (HK5.out.bl.block b0 H4W.out.lt)
      obtain ⟨hlt4, _, _, _, _, hx4, e1, e2, e3, e4⟩ := hlt5
      cases hx4
      clear ho5 hg5 hown5 HX4 HOW HK4 hi0 hz0 hzi1 hzi2
      by_cases hi0 : i = 0
      · have hq0 : ¬ (0 : Int) < (i : Int) := by omega
        have HI0 := Lib.hid hi0
        clear hi0
        go_wp2_with fail
        with_reducible refine (CSi.out _ HK5.out.bl).mono ?_
        rintro e w6 ⟨rfl, hb⟩
        have HK6 := Lib.hid (HK5.out.past hb)
        have HO6 := Lib.hid (HO5.out.past hb)
        clear hb HK5 HO5 CSi e1 e2 e3 e4 hlt4
        go_wp2
        go_roundw
        case rel => exact ⟨i + 1, T ++ ⟨D.toArray⟩, by omega, by go_num, rfl, by rw [app_toList, HT1.out, HPA.out, if_pos HI0.out], by rw [HEA.out, ← List.append_assoc, HWL.out]; exact HO6.out, HK6.out⟩
        case measure => simp [intOf]; omega
      · have hq0 : (0 : Int) < (i : Int) := by omega
        have hts2 : (T ++ (⟨#[44, 32]⟩ : ByteArray)).size ≤ 8388610 := by
          have h1 : (T ++ (⟨#[44, 32]⟩ : ByteArray)).size = T.size + 2 := by rw [ByteArray.size_append]; rfl
          omega
        go_wp2_with fail
        with_reducible refine (CSi.out _ HK5.out.bl).mono ?_
        rintro e w6 ⟨rfl, hb⟩
        have HK6 := Lib.hid (HK5.out.past hb)
        have HO6 := Lib.hid (HO5.out.past hb)
        clear hb HK5 HO5 CSi e1 e2 e3 e4 hlt4
        go_wp2
        go_roundw
        case rel => exact ⟨i + 1, T ++ ⟨#[44, 32]⟩ ++ ⟨D.toArray⟩, by omega, by go_num, rfl, by rw [app_toList, app_toList, HT1.out, HPA.out, if_neg hi0], by rw [HEA.out, ← List.append_assoc, HWL.out]; exact HO6.out, HK6.out⟩
        case measure => simp [intOf]; omega
    · obtain rfl : i = l.length := by omega
      rw [List.take_length] at HO
      obtain ⟨WL, hWL⟩ : ∃ WL, ([4, UInt8.ofNat l.length] : List UInt8) ++ Va.encL l = WL := ⟨_, rfl⟩
      rw [hWL] at HO
      have HWE := Lib.hid (show Va.enc (.mk 4 0 Va.em l) = WL by rw [Va.enc_tuple l h1, hWL])
      clear hWL
      obtain ⟨bw, cw, rfl, -, hwn, -⟩ := HO.out.rd
      have HWN := Lib.hid hwn
      clear hwn
      go_upto_if 75 with (fail)
      go_cut [8] (fun s8 wx => ∃ S : ByteArray, s8 = .string S ∧ S.data.toList = (if l.length = 1 then Va.pre l l.length ++ [44] else Va.pre l l.length) ∧ wr = wx)
      case first =>
        by_cases hl1 : l.length = 1
        · have q1 : ((l.length : Int) == 1) = true := beqI (by omega)
          have HL1 := Lib.hid hl1
          clear hl1
          go_wp2
          go_meet
          exact ⟨T ++ ⟨#[44]⟩, rfl, by rw [app_toList, HT1.out, if_pos HL1.out], rfl⟩
        · have q1 : ((l.length : Int) == 1) = false := bneI (by omega)
          go_wp2
          go_meet
          exact ⟨T, rfl, by rw [HT1.out, if_neg hl1], rfl⟩
      case rest =>
        obtain ⟨S, rfl, hS1, rfl⟩ := hcut
        have HSX := Lib.hid (show shownPost (.mk 4 0 Va.em l) = (S ++ (⟨#[41]⟩ : ByteArray)).data.toList by
          rw [app_toList, hS1]; unfold shownPost; rw [if_pos HRA.out, Va.txt_tuple])
        have hSs : S.size ≤ 8388616 := by
          have h5 := congrArg List.length hS1
          have h6 := HPL.out l.length
          have h7 : S.data.toList.length = S.size := rfl
          rw [h7] at h5
          split at h5
          · rw [List.length_append, List.length_singleton] at h5; omega
          · omega
        clear hS1 hTs HT1 HPL
        have CPw := Lib.hid (show Calls Tryd.prog 12 #[.slice none 0 0, .agg #[.int .u8 4, .int .i64 0, .string ⟨#[]⟩, .slice ba l.length cap]] wr (PyPost WL wr) from by have := CP.out wr HK.out.bl; rw [HWE.out] at this; exact this)
        have e0 := HK.out.fa.cell 0
        have e1 := HK.out.fa.cell 1
        have e2 := HK.out.fa.cell 2
        have e3 := HK.out.fa.cell 3
        have elt := HK.out.fa.lt
        clear CP
        go_wp2_with fail
        with_reducible refine (CPw.out).mono ?_
        rintro e w7 ⟨b7, c7, rfl, hx7, hc7, hb, _⟩
        have HK7 := Lib.hid (HK.out.past hb)
        have HO7 := Lib.hid (HO.out.past hb)
        have HX7 := Lib.hid hx7
        clear hx7 hc7 hb HK HO CPw e0 e1 e2 e3 elt
        go_upto_if 87 with (fail)
        go_cut [14] (fun s14 wx => s14 = .int .i64 (Va.cmpI l.length m.length) ∧ w7 = wx)
        case first =>
          rcases Int.lt_trichotomy (l.length : Int) (m.length : Int) with h | h | h
          · have hc : Va.cmpI (l.length : Int) (m.length : Int) = -1 := by unfold Va.cmpI; rw [if_pos h]
            have HC := Lib.hid hc
            clear hc
            go_wp2
            go_meet
            exact ⟨by rw [HC.out], rfl⟩
          · have hc : Va.cmpI (l.length : Int) (m.length : Int) = 0 := (Va.cmpI_zero _ _).2 h
            have hn1 : ¬ (l.length : Int) < (m.length : Int) := by omega
            have hn2 : ¬ (m.length : Int) < (l.length : Int) := by omega
            have HC := Lib.hid hc
            clear hc h
            go_wp2
            go_meet
            exact ⟨by rw [HC.out], rfl⟩
          · have hc : Va.cmpI (l.length : Int) (m.length : Int) = 1 := by unfold Va.cmpI; rw [if_neg (by omega), if_pos h]
            have hn1 : ¬ (l.length : Int) < (m.length : Int) := by omega
            have HC := Lib.hid hc
            clear hc
            go_wp2
            go_meet
            exact ⟨by rw [HC.out], rfl⟩
        case rest =>
          obtain ⟨rfl, rfl⟩ := hcut
          obtain ⟨R, hR⟩ : ∃ R, Va.cmpV (.mk 4 0 Va.em l) (.mk 4 0 Va.em m) 16 = R := ⟨_, rfl⟩
          have hR2 := Va.cmpV_def 4 0 Va.em l 4 0 Va.em m 16
          rw [hR] at hR2
          have hstart : (Va.cmpI l.length m.length = 0 ∧ l.length = m.length ∧ Va.cmpL (l.drop 0) (m.drop 0) 15 = R) ∨ (Va.cmpI l.length m.length ≠ 0 ∧ Va.cmpI l.length m.length = R) := by
            have hz := Va.cmpI_zero l.length m.length
            by_cases he : l.length = m.length
            · left
              refine ⟨hz.2 (by omega), he, ?_⟩
              rw [hR2]; simp [he]
            · right
              refine ⟨fun h => he (by have := hz.1 h; omega), ?_⟩
              rw [hR2]; simp [he]
          have HR := Lib.hid hR
          have HST := Lib.hid hstart
          clear hR hR2 hstart
          go_wp2_with fail
          go_loopw [14, 15] (fun cv iv W => ∃ (i : Nat) (c : Int), i ≤ l.length ∧ iv = .int .i64 i ∧ cv = .int .i64 c ∧ ((c = 0 ∧ l.length = m.length ∧ Va.cmpL (l.drop i) (m.drop i) 15 = R) ∨ (c ≠ 0 ∧ c = R)) ∧ Kp2 w w.heap.size (w.heap.size + 1) #[.int .u8 4, .int .i64 0, .string ⟨#[]⟩, .slice ba l.length cap] #[.int .u8 4, .int .i64 0, .string ⟨#[]⟩, .slice bb m.length cb] W ∧ Below w7.heap.size w7 W) (fun _ iv _ => l.length - (intOf iv).toNat)
          case atStart => exact ⟨0, _, Nat.zero_le _, rfl, rfl, HST.out, HK7.out, Below.refl _ _⟩
          case round =>
            obtain ⟨i, c, hi, rfl, rfl, hc, hK8, hB8⟩ := hrel
            have HC := Lib.hid hc
            have HK8 := Lib.hid hK8
            have HB8 := Lib.hid hB8
            clear hc hK8 hB8
            by_cases hgo : i < l.length ∧ c = 0
            · obtain ⟨hlt, rfl⟩ := hgo
              have hcl : l.length = m.length ∧ Va.cmpL (l.drop i) (m.drop i) 15 = R := by
                rcases HC.out with ⟨_, h1, h2⟩ | ⟨h, _⟩
                · exact ⟨h1, h2⟩
                · exact absurd rfl h
              obtain ⟨hlm, hall⟩ := hcl
              have hlt' : i < m.length := hlm ▸ hlt
              obtain ⟨hpr, hpo⟩ := Va.part_right l HRA.out i hlt
              obtain ⟨hpr', hpo'⟩ := Va.part_right m HRB.out i hlt'
              obtain ⟨bx, o, x, hba, hok, h4, hrv⟩ := HL.out.at_ i hlt
              obtain ⟨bx', o', x', hba', hok', h4x, hrv'⟩ := HM.out.at_ i hlt'
              have h4' := h4.kept HK8.out.bl.size (HK8.out.bl.block bx h4.lt)
              have h4x' := h4x.kept HK8.out.bl.size (HK8.out.bl.block bx' h4x.lt)
              have hdr : Below wr.heap.size wr wr.drew := (Below.refl _ _).drew
              have C := Lib.hid (Cmp_lit l[i] m[i] ok ok' x x' wr.drew (Va.cmpV l[i] m[i] 15) (Va.cmp_lv l[i] m[i] 15 16 (by omega) hpo hpo') ((hrv.past HK8.out.bl).past hdr) ((hrv'.past HK8.out.bl).past hdr))
              have hst : (if Va.cmpV l[i] m[i] 15 ≠ 0 then Va.cmpV l[i] m[i] 15 else Va.cmpL (l.drop (i + 1)) (m.drop (i + 1)) 15) = R := by
                rw [← hall, List.drop_eq_getElem_cons hlt, List.drop_eq_getElem_cons hlt']; rfl
              obtain ⟨cv, hcv⟩ : ∃ cv, Va.cmpV l[i] m[i] 15 = cv := ⟨_, rfl⟩
              rw [hcv] at C hst
              have HSTP := Lib.hid hst
              have HLM := Lib.hid hlm
              clear hcv hst hall
              obtain ⟨hlt4, a1, a2, a3, a4, hx4, e1, e2, e3, e4⟩ := h4'
              obtain ⟨hlt4', a1', a2', a3', a4', hx4', e1', e2', e3', e4'⟩ := h4x'
              subst hx4
              subst hba
              subst hx4'
              subst hba'
              have hj0 : (0 : Int) ≤ (i : Int) := by omega
              have hj1 : (i : Int) < (l.length : Int) := by omega
              have hj1' : (i : Int) < (m.length : Int) := by omega
              clear h4 h4x hrv hrv' hdr hpr hpr' hpo hpo' HC HST hlm
              go_wp2_with fail
              refine wp_region_T_drew (fun w' => (w'.cell? ⟨bx, o + i * 4, none⟩ = some a1 ∧ w'.cell? ⟨bx, o + i * 4 + 1, none⟩ = some a2 ∧ w'.cell? ⟨bx, o + i * 4 + 2, none⟩ = some a3 ∧ w'.cell? ⟨bx, o + i * 4 + 3, none⟩ = some a4) ∧ (w'.cell? ⟨bx', o' + i * 4, none⟩ = some a1' ∧ w'.cell? ⟨bx', o' + i * 4 + 1, none⟩ = some a2' ∧ w'.cell? ⟨bx', o' + i * 4 + 2, none⟩ = some a3' ∧ w'.cell? ⟨bx', o' + i * 4 + 3, none⟩ = some a4')) 10 (by kernel_rfl) ⟨⟨e1, e2, e3, e4⟩, e1', e2', e3', e4'⟩ (fun hS => ?_)
              refine wpAnyT_take 0 rfl (by kernel_rfl) (by kernel_rfl) (by decide) (by kernel_rfl) (by kernel_rfl) (fun _ _ _ h => h) hS (by kernel_rfl) (v := ?_) ?_ ?_
              rotate_left
              · intro w' hSw; (try dsimp only at hSw); go_simp; (try with_reducible rfl)
              simp only [Act.put, List.setIfInBounds_toArray, List.set_cons_zero, List.set_cons_succ]
              refine wpAnyT_take 1 rfl (by kernel_rfl) (by kernel_rfl) (by decide) (by kernel_rfl) (by kernel_rfl) (fun _ _ _ h => h) hS (by kernel_rfl) (v := ?_) ?_ ?_
              rotate_left
              · intro w' hSw; (try dsimp only at hSw); go_simp; (try with_reducible rfl)
              simp only [Act.put, List.setIfInBounds_toArray, List.set_cons_zero, List.set_cons_succ]
              refine wpAnyT_take 2 rfl (by kernel_rfl) (by kernel_rfl) (by decide) (by kernel_rfl) (by kernel_rfl) (fun _ _ _ h => h) hS (by kernel_rfl) (v := ?_) ?_ ?_
              rotate_left
              · intro w' hSw; (try dsimp only at hSw); go_simp; (try with_reducible rfl)
              simp only [Act.put, List.setIfInBounds_toArray, List.set_cons_zero, List.set_cons_succ]
              refine wpAnyT_take 3 rfl (by kernel_rfl) (by kernel_rfl) (by decide) (by kernel_rfl) (by kernel_rfl) (fun _ _ _ h => h) hS (by kernel_rfl) (v := ?_) ?_ ?_
              rotate_left
              · intro w' hSw; (try dsimp only at hSw); go_simp; (try with_reducible rfl)
              simp only [Act.put, List.setIfInBounds_toArray, List.set_cons_zero, List.set_cons_succ]
              refine wpAnyT_take 4 rfl (by kernel_rfl) (by kernel_rfl) (by decide) (by kernel_rfl) (by kernel_rfl) (fun _ _ _ h => h) hS (by kernel_rfl) (v := ?_) ?_ ?_
              rotate_left
              · intro w' hSw; (try dsimp only at hSw); go_simp; (try with_reducible rfl)
              simp only [Act.put, List.setIfInBounds_toArray, List.set_cons_zero, List.set_cons_succ]
              refine wpAnyT_take 5 rfl (by kernel_rfl) (by kernel_rfl) (by decide) (by kernel_rfl) (by kernel_rfl) (fun _ _ _ h => h) hS (by kernel_rfl) (v := ?_) ?_ ?_
              rotate_left
              · intro w' hSw; (try dsimp only at hSw); go_simp; (try with_reducible rfl)
              simp only [Act.put, List.setIfInBounds_toArray, List.set_cons_zero, List.set_cons_succ]
              refine wpAnyT_take 6 rfl (by kernel_rfl) (by kernel_rfl) (by decide) (by kernel_rfl) (by kernel_rfl) (fun _ _ _ h => h) hS (by kernel_rfl) (v := ?_) ?_ ?_
              rotate_left
              · intro w' hSw; (try dsimp only at hSw); go_simp; (try with_reducible rfl)
              simp only [Act.put, List.setIfInBounds_toArray, List.set_cons_zero, List.set_cons_succ]
              refine wpAnyT_take 7 rfl (by kernel_rfl) (by kernel_rfl) (by decide) (by kernel_rfl) (by kernel_rfl) (fun _ _ _ h => h) hS (by kernel_rfl) (v := ?_) ?_ ?_
              rotate_left
              · intro w' hSw; (try dsimp only at hSw); go_simp; (try with_reducible rfl)
              simp only [Act.put, List.setIfInBounds_toArray, List.set_cons_zero, List.set_cons_succ]
              refine wpAnyT_one 8 (by kernel_rfl) rfl (by kernel_rfl) (fun K hK => ?_)
              go_simp
              with_reducible refine (C.out).mono ?_
              rintro e w9 ⟨rfl, hb5⟩
              have hb6 : Below wr.heap.size wr w9 := ((Below.refl wr.heap.size wr).drew).trans hb5
              have hc : ∀ b o, b < wr.heap.size → w9.cell? ⟨b, o, none⟩ = wr.cell? ⟨b, o, none⟩ := fun b o h => hb6.cell (p := ⟨b, o, none⟩) h
              have hS : (_ ∧ _ ∧ _ ∧ _) ∧ (_ ∧ _ ∧ _ ∧ _) := ⟨⟨(hc _ _ hlt4).trans e1, (hc _ _ hlt4).trans e2, (hc _ _ hlt4).trans e3, (hc _ _ hlt4).trans e4⟩, (hc _ _ hlt4').trans e1', (hc _ _ hlt4').trans e2', (hc _ _ hlt4').trans e3', (hc _ _ hlt4').trans e4'⟩
              have HB9 := Lib.hid (HB8.out.trans (hb6.mono HB8.out.size))
              have HK9 := Lib.hid (HK8.out.past hb6)
              clear hc hb5 hb6
              refine hK _ _ (fun _ => hS) ?_
              clear hK K
              refine wpAnyT_one 9 (by kernel_rfl) rfl (by kernel_rfl) (fun K hK => ?_)
              go_simp
              refine hK _ _ (fun _ => hS) ?_
              clear hK K
              refine wpAnyT_done (by kernel_rfl) ?_
              clear hS e1 e2 e3 e4 e1' e2' e3' e4' hlt4 hlt4' C
              go_wp2
              go_roundw
              case rel =>
                refine ⟨i + 1, cv, by omega, by go_num, rfl, ?_, HK9.out, HB9.out⟩
                have hst := HSTP.out
                by_cases hb0 : cv = 0
                · subst hb0
                  rw [if_neg (by simp)] at hst
                  exact Or.inl ⟨rfl, HLM.out, hst⟩
                · rw [if_pos hb0] at hst
                  exact Or.inr ⟨hb0, hst⟩
              case measure => simp [intOf]; omega
            · have hcR : c = R := by
                rcases HC.out with ⟨h0, hlm, hcl⟩ | ⟨_, h⟩
                · obtain rfl : i = l.length := by
                    by_cases hlt : i < l.length
                    · exact absurd ⟨hlt, h0⟩ hgo
                    · omega
                  rw [List.drop_length] at hcl
                  rw [h0, ← hcl]; rfl
                · exact h
              subst hcR
              by_cases hlt : i < l.length
              · have q1 : (c == 0) = false := bneI (fun h => hgo ⟨hlt, h⟩)
                clear hgo HC HST
                have e0 := HK8.out.fa.cell 0
                have e1 := HK8.out.fa.cell 1
                have e2 := HK8.out.fa.cell 2
                have e3 := HK8.out.fa.cell 3
                have elt := HK8.out.fa.lt
                have CX := Lib.hid (sameBytes_lit (some ⟨b7, 0, none⟩) bw WL.length WL.length c7 cw WL WL _ true (by simp) rfl (HX7.out.below HB8.out) (fun e => by cases e) rfl (HO7.out.rd1.below HB8.out) HWN.out)
                go_wp2_with fail
                with_reducible refine (CX.out).mono ?_
                rintro e w9 ⟨rfl, rfl⟩
                go_wp2_with fail
                with_reducible refine (CS.out _ HK8.out.bl _ HSX.out).mono ?_
                rintro e wa ⟨rfl, hb⟩
                have HKwa := Lib.hid (HK8.out.past hb)
                clear e0 e1 e2 e3 elt
                have e0 := HKwa.out.fa.cell 0
                have e1 := HKwa.out.fa.cell 1
                have e2 := HKwa.out.fa.cell 2
                have e3 := HKwa.out.fa.cell 3
                have elt := HKwa.out.fa.lt
                have d0 := HKwa.out.fb.cell 0
                have d1 := HKwa.out.fb.cell 1
                have d2 := HKwa.out.fb.cell 2
                have d3 := HKwa.out.fb.cell 3
                have dlt := HKwa.out.fb.lt
                clear hb CX
                go_wp2_with fail
                with_reducible refine (CC.out _ HKwa.out.bl _ HR.out).mono ?_
                rintro e wb ⟨rfl, hb⟩
                have HKwb := Lib.hid (HKwa.out.past hb)
                clear hb e0 e1 e2 e3 elt d0 d1 d2 d3 dlt
                go_wp2_with fail
                with_reducible refine (CW.out _ HKwb.out.bl).mono ?_
                rintro e wc ⟨rfl, hb⟩
                have HBc := Lib.hid (bto HKwb.out.bl hb)
                clear hb
                go_wp2
                go_ret
                exact ⟨rfl, HBc.out⟩
              · obtain rfl : i = l.length := by omega
                clear hgo HC HST
                have e0 := HK8.out.fa.cell 0
                have e1 := HK8.out.fa.cell 1
                have e2 := HK8.out.fa.cell 2
                have e3 := HK8.out.fa.cell 3
                have elt := HK8.out.fa.lt
                have CX := Lib.hid (sameBytes_lit (some ⟨b7, 0, none⟩) bw WL.length WL.length c7 cw WL WL _ true (by simp) rfl (HX7.out.below HB8.out) (fun e => by cases e) rfl (HO7.out.rd1.below HB8.out) HWN.out)
                go_wp2_with fail
                with_reducible refine (CX.out).mono ?_
                rintro e w9 ⟨rfl, rfl⟩
                go_wp2_with fail
                with_reducible refine (CS.out _ HK8.out.bl _ HSX.out).mono ?_
                rintro e wa ⟨rfl, hb⟩
                have HKwa := Lib.hid (HK8.out.past hb)
                clear e0 e1 e2 e3 elt
                have e0 := HKwa.out.fa.cell 0
                have e1 := HKwa.out.fa.cell 1
                have e2 := HKwa.out.fa.cell 2
                have e3 := HKwa.out.fa.cell 3
                have elt := HKwa.out.fa.lt
                have d0 := HKwa.out.fb.cell 0
                have d1 := HKwa.out.fb.cell 1
                have d2 := HKwa.out.fb.cell 2
                have d3 := HKwa.out.fb.cell 3
                have dlt := HKwa.out.fb.lt
                clear hb CX
                go_wp2_with fail
                with_reducible refine (CC.out _ HKwa.out.bl _ HR.out).mono ?_
                rintro e wb ⟨rfl, hb⟩
                have HKwb := Lib.hid (HKwa.out.past hb)
                clear hb e0 e1 e2 e3 elt d0 d1 d2 d3 dlt
                go_wp2_with fail
                with_reducible refine (CW.out _ HKwb.out.bl).mono ?_
                rintro e wc ⟨rfl, hb⟩
                have HBc := Lib.hid (bto HKwb.out.bl hb)
                clear hb
                go_wp2
                go_ret
                exact ⟨rfl, HBc.out⟩
theorem tuples_row (l : List V) (ok : Nat → Prop) (ba : Option Addr) (cap : Nat) (m : List V) (ok' : Nat → Prop) (bb : Option Addr) (cb : Nat) (w : World) (hl : RL ok w l ba cap) (hm : RL ok' w m bb cb) (ht : Tab w) :
    Calls Tryd.prog 4 #[.slice ba l.length cap, .slice bb m.length cb] w (BB true w) := by
  by_cases h : l.length ≤ 10 ∧ m.length ≤ 10 ∧ (Va.smallV (.mk 4 0 Va.em l) 20 60 && Va.right (.mk 4 0 Va.em l)) = true ∧ (Va.smallV (.mk 4 0 Va.em m) 20 60 && Va.right (.mk 4 0 Va.em m)) = true
  · obtain ⟨h1, h2, h3, h4⟩ := h
    exact tuples_yes l m ok ok' ba bb cap cb w hl hm ht h1 h2 h3 h4
  · exact tuples_no l m ok ok' ba bb cap cb w hl hm ht h
end Go.Proofs.YtgamhgeiceakeaaDoor
