/- ValueNumbers, the walk. -/
import Derived.Test.YtgamhgeiceakeaaDoorVNumF
import Derived.Deep.DeepCutAuto
set_option linter.unusedVariables false
set_option linter.unusedSimpArgs false
namespace Go.Proofs.YtgamhgeiceakeaaDoor
open Go.RowKit
open Va (V)
set_option maxHeartbeats 3200000 in
set_option maxRecDepth 100000 in
theorem numbers_row (w : World) (ht : Tab w) : Calls Tryd.prog 8 #[] w (BB true w) := by
  have HK0 := Lib.hid (show Kl w [] w from ⟨Below.refl _ _, ht, fun p hp => by cases hp⟩)
  have HT := Lib.hid ht
  clear ht
  go_enter Tryd.func8, Tryd.ntmps8
  go_wp2_with fail
  with_reducible refine (truth_any 2 _).mono ?_
  rintro e w1 ⟨rfl, hb⟩
  have HKw1 := Lib.hid ((HK0.out).past hb)
  clear hb
  go_wp2_with fail
  with_reducible refine (truth_any (-1) _).mono ?_
  rintro e w2 ⟨rfl, hb⟩
  have HKw2 := Lib.hid ((HKw1.out).past hb)
  clear hb
  go_wp2_with fail
  with_reducible refine (actor_any (-1) _).mono ?_
  rintro e w3 ⟨rfl, hb⟩
  have HKw3 := Lib.hid ((HKw2.out).past hb)
  clear hb
  go_wp2_with fail
  with_reducible refine (many_lit 1 _ ?_ (by decide) _).mono ?_
  · rfl
  rintro e w4 ⟨g4, c4', rfl, hv, hb⟩
  have HKw4 := Lib.hid (((HKw3.out.past hb).push (hv 1 (by decide))))
  clear hb hv
  go_wp2_with fail
  with_reducible refine (many_lit 1 _ ?_ (by decide) _).mono ?_
  · rfl
  rintro e w5 ⟨g5, c5', rfl, hv, hb⟩
  have HKw5 := Lib.hid (((HKw4.out.past hb).push (hv 3 (by decide))))
  clear hb hv
  go_wp2_with fail
  with_reducible refine (truth_any 7 _).mono ?_
  rintro e w6 ⟨rfl, hb⟩
  have HKw6 := Lib.hid ((HKw5.out).past hb)
  clear hb
  go_wp2_with fail
  with_reducible refine (tuple_any _ _ _ _).mono ?_
  rintro e w7 ⟨rfl, hb⟩
  have HKw7 := Lib.hid (((HKw6.out.more _).past hb).push (one_rv ((Blk.new w6 #[.int .u8 2, .int .i64 7, .string ⟨#[]⟩, .slice none 0 0] 25).below hb) (rv_leaf _ 2 7 ⟨#[]⟩ (by decide) (by unfold Va.I64; omega) (by decide))))
  clear hb
  go_wp2_with fail
  with_reducible refine (deep_lit 16 _ ?_ (by decide) _).mono ?_
  · rfl
  rintro e w8 ⟨g8, m8, c8, rfl, hv, hb⟩
  have HKw8 := Lib.hid ((HKw7.out.past hb).push hv)
  clear hb hv
  go_wp2_with fail
  with_reducible refine (wide_lit 256 _ ?_ (by decide) _).mono ?_
  · rfl
  rintro e w9 ⟨g9, m9, c9, rfl, hv, hb⟩
  have HKw9 := Lib.hid ((HKw8.out.past hb).push hv)
  clear hb hv
  go_wp2_with fail
  with_reducible refine (repx_any 4097 _ ?_ (by decide) _).mono ?_
  · rfl
  rintro e w10 ⟨rfl, hb⟩
  have HKw10 := Lib.hid (HKw9.out.past hb)
  clear hb
  obtain ⟨s97, hs97⟩ : ∃ s, repx 4097 = s := ⟨_, rfl⟩
  have hr97 : ∀ W, RV (fun _ => True) W (.mk 3 0 (repx 4097) []) (.agg #[.int .u8 3, .int .i64 0, .string s97, .slice none 0 0]) := fun W => by
    rw [← hs97]; exact rv_leaf W 3 0 _ (by decide) (by unfold Va.I64; omega) (by rw [repx_size]; unfold maxLen; omega)
  rw [hs97]
  have HR97 := Lib.hid hr97
  clear hs97 hr97
  go_wp2_with fail
  with_reducible refine (text_any s97 _).mono ?_
  rintro e w11 ⟨rfl, hb⟩
  have HKw11 := Lib.hid ((HKw10.out).past hb)
  clear hb
  go_wp2_with fail
  with_reducible refine (wide_lit 255 _ ?_ (by decide) _).mono ?_
  · rfl
  rintro e w12 ⟨g12, m12, c12, rfl, hv, hb⟩
  have HKw12 := Lib.hid (((HKw11.out.past hb).push (HR97.out _)).push hv)
  clear hb hv HR97
  go_wp2_with fail
  with_reducible refine (tuple_any _ _ _ _).mono ?_
  rintro e w13 ⟨rfl, hb⟩
  have HKw13 := Lib.hid (((HKw12.out.more _).past hb).push (one_rv ((Blk.new w12 #[.int .u8 4, .int .i64 0, .string ⟨#[]⟩, .slice g12 m12 c12] 25).below hb) ((HKw12.out.more _).past hb).hd))
  clear hb
  generalize w6.heap.size = b6 at HKw7 HKw8 HKw9 HKw10 HKw11 HKw12 HKw13 ⊢
  generalize w12.heap.size = b12 at HKw13 ⊢
  clear HK0 HKw1 HKw2 HKw3 HKw4 HKw5 HKw6 HKw7 HKw8 HKw9 HKw10 HKw11 HKw12
  go_wp2_with fail
  refine (?_ : ∀ CE : Array Value, (∀ i, i < 16 → Bad w13 CE i) → Code.wp _ _ _ _ (w13.alloc (.cells CE 25))) _ (bad_ents HKw13.out _ rfl)
  intro CE hent
  have HE := Lib.hid hent
  have HKW := Lib.hid (show Kl w [] w13 from ⟨HKw13.out.bl, HKw13.out.tab, fun p hp => by cases hp⟩)
  clear hent HKw13
  go_loopw [1, 2, 3, 4, 48] (fun _ _ _ _ iv V => ∃ i : Nat, i ≤ 16 ∧ iv = .int .i64 i ∧ Below w13.heap.size w13 V ∧ Blk V w13.heap.size CE 25) (fun _ _ _ _ iv _ => 16 - (intOf iv).toNat)
  case atStart => exact ⟨0, by omega, rfl, (Below.refl _ _).alloc (Nat.le_refl _) _, Blk.new _ _ _⟩
  case round =>
    obtain ⟨i, hi, rfl, hbV, hBE⟩ := hrel
    have HBV := Lib.hid hbV
    have HBE := Lib.hid hBE
    by_cases hlt : i < 16
    · obtain ⟨v, a1, b1, c1, d1, x0, x1, x2, x3, hrv, hri⟩ := HE.out i hlt
      obtain ⟨kk, nn, ss, ll⟩ := v
      obtain ⟨bb1, cc1, hxx, -, -, -, -⟩ := hrv.inv
      cases hxx
      have y0 := (hBE.cell (i * 4)).trans x0
      have y1 := (hBE.cell (i * 4 + 1)).trans x1
      have y2 := (hBE.cell (i * 4 + 2)).trans x2
      have y3 := (hBE.cell (i * 4 + 3)).trans x3
      have ylt := hBE.lt
      have hj0 : (0 : Int) ≤ (i : Int) := by omega
      have hj1 : (i : Int) < 16 := by omega
      have CP := Lib.hid (fun V (hb : Below w13.heap.size w13 V) => put_no _ _ _ V (hrv.past hb) hri)
      have CR := Lib.hid (fun V (hb : Below w13.heap.size w13 V) => right_tof _ _ _ V false hri (hrv.past hb))
      have CS := Lib.hid (fun V (hb : Below w13.heap.size w13 V) => Show_lit _ _ _ V ⟨#[63]⟩ (by unfold shownPost; rw [hri]; rfl) (hrv.past hb) (HKW.out.tab.past hb))
      have hbox := Lib.hid (bbox HBV.out (.cells #[.int .u8 kk, .int .i64 nn, .string ss, .slice bb1 ll.length cc1] 25))
      clear x0 x1 x2 x3 hrv hri hbV hBE
      go_wp2_with fail
      with_reducible refine (CP.out _ hbox.out).mono ?_
      rintro e V2 ⟨rfl, hb4⟩
      have HV2 := Lib.hid (hbox.out.trans (hb4.mono hbox.out.size))
      have HBX := Lib.hid ((Blk.new wr #[.int .u8 kk, .int .i64 nn, .string ss, .slice bb1 ll.length cc1] 25).below hb4)
      have HBE2 := Lib.hid ((HBE.out.below ((Below.refl _ _).alloc (Nat.le_refl _) (.cells #[.int .u8 kk, .int .i64 nn, .string ss, .slice bb1 ll.length cc1] 25))).below hb4)
      clear hb4 y0 y1 y2 y3 ylt CP hbox
      have z0 := HBX.out.cell 0
      have z1 := HBX.out.cell 1
      have z2 := HBX.out.cell 2
      have z3 := HBX.out.cell 3
      have zlt := HBX.out.lt
      go_wp2_with fail
      with_reducible refine (CR.out _ HV2.out).mono ?_
      rintro e V3 ⟨rfl, hb4⟩
      have HV3 := Lib.hid (HV2.out.trans (hb4.mono HV2.out.size))
      have HBX3 := Lib.hid (HBX.out.below hb4)
      have HBE3 := Lib.hid (HBE2.out.below hb4)
      clear hb4 z0 z1 z2 z3 zlt HV2 HBX HBE2
      have z0 := HBX3.out.cell 0
      have z1 := HBX3.out.cell 1
      have z2 := HBX3.out.cell 2
      have z3 := HBX3.out.cell 3
      have zlt := HBX3.out.lt
      go_wp2_with fail
      with_reducible refine (CS.out _ HV3.out).mono ?_
      rintro e V4 ⟨rfl, hb4⟩
      have HV4 := Lib.hid (HV3.out.trans (hb4.mono HV3.out.size))
      have HBE4 := Lib.hid (HBE3.out.below hb4)
      clear hb4 z0 z1 z2 z3 zlt HV3 HBX3 HBE3
      go_wp2
      go_roundw
      case rel => exact ⟨i + 1, by omega, by go_num, HV4.out, HBE4.out⟩
      case measure => simp [intOf]; omega
    · obtain rfl : i = 16 := by omega
      obtain ⟨W1, rfl⟩ : ∃ W1, W1 = wr := ⟨_, rfl⟩
      have HK1 := Lib.hid (HKW.out.past HBV.out)
      clear HKW HBV HBE hbV hBE HE
      go_wp2_with fail
      with_reducible refine (deep_lit 15 _ ?_ (by decide) _).mono ?_
      · rfl
      rintro e w14 ⟨g14, m14, c14, rfl, hv, hb⟩
      have HVw14 := Lib.hid hv
      have HKw14 := Lib.hid ((HK1.out).past hb)
      clear hb hv
      go_wp2_with fail
      with_reducible refine (right_tof _ (fun _ => True) _ _ true Va.good_a HVw14.out).mono ?_
      rintro e w15 ⟨rfl, hb⟩
      have HKw15 := Lib.hid ((HKw14.out).past hb)
      clear hb
      go_wp2_with fail
      with_reducible refine (wide_lit 255 _ ?_ (by decide) _).mono ?_
      · rfl
      rintro e w16 ⟨g16, m16, c16, rfl, hv, hb⟩
      have HVw16 := Lib.hid hv
      have HKw16 := Lib.hid ((HKw15.out).past hb)
      clear hb hv
      go_wp2_with fail
      with_reducible refine (right_tof _ (fun _ => True) _ _ true Va.good_b HVw16.out).mono ?_
      rintro e w17 ⟨rfl, hb⟩
      have HKw17 := Lib.hid ((HKw16.out).past hb)
      clear hb
      go_wp2_with fail
      with_reducible refine (wide_lit 254 _ ?_ (by decide) _).mono ?_
      · rfl
      rintro e w18 ⟨g18, m18, c18, rfl, hv, hb⟩
      have HVw18 := Lib.hid hv
      have HKw18 := Lib.hid ((HKw17.out).past hb)
      clear hb hv
      go_wp2_with fail
      with_reducible refine (tuple_any _ _ _ _).mono ?_
      rintro e w19 ⟨rfl, hb⟩
      have HVw19 := Lib.hid (one_rv ((Blk.new w18 #[.int .u8 4, .int .i64 0, .string ⟨#[]⟩, .slice g18 m18 c18] 25).below hb) ((HVw18.out).past (bto (bbox (Below.refl _ _) _) hb)))
      have HKw19 := Lib.hid (((HKw18.out).more _).past hb)
      clear hb
      go_wp2_with fail
      with_reducible refine (right_tof _ (fun _ => True) _ _ true Va.good_c HVw19.out).mono ?_
      rintro e w20 ⟨rfl, hb⟩
      have HKw20 := Lib.hid ((HKw19.out).past hb)
      clear hb
      go_wp2_with fail
      with_reducible refine (repx_any 4096 _ ?_ (by decide) _).mono ?_
      · rfl
      rintro e w21 ⟨rfl, hb⟩
      have HKw21 := Lib.hid (HKw20.out.past hb)
      clear hb
      obtain ⟨s96, hs96⟩ : ∃ s, repx 4096 = s := ⟨_, rfl⟩
      have hr96 : ∀ W, RV (fun _ => True) W (.mk 3 0 (repx 4096) []) (.agg #[.int .u8 3, .int .i64 0, .string s96, .slice none 0 0]) := fun W => by
        rw [← hs96]; exact rv_leaf W 3 0 _ (by decide) (by unfold Va.I64; omega) (by rw [repx_size]; unfold maxLen; omega)
      rw [hs96]
      have HR96 := Lib.hid hr96
      clear hs96 hr96
      go_wp2_with fail
      with_reducible refine (text_any s96 _).mono ?_
      rintro e w22 ⟨rfl, hb⟩
      have HKw22 := Lib.hid ((HKw21.out).past hb)
      clear hb
      go_wp2_with fail
      with_reducible refine (right_tof _ (fun _ => True) _ _ true Va.good_d (HR96.out _)).mono ?_
      rintro e w23 ⟨rfl, hb⟩
      have HKw23 := Lib.hid ((HKw22.out).past hb)
      clear hb
      go_wp2_with fail
      with_reducible refine (tuple_any _ _ _ _).mono ?_
      rintro e w24 ⟨rfl, hb⟩
      have HKw24 := Lib.hid ((HKw23.out).past hb)
      clear hb
      have HVE := Lib.hid (fun W => (rv_leaf (ok := fun _ => True) W 4 0 ⟨#[]⟩ (by decide) (by unfold Va.I64; omega) (by decide)))
      go_wp2_with fail
      with_reducible refine (right_tof _ (fun _ => True) _ _ true Va.good_e (HVE.out _)).mono ?_
      rintro e w25 ⟨rfl, hb⟩
      have HKw25 := Lib.hid ((HKw24.out).past hb)
      clear hb
      go_wp2_with fail
      with_reducible refine (tuple_any _ _ _ _).mono ?_
      rintro e w26 ⟨rfl, hb⟩
      have HKw26 := Lib.hid ((HKw25.out).past hb)
      clear hb
      go_wp2_with fail
      with_reducible refine (Show_lit (.mk 4 0 Va.em []) (fun _ => True) _ _ ⟨#[40, 41]⟩ Va.show_1 (HVE.out _) HKw26.out.tab).mono ?_
      rintro e w27 ⟨rfl, hb⟩
      have HKw27 := Lib.hid ((HKw26.out).past hb)
      clear hb
      go_wp2_with fail
      with_reducible refine (num_any (-9223372036854775808) _).mono ?_
      rintro e w28 ⟨rfl, hb⟩
      have HKw28 := Lib.hid ((HKw27.out).past hb)
      clear hb
      have HVM := Lib.hid (fun W => (rv_leaf (ok := fun _ => True) W 1 (-9223372036854775808) ⟨#[]⟩ (by decide) (by unfold Va.I64; omega) (by decide)))
      go_wp2_with fail
      with_reducible refine (Show_lit (.mk 1 (-9223372036854775808) Va.em []) (fun _ => True) _ _ ⟨#[45, 57, 50, 50, 51, 51, 55, 50, 48, 51, 54, 56, 53, 52, 55, 55, 53, 56, 48, 56]⟩ Va.show_2 (HVM.out _) HKw28.out.tab).mono ?_
      rintro e w29 ⟨rfl, hb⟩
      have HKw29 := Lib.hid ((HKw28.out).past hb)
      clear hb
      go_wp2_with fail
      with_reducible refine (num_any 1 _).mono ?_
      rintro e w30 ⟨rfl, hb⟩
      have HKw30 := Lib.hid ((HKw29.out).past hb)
      clear hb
      go_wp2_with fail
      with_reducible refine (text_any ⟨#[10, 92, 255]⟩ _).mono ?_
      rintro e w31 ⟨rfl, hb⟩
      have HKw31 := Lib.hid ((HKw30.out).past hb)
      clear hb
      go_wp2_with fail
      with_reducible refine (truth_any 0 _).mono ?_
      rintro e w32 ⟨rfl, hb⟩
      have HKw32 := Lib.hid ((HKw31.out).past hb)
      clear hb
      go_wp2_with fail
      with_reducible refine (tuple_any _ _ _ _).mono ?_
      rintro e w33 ⟨rfl, hb⟩
      have HVw33 := Lib.hid (three_rv ((Blk.new w32 #[.int .u8 1, .int .i64 1, .string ⟨#[]⟩, .slice none 0 0, .int .u8 3, .int .i64 0, .string ⟨#[10, 92, 255]⟩, .slice none 0 0, .int .u8 2, .int .i64 0, .string ⟨#[]⟩, .slice none 0 0] 25).below hb))
      have HKw33 := Lib.hid ((HKw32.out.more _).past hb)
      clear hb
      go_wp2_with fail
      with_reducible refine (Show_lit Va.triple (fun _ => True) _ _ ⟨#[40, 49, 44, 32, 34, 92, 48, 97, 92, 53, 99, 92, 102, 102, 34, 44, 32, 102, 97, 108, 115, 101, 41]⟩ Va.show_3 HVw33.out HKw33.out.tab).mono ?_
      rintro e w34 ⟨rfl, hb⟩
      have HKw34 := Lib.hid ((HKw33.out).past hb)
      clear hb
      clear HK1 HKw14 HKw15 HKw16 HKw17 HKw18 HKw19 HKw20 HKw21 HKw22 HKw23 HKw24 HKw25 HKw26 HKw27 HKw28 HKw29 HKw30 HKw31 HKw32 HKw33 HVw14 HVw16 HVw18 HVw19 HR96 HVE HVM HVw33
      go_wp2_with fail
      with_reducible refine (rep_any ⟨#[4, 1]⟩ 15 _ ?_ (by decide) (by decide) _).mono ?_
      · rfl
      rintro e w35 ⟨rfl, hb⟩
      have HKw35 := Lib.hid (HKw34.out.past hb)
      clear hb HKw34
      obtain ⟨s15, hs15⟩ : ∃ s : ByteArray, (⟨(Lib.repeatL (⟨#[4, 1]⟩ : ByteArray).data.toList 15).toArray⟩ : ByteArray) = s := ⟨_, rfl⟩
      have h15 : s15.data.toList = Va.sixt := by rw [← hs15]; rfl
      rw [hs15]
      have HS15 := Lib.hid h15
      clear hs15 h15
      obtain ⟨c15, W15, hcv, hb15, hrd15⟩ := str_bytes w35 s15
      have hsz15 : s15.size = 30 := by
        have h := congrArg List.length HS15.out
        rw [Array.length_toList] at h
        exact h.trans (by rfl)
      rw [HS15.out] at hrd15
      rw [hsz15] at hcv
      have HKW15 := Lib.hid (show Km w w35.heap.size W15 from ⟨HKw35.out.past hb15, hrd15⟩)
      clear HKw35 HS15 hsz15 hb15 hrd15
      go_wp2_with fail
      with_reducible refine (wrong_nil _ rfl _).mono ?_
      rintro e w40 ⟨rfl, hb⟩
      have HKw40 := Lib.hid ((HKW15.out).past hb)
      clear hb
      clear hcv
      go_wp2_with fail
      with_reducible refine (wrong_lit _ _ _ [0] 10 _ ?_ _ ?_ ?_ Va.get_2 ?_ ?_).mono ?_
      · rfl
      · rfl
      · exact rd_lit _ [0] _ rfl
      · decide
      · decide
      rintro e w41 ⟨rfl, hb⟩
      have HKw41 := Lib.hid ((HKw40.out.more _).past hb)
      clear hb
      go_wp2_with fail
      with_reducible refine (wrong_lit _ _ _ [1] 11 _ ?_ _ ?_ ?_ Va.get_3 ?_ ?_).mono ?_
      · rfl
      · rfl
      · exact rd_lit _ [1] _ rfl
      · decide
      · decide
      rintro e w42 ⟨rfl, hb⟩
      have HKw42 := Lib.hid ((HKw41.out.more _).past hb)
      clear hb
      go_wp2_with fail
      with_reducible refine (wrong_lit _ _ _ [1, 128, 0] 10 _ ?_ _ ?_ ?_ Va.get_4 ?_ ?_).mono ?_
      · rfl
      · rfl
      · exact rd_lit _ [1, 128, 0] _ rfl
      · decide
      · decide
      rintro e w43 ⟨rfl, hb⟩
      have HKw43 := Lib.hid ((HKw42.out.more _).past hb)
      clear hb
      go_wp2_with fail
      with_reducible refine (wrong_lit _ _ _ [2] 11 _ ?_ _ ?_ ?_ Va.get_5 ?_ ?_).mono ?_
      · rfl
      · rfl
      · exact rd_lit _ [2] _ rfl
      · decide
      · decide
      rintro e w44 ⟨rfl, hb⟩
      have HKw44 := Lib.hid ((HKw43.out.more _).past hb)
      clear hb
      go_wp2_with fail
      with_reducible refine (wrong_lit _ _ _ [4] 11 _ ?_ _ ?_ ?_ Va.get_6 ?_ ?_).mono ?_
      · rfl
      · rfl
      · exact rd_lit _ [4] _ rfl
      · decide
      · decide
      rintro e w45 ⟨rfl, hb⟩
      have HKw45 := Lib.hid ((HKw44.out.more _).past hb)
      clear hb
      go_wp2_with fail
      with_reducible refine (wrong_lit _ _ _ [4, 1] 11 _ ?_ _ ?_ ?_ Va.get_7 ?_ ?_).mono ?_
      · rfl
      · rfl
      · exact rd_lit _ [4, 1] _ rfl
      · decide
      · decide
      rintro e w46 ⟨rfl, hb⟩
      have HKw46 := Lib.hid ((HKw45.out.more _).past hb)
      clear hb
      go_wp2_with fail
      with_reducible refine (wrong_lit _ _ _ [4, 129, 2] 13 _ ?_ _ ?_ ?_ Va.get_8 ?_ ?_).mono ?_
      · rfl
      · rfl
      · exact rd_lit _ [4, 129, 2] _ rfl
      · decide
      · decide
      rintro e w47 ⟨rfl, hb⟩
      have HKw47 := Lib.hid ((HKw46.out.more _).past hb)
      clear hb
      go_wp2_with fail
      with_reducible refine (wrong_lit _ _ _ [3, 129, 32] 3 _ ?_ _ ?_ ?_ Va.get_9 ?_ ?_).mono ?_
      · rfl
      · rfl
      · exact rd_lit _ [3, 129, 32] _ rfl
      · decide
      · decide
      rintro e w48 ⟨rfl, hb⟩
      have HKw48 := Lib.hid ((HKw47.out.more _).past hb)
      clear hb
      go_wp2_with (at_builtin; refine wpList_bytes _ (by kernel_rfl) _ _ rfl w48.heap.size _ [] Va.sixt rfl (ow_new _) ⟨w35.heap.size, 0, none⟩ 30 c15 30 rfl rfl (HKw48.out.more _).rd (by decide) rfl (by decide) (by simp) ?_)
      intro gw49 capw49 w49 hO hcap hG
      have hb := ow_less (bbox (Below.refl _ _) _) (ow_new w48) hG
      have HKw49 := Lib.hid (HKw48.out.past hb)
      have HBw49 := Lib.hid hb
      have HOw49 := Lib.hid hO
      clear hO hcap hG hb
      go_wp2_with (at_builtin; refine wpList_bytes _ (by kernel_rfl) _ _ rfl w48.heap.size _ Va.sixt [4, 1, 4, 0] rfl (HOw49.out.alloc _) ⟨w49.heap.size, 0, none⟩ 4 4 34 rfl rfl (rd_lit _ [4, 1, 4, 0] _ rfl) (by decide) rfl (by decide) (by have := HBw49.out.size; simp; omega) ?_)
      intro gw50 capw50 w50 hO hcap hG
      have hb := ow_less (bbox HBw49.out _) (HOw49.out.alloc _) hG
      have HKw50 := Lib.hid (HKw48.out.past hb)
      have HOw50 := Lib.hid hO
      have HCw50 := Lib.hid hcap
      clear hO hcap hG hb HBw49 HOw49 HKw49
      go_wp2_with fail
      with_reducible refine (wrong_lit _ _ _ (Va.sixt ++ [4, 1, 4, 0]) 13 _ ?_ _ ?_ ?_ Va.get_10 ?_ ?_).mono ?_
      · rfl
      · rfl
      · exact HOw50.out.rd2.1
      · decide
      · exact HCw50.out
      rintro e w51 ⟨rfl, hb⟩
      have HKw51 := Lib.hid (HKw50.out.past hb)
      clear hb HOw50 HCw50
      go_wp2_with (at_builtin; refine wpList_bytes _ (by kernel_rfl) _ _ rfl w51.heap.size _ [] Va.sixt rfl (ow_new _) ⟨w35.heap.size, 0, none⟩ 30 c15 30 rfl rfl (HKw51.out.more _).rd (by decide) rfl (by decide) (by simp) ?_)
      intro gw52 capw52 w52 hO hcap hG
      have hb := ow_less (bbox (Below.refl _ _) _) (ow_new w51) hG
      have HKw52 := Lib.hid (HKw51.out.past hb)
      have HBw52 := Lib.hid hb
      have HOw52 := Lib.hid hO
      clear hO hcap hG hb
      go_wp2_with (at_builtin; refine wpList_bytes _ (by kernel_rfl) _ _ rfl w51.heap.size _ Va.sixt [4, 0] rfl (HOw52.out.alloc _) ⟨w52.heap.size, 0, none⟩ 2 2 32 rfl rfl (rd_lit _ [4, 0] _ rfl) (by decide) rfl (by decide) (by have := HBw52.out.size; simp; omega) ?_)
      intro gw53 capw53 w53 hO hcap hG
      have hb := ow_less (bbox HBw52.out _) (HOw52.out.alloc _) hG
      have HKw53 := Lib.hid (HKw51.out.past hb)
      have HOw53 := Lib.hid hO
      have HCw53 := Lib.hid hcap
      clear hO hcap hG hb HBw52 HOw52 HKw52
      go_wp2_with fail
      with_reducible refine (wrong_no _ _ (Va.sixt ++ [4, 0]) _ _ ?_ (Va.nest 15) 32 240 _ ?_ ?_ ?_ ?_ Va.get_11).mono ?_
      · decide
      · rfl
      · exact HOw53.out.rd2.1
      · decide
      · exact HCw53.out
      rintro e w54 ⟨rfl, hb⟩
      have HKw54 := Lib.hid (HKw53.out.past hb)
      clear hb HOw53 HCw53
      go_wp2_with fail
      with_reducible refine (wrong_lit _ _ _ [4, 2, 1, 2, 7] 10 _ ?_ _ ?_ ?_ Va.get_12 ?_ ?_).mono ?_
      · rfl
      · rfl
      · exact rd_lit _ [4, 2, 1, 2, 7] _ rfl
      · decide
      · decide
      rintro e w55 ⟨rfl, hb⟩
      have HKw55 := Lib.hid ((HKw54.out.more _).past hb)
      clear hb
      have HL55 := Lib.hid HKw55.out.k
      clear HKW15 HKw40 HKw41 HKw42 HKw43 HKw44 HKw45 HKw46 HKw47 HKw48 HKw50 HKw51 HKw53 HKw54 HKw55
      go_wp2_with fail
      with_reducible refine (rep_any ⟨#[2, 1]⟩ 256 _ ?_ (by decide) (by decide) _).mono ?_
      · rfl
      rintro e w56 ⟨rfl, hb⟩
      have HO56 := Lib.hid ((ow_three w55).past hb)
      have HB56 := Lib.hid (bto (bbox (Below.refl _ _) _) hb)
      clear hb
      obtain ⟨s256, hs256⟩ : ∃ s : ByteArray, (⟨(Lib.repeatL (⟨#[2, 1]⟩ : ByteArray).data.toList 256).toArray⟩ : ByteArray) = s := ⟨_, rfl⟩
      have h256 : s256.data.toList = Lib.repeatL [2, 1] 256 := by rw [← hs256]
      rw [hs256]
      have HS256 := Lib.hid h256
      clear hs256 h256
      obtain ⟨c57, w57, hcv, hb57, hrd57⟩ := str_bytes w56 s256
      have hsz57 : s256.size = 512 := by
        have h := congrArg List.length HS256.out
        rw [Array.length_toList, Lib.repeatL_length] at h
        exact h
      rw [HS256.out] at hrd57
      rw [hsz57] at hcv
      have HO57 := Lib.hid (HO56.out.past hb57)
      have HB57 := Lib.hid (bto HB56.out hb57)
      have HR57 := Lib.hid hrd57
      have hl57 : (Lib.repeatL [2, 1] 256).length = 512 := by rw [Lib.repeatL_length]; rfl
      have HH57 := Lib.hid hl57
      clear hb57 hrd57 hsz57 HS256 HO56 HB56 hl57
      go_wp2_with (at_builtin; go_loud (refine wpList_bytes _ (by kernel_rfl) _ _ rfl w55.heap.size _ [4, 128, 2] (Lib.repeatL [2, 1] 256) rfl HO57.out ⟨w56.heap.size, 0, none⟩ 512 c57 515 rfl HH57.out HR57.out (by decide) rfl (by decide) HB57.out.size ?_))
      intro g58 cap58 w58 hO hcap hG
      have hb := ow_less HB57.out HO57.out hG
      have HO58 := Lib.hid hO
      have HC58 := Lib.hid hcap
      have HL58 := Lib.hid (HL55.out.past hb)
      clear hO hcap hG hb HL55 HB57 HO57 HR57 HH57 hcv
      go_wp2_with fail
      with_reducible refine (get_err_lit _ _ _ Va.fullb 13 13 rfl _ ?_ ?_ Va.get_13 ?_ ?_).mono ?_
      · rfl
      · exact HO58.out.rd2.1
      · decide
      · exact HC58.out
      rintro e w59 ⟨rfl, hb⟩
      have HL59 := Lib.hid (HL58.out.past hb)
      clear hb HL58 HO58 HC58
      go_wp2_with fail
      with_reducible refine (get_nil_lit 1 2 rfl _ ?_).mono ?_
      · decide
      rintro e w60 ⟨rfl, hb⟩
      have HL60 := Lib.hid ((HL59.out.more _).past hb)
      clear hb HL59
      go_wp2_with fail
      with_reducible refine (get_nil_lit (-1) 2 rfl _ ?_).mono ?_
      · decide
      rintro e w61 ⟨rfl, hb⟩
      have HKw61 := Lib.hid (((HL60.out.more _).past hb).more (.cells #[.int .u8 0, .int .i64 0, .string ⟨#[]⟩, .slice none 0 0] 25))
      clear hb HL60
      go_wp2_with fail
      with_reducible refine (num_any (-5) _).mono ?_
      rintro e w62 ⟨rfl, hb⟩
      have HKw62 := Lib.hid ((HKw61.out).past hb)
      clear hb
      go_wp2_with fail
      with_reducible refine (num_any 7 _).mono ?_
      rintro e w63 ⟨rfl, hb⟩
      have HKw63 := Lib.hid ((HKw62.out).past hb)
      clear hb
      go_wp2_with fail
      with_reducible refine (truth_any 0 _).mono ?_
      rintro e w64 ⟨rfl, hb⟩
      have HKw64 := Lib.hid ((HKw63.out).past hb)
      clear hb
      go_wp2_with fail
      with_reducible refine (truth_any 1 _).mono ?_
      rintro e w65 ⟨rfl, hb⟩
      have HKw65 := Lib.hid ((HKw64.out).past hb)
      clear hb
      go_wp2_with fail
      with_reducible refine (text_any ⟨#[]⟩ _).mono ?_
      rintro e w66 ⟨rfl, hb⟩
      have HKw66 := Lib.hid ((HKw65.out).past hb)
      clear hb
      go_wp2_with fail
      with_reducible refine (text_any ⟨#[97]⟩ _).mono ?_
      rintro e w67 ⟨rfl, hb⟩
      have HKw67 := Lib.hid ((HKw66.out).past hb)
      clear hb
      go_wp2_with fail
      with_reducible refine (text_any ⟨#[97, 98]⟩ _).mono ?_
      rintro e w68 ⟨rfl, hb⟩
      have HKw68 := Lib.hid ((HKw67.out).past hb)
      clear hb
      go_wp2_with fail
      with_reducible refine (text_any ⟨#[98]⟩ _).mono ?_
      rintro e w69 ⟨rfl, hb⟩
      have HKw69 := Lib.hid ((HKw68.out).past hb)
      clear hb
      go_wp2_with fail
      with_reducible refine (tuple_any _ _ _ _).mono ?_
      rintro e w70 ⟨rfl, hb⟩
      have HKw70 := Lib.hid ((HKw69.out).past hb)
      clear hb
      go_wp2_with fail
      with_reducible refine (num_any 1 _).mono ?_
      rintro e w71 ⟨rfl, hb⟩
      have HKw71 := Lib.hid ((HKw70.out).past hb)
      clear hb
      go_wp2_with fail
      with_reducible refine (tuple_any _ _ _ _).mono ?_
      rintro e w72 ⟨rfl, hb⟩
      have HKw72 := Lib.hid ((((HKw71.out).more _).past hb).push (one_rv ((Blk.new w71 #[.int .u8 1, .int .i64 1, .string ⟨#[]⟩, .slice none 0 0] 25).below hb) (rv_leaf _ 1 1 ⟨#[]⟩ (by decide) (by unfold Va.I64; omega) (by decide))))
      clear hb
      go_wp2_with fail
      with_reducible refine (text_any ⟨#[97]⟩ _).mono ?_
      rintro e w73 ⟨rfl, hb⟩
      have HKw73 := Lib.hid ((HKw72.out).past hb)
      clear hb
      go_wp2_with fail
      with_reducible refine (tuple_any _ _ _ _).mono ?_
      rintro e w74 ⟨rfl, hb⟩
      have HKw74 := Lib.hid ((((HKw73.out).more _).past hb).push (one_rv ((Blk.new w73 #[.int .u8 3, .int .i64 0, .string ⟨#[97]⟩, .slice none 0 0] 25).below hb) (rv_leaf _ 3 0 ⟨#[97]⟩ (by decide) (by unfold Va.I64; omega) (by decide))))
      clear hb
      go_wp2_with fail
      with_reducible refine (num_any 0 _).mono ?_
      rintro e w75 ⟨rfl, hb⟩
      have HKw75 := Lib.hid ((HKw74.out).past hb)
      clear hb
      go_wp2_with fail
      with_reducible refine (num_any 9 _).mono ?_
      rintro e w76 ⟨rfl, hb⟩
      have HKw76 := Lib.hid ((HKw75.out).past hb)
      clear hb
      go_wp2_with fail
      with_reducible refine (tuple_any _ _ _ _).mono ?_
      rintro e w77 ⟨rfl, hb⟩
      have HKw77 := Lib.hid ((((HKw76.out).more _).past hb).push (two_rv ((Blk.new w76 #[.int .u8 1, .int .i64 0, .string ⟨#[]⟩, .slice none 0 0, .int .u8 1, .int .i64 9, .string ⟨#[]⟩, .slice none 0 0] 25).below hb) (rv_leaf _ 1 0 ⟨#[]⟩ (by decide) (by unfold Va.I64; omega) (by decide)) (rv_leaf _ 1 9 ⟨#[]⟩ (by decide) (by unfold Va.I64; omega) (by decide))))
      clear hb
      go_wp2_with fail
      with_reducible refine (num_any 1 _).mono ?_
      rintro e w78 ⟨rfl, hb⟩
      have HKw78 := Lib.hid ((HKw77.out).past hb)
      clear hb
      go_wp2_with fail
      with_reducible refine (num_any 0 _).mono ?_
      rintro e w79 ⟨rfl, hb⟩
      have HKw79 := Lib.hid ((HKw78.out).past hb)
      clear hb
      go_wp2_with fail
      with_reducible refine (tuple_any _ _ _ _).mono ?_
      rintro e w80 ⟨rfl, hb⟩
      have HKw80 := Lib.hid ((((HKw79.out).more _).past hb).push (two_rv ((Blk.new w79 #[.int .u8 1, .int .i64 1, .string ⟨#[]⟩, .slice none 0 0, .int .u8 1, .int .i64 0, .string ⟨#[]⟩, .slice none 0 0] 25).below hb) (rv_leaf _ 1 1 ⟨#[]⟩ (by decide) (by unfold Va.I64; omega) (by decide)) (rv_leaf _ 1 0 ⟨#[]⟩ (by decide) (by unfold Va.I64; omega) (by decide))))
      clear hb
      go_wp2_with fail
      with_reducible refine (actor_any 0 _).mono ?_
      rintro e w81 ⟨rfl, hb⟩
      have HKw81 := Lib.hid ((HKw80.out).past hb)
      clear hb
      go_wp2_with fail
      with_reducible refine (actor_any 5 _).mono ?_
      rintro e w82 ⟨rfl, hb⟩
      have HKw82 := Lib.hid ((HKw81.out).past hb)
      clear hb
      clear HKw61 HKw62 HKw63 HKw64 HKw65 HKw66 HKw67 HKw68 HKw69 HKw70 HKw71 HKw72 HKw73 HKw74 HKw75 HKw76 HKw77 HKw78 HKw79 HKw80 HKw81
      go_wp2_with fail
      refine (?_ : ∀ CF : Array Value, (∀ (i : Nat) (hi : i < Va.row15.length), Ord w82 CF i hi) → Code.wp _ _ _ _ (w82.alloc (.cells CF 25))) _ (ord_ents HKw82.out _ rfl)
      intro CF hent
      have HE := Lib.hid hent
      have HKW := Lib.hid (show Kl w [] w82 from ⟨HKw82.out.bl, HKw82.out.tab, fun p hp => by cases hp⟩)
      clear hent HKw82
      go_loopw [20] (fun iv V => ∃ i : Nat, i ≤ 15 ∧ iv = .int .i64 i ∧ Below w82.heap.size w82 V ∧ Blk V w82.heap.size CF 25) (fun iv _ => 15 - (intOf iv).toNat)
      case atStart => exact ⟨0, by omega, rfl, (Below.refl _ _).alloc (Nat.le_refl _) _, Blk.new _ _ _⟩
      case round =>
        obtain ⟨i, hi, rfl, hbV, hBE⟩ := hrel
        have HBV := Lib.hid hbV
        have HBE := Lib.hid hBE
        clear hbV hBE
        by_cases hlt : i < 15
        · have hj0 : (0 : Int) ≤ (i : Int) := by omega
          have hj1 : (i : Int) < 15 := by omega
          obtain ⟨V1, rfl⟩ : ∃ V1, V1 = wr := ⟨_, rfl⟩
          go_wp2_with fail
          go_loopw [21] (fun kv V => ∃ k : Nat, k ≤ 15 ∧ kv = .int .i64 k ∧ Below w82.heap.size w82 V ∧ Blk V w82.heap.size CF 25) (fun kv _ => 15 - (intOf kv).toNat)
          case atStart => exact ⟨0, by omega, rfl, HBV.out, HBE.out⟩
          case round =>
            obtain ⟨k, hk, rfl, hbV, hBE⟩ := hrel
            have HBW := Lib.hid hbV
            have HBF := Lib.hid hBE
            by_cases hlk : k < 15
            · have hk0 : (0 : Int) ≤ (k : Int) := by omega
              have hk1 : (k : Int) < 15 := by omega
              by_cases hik : i = k
              · subst hik
                obtain ⟨a1, b1, c1, d1, x0, x1, x2, x3, hrv⟩ := HE.out i hlt
                obtain ⟨hcm1, hcm2⟩ := Va.row_ok i i hlt hlt
                generalize Va.row15[i]'hlt = va at hrv hcm1 hcm2
                obtain ⟨kk, nn, ss, ll⟩ := va
                obtain ⟨bb1, cc1, hxx, -, -, -, -⟩ := hrv.inv
                cases hxx
                have y0 := (hBE.cell (i * 4)).trans x0
                have y1 := (hBE.cell (i * 4 + 1)).trans x1
                have y2 := (hBE.cell (i * 4 + 2)).trans x2
                have y3 := (hBE.cell (i * 4 + 3)).trans x3
                have HX := Lib.hid (And.intro x0 (And.intro x1 (And.intro x2 x3)))
                have z0 := y0
                have z1 := y1
                have z2 := y2
                have z3 := y3
                have ylt := hBE.lt
                have hcv : Va.cmpV (.mk kk nn ss ll) (.mk kk nn ss ll) 16 = 0 := by rw [decide_eq_true rfl] at hcm2; exact of_decide_eq_true hcm2
                have CC := Lib.hid (fun V (hb : Below w82.heap.size w82 V) => Cmp_lit _ _ _ _ _ _ V 0 hcv (hrv.past hb) (hrv.past hb))
                have CQ := Lib.hid (fun V (hb : Below w82.heap.size w82 V) => Same_lit _ _ _ _ _ _ V true (by rw [hcv]; rfl) (hrv.past hb) (hrv.past hb))
                clear x0 x1 x2 x3 hbV hBE hcm1 hcm2 hrv hcv
                go_upto_region 23 with (fail)
                refine wp_region_T_drew (fun w' => w'.cell? ⟨w82.heap.size, i * 4, none⟩ = some (.int .u8 kk) ∧ w'.cell? ⟨w82.heap.size, i * 4 + 1, none⟩ = some (.int .i64 nn) ∧ w'.cell? ⟨w82.heap.size, i * 4 + 2, none⟩ = some (.string ss) ∧ w'.cell? ⟨w82.heap.size, i * 4 + 3, none⟩ = some (.slice bb1 ll.length cc1) ∧ w'.cell? ⟨w82.heap.size, i * 4, none⟩ = some (.int .u8 kk) ∧ w'.cell? ⟨w82.heap.size, i * 4 + 1, none⟩ = some (.int .i64 nn) ∧ w'.cell? ⟨w82.heap.size, i * 4 + 2, none⟩ = some (.string ss) ∧ w'.cell? ⟨w82.heap.size, i * 4 + 3, none⟩ = some (.slice bb1 ll.length cc1)) 10 (by kernel_rfl) ⟨y0, y1, y2, y3, z0, z1, z2, z3⟩ (fun hS => ?_)
                have hdr : Below wr.heap.size wr wr.drew := (Below.refl _ _).drew
                have HV2 := Lib.hid (HBW.out.trans (hdr.mono HBW.out.size))
                have HBE2 := Lib.hid (HBF.out.below hdr)
                clear hdr HBW HBF y0 y1 y2 y3 z0 z1 z2 z3 ylt
                refine wpAnyT_take 0 rfl (by kernel_rfl) (by kernel_rfl) (by decide) (by kernel_rfl) (by kernel_rfl) (fun _ _ _ h => h) hS (by kernel_rfl) (v := ?_) ?_ ?_
                rotate_left
                · intro w' hSw; (try dsimp only at hSw); go_simp; (try with_reducible rfl)
                simp only [Act.put, List.setIfInBounds_toArray, List.set_cons_zero, List.set_cons_succ]
                refine wpAnyT_take 1 rfl (by kernel_rfl) (by kernel_rfl) (by decide) (by kernel_rfl) (by kernel_rfl) (fun _ _ _ h => h) hS (by kernel_rfl) (v := ?_) ?_ ?_
                rotate_left
                · intro w' hSw; (try dsimp only at hSw); go_simp; (try with_reducible rfl)
                simp only [Act.put, List.setIfInBounds_toArray, List.set_cons_zero, List.set_cons_succ]
                refine wpAnyT_take 2 rfl (by kernel_rfl) (by kernel_rfl) (by decide) (by kernel_rfl) (by kernel_rfl) (fun _ _ _ h => h) hS (by kernel_rfl) (v := ?_) ?_ ?_
                rotate_left
                · intro w' hSw; (try dsimp only at hSw); go_simp; (try with_reducible rfl)
                simp only [Act.put, List.setIfInBounds_toArray, List.set_cons_zero, List.set_cons_succ]
                refine wpAnyT_take 3 rfl (by kernel_rfl) (by kernel_rfl) (by decide) (by kernel_rfl) (by kernel_rfl) (fun _ _ _ h => h) hS (by kernel_rfl) (v := ?_) ?_ ?_
                rotate_left
                · intro w' hSw; (try dsimp only at hSw); go_simp; (try with_reducible rfl)
                simp only [Act.put, List.setIfInBounds_toArray, List.set_cons_zero, List.set_cons_succ]
                refine wpAnyT_take 4 rfl (by kernel_rfl) (by kernel_rfl) (by decide) (by kernel_rfl) (by kernel_rfl) (fun _ _ _ h => h) hS (by kernel_rfl) (v := ?_) ?_ ?_
                rotate_left
                · intro w' hSw; (try dsimp only at hSw); go_simp; (try with_reducible rfl)
                simp only [Act.put, List.setIfInBounds_toArray, List.set_cons_zero, List.set_cons_succ]
                refine wpAnyT_take 5 rfl (by kernel_rfl) (by kernel_rfl) (by decide) (by kernel_rfl) (by kernel_rfl) (fun _ _ _ h => h) hS (by kernel_rfl) (v := ?_) ?_ ?_
                rotate_left
                · intro w' hSw; (try dsimp only at hSw); go_simp; (try with_reducible rfl)
                simp only [Act.put, List.setIfInBounds_toArray, List.set_cons_zero, List.set_cons_succ]
                refine wpAnyT_take 6 rfl (by kernel_rfl) (by kernel_rfl) (by decide) (by kernel_rfl) (by kernel_rfl) (fun _ _ _ h => h) hS (by kernel_rfl) (v := ?_) ?_ ?_
                rotate_left
                · intro w' hSw; (try dsimp only at hSw); go_simp; (try with_reducible rfl)
                simp only [Act.put, List.setIfInBounds_toArray, List.set_cons_zero, List.set_cons_succ]
                refine wpAnyT_take 7 rfl (by kernel_rfl) (by kernel_rfl) (by decide) (by kernel_rfl) (by kernel_rfl) (fun _ _ _ h => h) hS (by kernel_rfl) (v := ?_) ?_ ?_
                rotate_left
                · intro w' hSw; (try dsimp only at hSw); go_simp; (try with_reducible rfl)
                simp only [Act.put, List.setIfInBounds_toArray, List.set_cons_zero, List.set_cons_succ]
                refine wpAnyT_one 8 (by kernel_rfl) rfl (by kernel_rfl) (fun K hK => ?_)
                go_simp
                with_reducible refine (CC.out _ HV2.out).mono ?_
                rintro e V3 ⟨rfl, hb5⟩
                have HV3 := Lib.hid (HV2.out.trans (hb5.mono HV2.out.size))
                have HBE3 := Lib.hid (HBE2.out.below hb5)
                have hS := (show _ ∧ _ ∧ _ ∧ _ ∧ _ ∧ _ ∧ _ ∧ _ from ⟨(HBE3.out.cell (i * 4)).trans HX.out.1, (HBE3.out.cell (i * 4 + 1)).trans HX.out.2.1, (HBE3.out.cell (i * 4 + 2)).trans HX.out.2.2.1, (HBE3.out.cell (i * 4 + 3)).trans HX.out.2.2.2, (HBE3.out.cell (i * 4)).trans HX.out.1, (HBE3.out.cell (i * 4 + 1)).trans HX.out.2.1, (HBE3.out.cell (i * 4 + 2)).trans HX.out.2.2.1, (HBE3.out.cell (i * 4 + 3)).trans HX.out.2.2.2⟩)
                refine hK _ _ (fun _ => hS) ?_
                clear hb5 HV2 HBE2 hK K
                refine wpAnyT_pure 9 rfl (by kernel_rfl) (by decide) (by kernel_rfl) (by kernel_rfl) (fun _ _ _ h => h) hS (by kernel_rfl) (v := ?_) ?_ ?_
                rotate_left
                · intro w'; go_simp; (try with_reducible rfl)
                simp only [Act.put, List.setIfInBounds_toArray, List.set_cons_zero, List.set_cons_succ]
                refine wpAnyT_done (by kernel_rfl) ?_
                have HS3 := Lib.hid hS
                clear hS CC
                have hS0 := HS3.out
                go_upto_region 24 with (fail)
                refine wp_region_T_drew (fun w' => w'.cell? ⟨w82.heap.size, i * 4, none⟩ = some (.int .u8 kk) ∧ w'.cell? ⟨w82.heap.size, i * 4 + 1, none⟩ = some (.int .i64 nn) ∧ w'.cell? ⟨w82.heap.size, i * 4 + 2, none⟩ = some (.string ss) ∧ w'.cell? ⟨w82.heap.size, i * 4 + 3, none⟩ = some (.slice bb1 ll.length cc1) ∧ w'.cell? ⟨w82.heap.size, i * 4, none⟩ = some (.int .u8 kk) ∧ w'.cell? ⟨w82.heap.size, i * 4 + 1, none⟩ = some (.int .i64 nn) ∧ w'.cell? ⟨w82.heap.size, i * 4 + 2, none⟩ = some (.string ss) ∧ w'.cell? ⟨w82.heap.size, i * 4 + 3, none⟩ = some (.slice bb1 ll.length cc1)) 29 (by kernel_rfl) hS0 (fun hS => ?_)
                have hdr : Below V3.heap.size V3 V3.drew := (Below.refl _ _).drew
                have HV4 := Lib.hid (HV3.out.trans (hdr.mono HV3.out.size))
                have HBE4 := Lib.hid (HBE3.out.below hdr)
                clear hdr HV3 HBE3 hS0 HS3
                refine wpAnyT_pure 0 rfl (by kernel_rfl) (by decide) (by kernel_rfl) (by kernel_rfl) (fun _ _ _ h => h) hS (by kernel_rfl) (v := ?_) ?_ ?_
                rotate_left
                · intro w'; go_simp; (try with_reducible rfl)
                simp only [Act.put, List.setIfInBounds_toArray, List.set_cons_zero, List.set_cons_succ]
                refine wpAnyT_pure 1 rfl (by kernel_rfl) (by decide) (by kernel_rfl) (by kernel_rfl) (fun _ _ _ h => h) hS (by kernel_rfl) (v := ?_) ?_ ?_
                rotate_left
                · intro w'; go_simp; (try with_reducible rfl)
                simp only [Act.put, List.setIfInBounds_toArray, List.set_cons_zero, List.set_cons_succ]
                refine wpAnyT_pure 2 rfl (by kernel_rfl) (by decide) (by kernel_rfl) (by kernel_rfl) (fun _ _ _ h => h) hS (by kernel_rfl) (v := ?_) ?_ ?_
                rotate_left
                · intro w'; go_simp; (try with_reducible rfl)
                simp only [Act.put, List.setIfInBounds_toArray, List.set_cons_zero, List.set_cons_succ]
                refine wpAnyT_pure 3 rfl (by kernel_rfl) (by decide) (by kernel_rfl) (by kernel_rfl) (fun _ _ _ h => h) hS (by kernel_rfl) (v := ?_) ?_ ?_
                rotate_left
                · intro w'; go_simp; (try with_reducible rfl)
                simp only [Act.put, List.setIfInBounds_toArray, List.set_cons_zero, List.set_cons_succ]
                refine wpAnyT_pure 4 rfl (by kernel_rfl) (by decide) (by kernel_rfl) (by kernel_rfl) (fun _ _ _ h => h) hS (by kernel_rfl) (v := ?_) ?_ ?_
                rotate_left
                · intro w'; go_simp; (try with_reducible rfl)
                simp only [Act.put, List.setIfInBounds_toArray, List.set_cons_zero, List.set_cons_succ]
                refine wpAnyT_pure 5 rfl (by kernel_rfl) (by decide) (by kernel_rfl) (by kernel_rfl) (fun _ _ _ h => h) hS (by kernel_rfl) (v := ?_) ?_ ?_
                rotate_left
                · intro w'; go_simp; (try with_reducible rfl)
                simp only [Act.put, List.setIfInBounds_toArray, List.set_cons_zero, List.set_cons_succ]
                refine wpAnyT_pure 6 rfl (by kernel_rfl) (by decide) (by kernel_rfl) (by kernel_rfl) (fun _ _ _ h => h) hS (by kernel_rfl) (v := ?_) ?_ ?_
                rotate_left
                · intro w'; go_simp; (try with_reducible rfl)
                simp only [Act.put, List.setIfInBounds_toArray, List.set_cons_zero, List.set_cons_succ]
                refine wpAnyT_pure 7 rfl (by kernel_rfl) (by decide) (by kernel_rfl) (by kernel_rfl) (fun _ _ _ h => h) hS (by kernel_rfl) (v := ?_) ?_ ?_
                rotate_left
                · intro w'; go_simp; (try with_reducible rfl)
                simp only [Act.put, List.setIfInBounds_toArray, List.set_cons_zero, List.set_cons_succ]
                refine wpAnyT_pure 8 rfl (by kernel_rfl) (by decide) (by kernel_rfl) (by kernel_rfl) (fun _ _ _ h => h) hS (by kernel_rfl) (v := ?_) ?_ ?_
                rotate_left
                · intro w'; go_simp; (try with_reducible rfl)
                simp only [Act.put, List.setIfInBounds_toArray, List.set_cons_zero, List.set_cons_succ]
                refine wpAnyT_pure 9 rfl (by kernel_rfl) (by decide) (by kernel_rfl) (by kernel_rfl) (fun _ _ _ h => h) hS (by kernel_rfl) (v := ?_) ?_ ?_
                rotate_left
                · intro w'; go_simp; (try with_reducible rfl)
                simp only [Act.put, List.setIfInBounds_toArray, List.set_cons_zero, List.set_cons_succ]
                refine wpAnyT_pure 10 rfl (by kernel_rfl) (by decide) (by kernel_rfl) (by kernel_rfl) (fun _ _ _ h => h) hS (by kernel_rfl) (v := ?_) ?_ ?_
                rotate_left
                · intro w'; go_simp; (try with_reducible rfl)
                simp only [Act.put, List.setIfInBounds_toArray, List.set_cons_zero, List.set_cons_succ]
                refine wpAnyT_pure 11 rfl (by kernel_rfl) (by decide) (by kernel_rfl) (by kernel_rfl) (fun _ _ _ h => h) hS (by kernel_rfl) (v := ?_) ?_ ?_
                rotate_left
                · intro w'; go_simp; (try with_reducible rfl)
                simp only [Act.put, List.setIfInBounds_toArray, List.set_cons_zero, List.set_cons_succ]
                refine wpAnyT_pure 12 rfl (by kernel_rfl) (by decide) (by kernel_rfl) (by kernel_rfl) (fun _ _ _ h => h) hS (by kernel_rfl) (v := ?_) ?_ ?_
                rotate_left
                · intro w'; go_simp; (try with_reducible rfl)
                simp only [Act.put, List.setIfInBounds_toArray, List.set_cons_zero, List.set_cons_succ]
                refine wpAnyT_pure 13 rfl (by kernel_rfl) (by decide) (by kernel_rfl) (by kernel_rfl) (fun _ _ _ h => h) hS (by kernel_rfl) (v := ?_) ?_ ?_
                rotate_left
                · intro w'; go_simp; (try with_reducible rfl)
                simp only [Act.put, List.setIfInBounds_toArray, List.set_cons_zero, List.set_cons_succ]
                refine wpAnyT_pure 14 rfl (by kernel_rfl) (by decide) (by kernel_rfl) (by kernel_rfl) (fun _ _ _ h => h) hS (by kernel_rfl) (v := ?_) ?_ ?_
                rotate_left
                · intro w'; go_simp; (try with_reducible rfl)
                simp only [Act.put, List.setIfInBounds_toArray, List.set_cons_zero, List.set_cons_succ]
                refine wpAnyT_pure 15 rfl (by kernel_rfl) (by decide) (by kernel_rfl) (by kernel_rfl) (fun _ _ _ h => h) hS (by kernel_rfl) (v := ?_) ?_ ?_
                rotate_left
                · intro w'; go_simp; (try with_reducible rfl)
                simp only [Act.put, List.setIfInBounds_toArray, List.set_cons_zero, List.set_cons_succ]
                refine wpAnyT_pure 16 rfl (by kernel_rfl) (by decide) (by kernel_rfl) (by kernel_rfl) (fun _ _ _ h => h) hS (by kernel_rfl) (v := ?_) ?_ ?_
                rotate_left
                · intro w'; go_simp; (try with_reducible rfl)
                simp only [Act.put, List.setIfInBounds_toArray, List.set_cons_zero, List.set_cons_succ]
                refine wpAnyT_pure 17 rfl (by kernel_rfl) (by decide) (by kernel_rfl) (by kernel_rfl) (fun _ _ _ h => h) hS (by kernel_rfl) (v := ?_) ?_ ?_
                rotate_left
                · intro w'; go_simp; (try with_reducible rfl)
                simp only [Act.put, List.setIfInBounds_toArray, List.set_cons_zero, List.set_cons_succ]
                refine wpAnyT_take 18 rfl (by kernel_rfl) (by kernel_rfl) (by decide) (by kernel_rfl) (by kernel_rfl) (fun _ _ _ h => h) hS (by kernel_rfl) (v := ?_) ?_ ?_
                rotate_left
                · intro w' hSw; (try dsimp only at hSw); go_simp; (try with_reducible rfl)
                simp only [Act.put, List.setIfInBounds_toArray, List.set_cons_zero, List.set_cons_succ]
                refine wpAnyT_pure 19 rfl (by kernel_rfl) (by decide) (by kernel_rfl) (by kernel_rfl) (fun _ _ _ h => h) hS (by kernel_rfl) (v := ?_) ?_ ?_
                rotate_left
                · intro w'; go_simp; (try with_reducible rfl)
                simp only [Act.put, List.setIfInBounds_toArray, List.set_cons_zero, List.set_cons_succ]
                refine wpAnyT_pure 20 rfl (by kernel_rfl) (by decide) (by kernel_rfl) (by kernel_rfl) (fun _ _ _ h => h) hS (by kernel_rfl) (v := ?_) ?_ ?_
                rotate_left
                · intro w'; go_simp; (try with_reducible rfl)
                simp only [Act.put, List.setIfInBounds_toArray, List.set_cons_zero, List.set_cons_succ]
                refine wpAnyT_pure 21 rfl (by kernel_rfl) (by decide) (by kernel_rfl) (by kernel_rfl) (fun _ _ _ h => h) hS (by kernel_rfl) (v := ?_) ?_ ?_
                rotate_left
                · intro w'; go_simp; (try with_reducible rfl)
                simp only [Act.put, List.setIfInBounds_toArray, List.set_cons_zero, List.set_cons_succ]
                refine wpAnyT_take 22 rfl (by kernel_rfl) (by kernel_rfl) (by decide) (by kernel_rfl) (by kernel_rfl) (fun _ _ _ h => h) hS (by kernel_rfl) (v := ?_) ?_ ?_
                rotate_left
                · intro w' hSw; (try dsimp only at hSw); go_simp; (try with_reducible rfl)
                simp only [Act.put, List.setIfInBounds_toArray, List.set_cons_zero, List.set_cons_succ]
                refine wpAnyT_pure 24 rfl (by kernel_rfl) (by decide) (by kernel_rfl) (by kernel_rfl) (fun _ _ _ h => h) hS (by kernel_rfl) (v := ?_) ?_ ?_
                rotate_left
                · intro w'; go_simp; (try with_reducible rfl)
                simp only [Act.put, List.setIfInBounds_toArray, List.set_cons_zero, List.set_cons_succ]
                refine wpAnyT_pure 25 rfl (by kernel_rfl) (by decide) (by kernel_rfl) (by kernel_rfl) (fun _ _ _ h => h) hS (by kernel_rfl) (v := ?_) ?_ ?_
                rotate_left
                · intro w'; go_simp; (try with_reducible rfl)
                simp only [Act.put, List.setIfInBounds_toArray, List.set_cons_zero, List.set_cons_succ]
                refine wpAnyT_pure 26 rfl (by kernel_rfl) (by decide) (by kernel_rfl) (by kernel_rfl) (fun _ _ _ h => h) hS (by kernel_rfl) (v := ?_) ?_ ?_
                rotate_left
                · intro w'; go_simp; (try with_reducible rfl)
                simp only [Act.put, List.setIfInBounds_toArray, List.set_cons_zero, List.set_cons_succ]
                refine wpAnyT_one 23 (by kernel_rfl) rfl (by kernel_rfl) (fun K hK => ?_)
                go_simp
                with_reducible refine (CQ.out _ HV4.out).mono ?_
                rintro e V5 ⟨rfl, hb5⟩
                have HV5 := Lib.hid (HV4.out.trans (hb5.mono HV4.out.size))
                have HBE5 := Lib.hid (HBE4.out.below hb5)
                have hS := (show _ ∧ _ ∧ _ ∧ _ ∧ _ ∧ _ ∧ _ ∧ _ from ⟨(HBE5.out.cell (i * 4)).trans HX.out.1, (HBE5.out.cell (i * 4 + 1)).trans HX.out.2.1, (HBE5.out.cell (i * 4 + 2)).trans HX.out.2.2.1, (HBE5.out.cell (i * 4 + 3)).trans HX.out.2.2.2, (HBE5.out.cell (i * 4)).trans HX.out.1, (HBE5.out.cell (i * 4 + 1)).trans HX.out.2.1, (HBE5.out.cell (i * 4 + 2)).trans HX.out.2.2.1, (HBE5.out.cell (i * 4 + 3)).trans HX.out.2.2.2⟩)
                refine hK _ _ (fun _ => hS) ?_
                clear hb5 HV4 HBE4 hK K
                refine wpAnyT_pure 27 rfl (by kernel_rfl) (by decide) (by kernel_rfl) (by kernel_rfl) (fun _ _ _ h => h) hS (by kernel_rfl) (v := ?_) ?_ ?_
                rotate_left
                · intro w'; go_simp; (try with_reducible rfl)
                simp only [Act.put, List.setIfInBounds_toArray, List.set_cons_zero, List.set_cons_succ]
                refine wpAnyT_pure 28 rfl (by kernel_rfl) (by decide) (by kernel_rfl) (by kernel_rfl) (fun _ _ _ h => h) hS (by kernel_rfl) (v := ?_) ?_ ?_
                rotate_left
                · intro w'; go_simp; (try with_reducible rfl)
                simp only [Act.put, List.setIfInBounds_toArray, List.set_cons_zero, List.set_cons_succ]
                refine wpAnyT_done (by kernel_rfl) ?_
                clear hS CQ
                go_wp2
                go_roundw
                case rel => exact ⟨i + 1, by omega, by go_num, HV5.out, HBE5.out⟩
                case measure => simp [intOf]; omega
              · obtain ⟨a1, b1, c1, d1, x0, x1, x2, x3, hrv⟩ := HE.out i hlt
                obtain ⟨a2, b2, c2, d2, u0', u1', u2', u3', hrv'⟩ := HE.out k hlk
                obtain ⟨hcm1, hcm2⟩ := Va.row_ok i k hlt hlk
                generalize Va.row15[i]'hlt = va at hrv hcm1 hcm2
                generalize Va.row15[k]'hlk = vb at hrv' hcm1 hcm2
                obtain ⟨kk, nn, ss, ll⟩ := va
                obtain ⟨kk', nn', ss', ll'⟩ := vb
                obtain ⟨bb1, cc1, hxx, -, -, -, -⟩ := hrv.inv
                cases hxx
                obtain ⟨bb2, cc2, hxx, -, -, -, -⟩ := hrv'.inv
                cases hxx
                have y0 := (hBE.cell (i * 4)).trans x0
                have y1 := (hBE.cell (i * 4 + 1)).trans x1
                have y2 := (hBE.cell (i * 4 + 2)).trans x2
                have y3 := (hBE.cell (i * 4 + 3)).trans x3
                have HX := Lib.hid (And.intro x0 (And.intro x1 (And.intro x2 x3)))
                have z0 := (hBE.cell (k * 4)).trans u0'
                have z1 := (hBE.cell (k * 4 + 1)).trans u1'
                have z2 := (hBE.cell (k * 4 + 2)).trans u2'
                have z3 := (hBE.cell (k * 4 + 3)).trans u3'
                have ylt := hBE.lt
                have HU := Lib.hid (And.intro u0' (And.intro u1' (And.intro u2' u3')))
                obtain ⟨cv, hcv⟩ : ∃ cv, Va.cmpV (.mk kk nn ss ll) (.mk kk' nn' ss' ll') 16 = cv := ⟨_, rfl⟩
                have CC := Lib.hid (fun V (hb : Below w82.heap.size w82 V) => Cmp_lit _ _ _ _ _ _ V cv hcv (hrv.past hb) (hrv'.past hb))
                rw [hcv] at hcm1 hcm2
                have hne : cv ≠ 0 := by rw [decide_eq_false hik] at hcm2; exact of_decide_eq_false hcm2
                have h5 : (cv == 0) = false := beq_eq_false_iff_ne.2 hne
                have CQ := Lib.hid (fun V (hb : Below w82.heap.size w82 V) => Same_lit _ _ _ _ _ _ V false (by rw [hcv]; exact h5) (hrv.past hb) (hrv'.past hb))
                have h6 : ((i : Int) == (k : Int)) = false := beq_eq_false_iff_ne.2 (by omega)
                obtain ⟨bo, hbo⟩ : ∃ bo, decide (cv < 0) = bo := ⟨_, rfl⟩
                have hbo2 : decide (i < k) = bo := by rw [← hbo, hcm1]
                clear x0 x1 x2 x3 u0' u1' u2' u3' hbV hBE hcm1 hcm2 hrv hrv' hcv
                go_upto_region 23 with (fail)
                refine wp_region_T_drew (fun w' => w'.cell? ⟨w82.heap.size, i * 4, none⟩ = some (.int .u8 kk) ∧ w'.cell? ⟨w82.heap.size, i * 4 + 1, none⟩ = some (.int .i64 nn) ∧ w'.cell? ⟨w82.heap.size, i * 4 + 2, none⟩ = some (.string ss) ∧ w'.cell? ⟨w82.heap.size, i * 4 + 3, none⟩ = some (.slice bb1 ll.length cc1) ∧ w'.cell? ⟨w82.heap.size, k * 4, none⟩ = some (.int .u8 kk') ∧ w'.cell? ⟨w82.heap.size, k * 4 + 1, none⟩ = some (.int .i64 nn') ∧ w'.cell? ⟨w82.heap.size, k * 4 + 2, none⟩ = some (.string ss') ∧ w'.cell? ⟨w82.heap.size, k * 4 + 3, none⟩ = some (.slice bb2 ll'.length cc2)) 10 (by kernel_rfl) ⟨y0, y1, y2, y3, z0, z1, z2, z3⟩ (fun hS => ?_)
                have hdr : Below wr.heap.size wr wr.drew := (Below.refl _ _).drew
                have HV2 := Lib.hid (HBW.out.trans (hdr.mono HBW.out.size))
                have HBE2 := Lib.hid (HBF.out.below hdr)
                clear hdr HBW HBF y0 y1 y2 y3 z0 z1 z2 z3 ylt
                refine wpAnyT_take 0 rfl (by kernel_rfl) (by kernel_rfl) (by decide) (by kernel_rfl) (by kernel_rfl) (fun _ _ _ h => h) hS (by kernel_rfl) (v := ?_) ?_ ?_
                rotate_left
                · intro w' hSw; (try dsimp only at hSw); go_simp; (try with_reducible rfl)
                simp only [Act.put, List.setIfInBounds_toArray, List.set_cons_zero, List.set_cons_succ]
                refine wpAnyT_take 1 rfl (by kernel_rfl) (by kernel_rfl) (by decide) (by kernel_rfl) (by kernel_rfl) (fun _ _ _ h => h) hS (by kernel_rfl) (v := ?_) ?_ ?_
                rotate_left
                · intro w' hSw; (try dsimp only at hSw); go_simp; (try with_reducible rfl)
                simp only [Act.put, List.setIfInBounds_toArray, List.set_cons_zero, List.set_cons_succ]
                refine wpAnyT_take 2 rfl (by kernel_rfl) (by kernel_rfl) (by decide) (by kernel_rfl) (by kernel_rfl) (fun _ _ _ h => h) hS (by kernel_rfl) (v := ?_) ?_ ?_
                rotate_left
                · intro w' hSw; (try dsimp only at hSw); go_simp; (try with_reducible rfl)
                simp only [Act.put, List.setIfInBounds_toArray, List.set_cons_zero, List.set_cons_succ]
                refine wpAnyT_take 3 rfl (by kernel_rfl) (by kernel_rfl) (by decide) (by kernel_rfl) (by kernel_rfl) (fun _ _ _ h => h) hS (by kernel_rfl) (v := ?_) ?_ ?_
                rotate_left
                · intro w' hSw; (try dsimp only at hSw); go_simp; (try with_reducible rfl)
                simp only [Act.put, List.setIfInBounds_toArray, List.set_cons_zero, List.set_cons_succ]
                refine wpAnyT_take 4 rfl (by kernel_rfl) (by kernel_rfl) (by decide) (by kernel_rfl) (by kernel_rfl) (fun _ _ _ h => h) hS (by kernel_rfl) (v := ?_) ?_ ?_
                rotate_left
                · intro w' hSw; (try dsimp only at hSw); go_simp; (try with_reducible rfl)
                simp only [Act.put, List.setIfInBounds_toArray, List.set_cons_zero, List.set_cons_succ]
                refine wpAnyT_take 5 rfl (by kernel_rfl) (by kernel_rfl) (by decide) (by kernel_rfl) (by kernel_rfl) (fun _ _ _ h => h) hS (by kernel_rfl) (v := ?_) ?_ ?_
                rotate_left
                · intro w' hSw; (try dsimp only at hSw); go_simp; (try with_reducible rfl)
                simp only [Act.put, List.setIfInBounds_toArray, List.set_cons_zero, List.set_cons_succ]
                refine wpAnyT_take 6 rfl (by kernel_rfl) (by kernel_rfl) (by decide) (by kernel_rfl) (by kernel_rfl) (fun _ _ _ h => h) hS (by kernel_rfl) (v := ?_) ?_ ?_
                rotate_left
                · intro w' hSw; (try dsimp only at hSw); go_simp; (try with_reducible rfl)
                simp only [Act.put, List.setIfInBounds_toArray, List.set_cons_zero, List.set_cons_succ]
                refine wpAnyT_take 7 rfl (by kernel_rfl) (by kernel_rfl) (by decide) (by kernel_rfl) (by kernel_rfl) (fun _ _ _ h => h) hS (by kernel_rfl) (v := ?_) ?_ ?_
                rotate_left
                · intro w' hSw; (try dsimp only at hSw); go_simp; (try with_reducible rfl)
                simp only [Act.put, List.setIfInBounds_toArray, List.set_cons_zero, List.set_cons_succ]
                refine wpAnyT_one 8 (by kernel_rfl) rfl (by kernel_rfl) (fun K hK => ?_)
                go_simp
                with_reducible refine (CC.out _ HV2.out).mono ?_
                rintro e V3 ⟨rfl, hb5⟩
                have HV3 := Lib.hid (HV2.out.trans (hb5.mono HV2.out.size))
                have HBE3 := Lib.hid (HBE2.out.below hb5)
                have hS := (show _ ∧ _ ∧ _ ∧ _ ∧ _ ∧ _ ∧ _ ∧ _ from ⟨(HBE3.out.cell (i * 4)).trans HX.out.1, (HBE3.out.cell (i * 4 + 1)).trans HX.out.2.1, (HBE3.out.cell (i * 4 + 2)).trans HX.out.2.2.1, (HBE3.out.cell (i * 4 + 3)).trans HX.out.2.2.2, (HBE3.out.cell (k * 4)).trans HU.out.1, (HBE3.out.cell (k * 4 + 1)).trans HU.out.2.1, (HBE3.out.cell (k * 4 + 2)).trans HU.out.2.2.1, (HBE3.out.cell (k * 4 + 3)).trans HU.out.2.2.2⟩)
                refine hK _ _ (fun _ => hS) ?_
                clear hb5 HV2 HBE2 hK K
                refine wpAnyT_pure 9 rfl (by kernel_rfl) (by decide) (by kernel_rfl) (by kernel_rfl) (fun _ _ _ h => h) hS (by kernel_rfl) (v := ?_) ?_ ?_
                rotate_left
                · intro w'; go_simp; (try with_reducible rfl)
                simp only [Act.put, List.setIfInBounds_toArray, List.set_cons_zero, List.set_cons_succ]
                refine wpAnyT_done (by kernel_rfl) ?_
                have HS3 := Lib.hid hS
                clear hS CC
                have hS0 := HS3.out
                go_upto_region 24 with (fail)
                refine wp_region_T_drew (fun w' => w'.cell? ⟨w82.heap.size, i * 4, none⟩ = some (.int .u8 kk) ∧ w'.cell? ⟨w82.heap.size, i * 4 + 1, none⟩ = some (.int .i64 nn) ∧ w'.cell? ⟨w82.heap.size, i * 4 + 2, none⟩ = some (.string ss) ∧ w'.cell? ⟨w82.heap.size, i * 4 + 3, none⟩ = some (.slice bb1 ll.length cc1) ∧ w'.cell? ⟨w82.heap.size, k * 4, none⟩ = some (.int .u8 kk') ∧ w'.cell? ⟨w82.heap.size, k * 4 + 1, none⟩ = some (.int .i64 nn') ∧ w'.cell? ⟨w82.heap.size, k * 4 + 2, none⟩ = some (.string ss') ∧ w'.cell? ⟨w82.heap.size, k * 4 + 3, none⟩ = some (.slice bb2 ll'.length cc2)) 29 (by kernel_rfl) hS0 (fun hS => ?_)
                have hdr : Below V3.heap.size V3 V3.drew := (Below.refl _ _).drew
                have HV4 := Lib.hid (HV3.out.trans (hdr.mono HV3.out.size))
                have HBE4 := Lib.hid (HBE3.out.below hdr)
                clear hdr HV3 HBE3 hS0 HS3
                refine wpAnyT_pure 0 rfl (by kernel_rfl) (by decide) (by kernel_rfl) (by kernel_rfl) (fun _ _ _ h => h) hS (by kernel_rfl) (v := ?_) ?_ ?_
                rotate_left
                · intro w'; go_simp; (try with_reducible rfl)
                simp only [Act.put, List.setIfInBounds_toArray, List.set_cons_zero, List.set_cons_succ]
                refine wpAnyT_pure 1 rfl (by kernel_rfl) (by decide) (by kernel_rfl) (by kernel_rfl) (fun _ _ _ h => h) hS (by kernel_rfl) (v := ?_) ?_ ?_
                rotate_left
                · intro w'; go_simp; (try with_reducible rfl)
                simp only [Act.put, List.setIfInBounds_toArray, List.set_cons_zero, List.set_cons_succ]
                refine wpAnyT_pure 2 rfl (by kernel_rfl) (by decide) (by kernel_rfl) (by kernel_rfl) (fun _ _ _ h => h) hS (by kernel_rfl) (v := ?_) ?_ ?_
                rotate_left
                · intro w'; go_simp; (try with_reducible rfl)
                simp only [Act.put, List.setIfInBounds_toArray, List.set_cons_zero, List.set_cons_succ]
                refine wpAnyT_pure 3 rfl (by kernel_rfl) (by decide) (by kernel_rfl) (by kernel_rfl) (fun _ _ _ h => h) hS (by kernel_rfl) (v := ?_) ?_ ?_
                rotate_left
                · intro w'; go_simp; (try with_reducible rfl)
                simp only [Act.put, List.setIfInBounds_toArray, List.set_cons_zero, List.set_cons_succ]
                refine wpAnyT_pure 4 rfl (by kernel_rfl) (by decide) (by kernel_rfl) (by kernel_rfl) (fun _ _ _ h => h) hS (by kernel_rfl) (v := ?_) ?_ ?_
                rotate_left
                · intro w'; go_simp; (try with_reducible rfl)
                simp only [Act.put, List.setIfInBounds_toArray, List.set_cons_zero, List.set_cons_succ]
                refine wpAnyT_pure 5 rfl (by kernel_rfl) (by decide) (by kernel_rfl) (by kernel_rfl) (fun _ _ _ h => h) hS (by kernel_rfl) (v := ?_) ?_ ?_
                rotate_left
                · intro w'; go_simp; (try with_reducible rfl)
                simp only [Act.put, List.setIfInBounds_toArray, List.set_cons_zero, List.set_cons_succ]
                refine wpAnyT_pure 6 rfl (by kernel_rfl) (by decide) (by kernel_rfl) (by kernel_rfl) (fun _ _ _ h => h) hS (by kernel_rfl) (v := ?_) ?_ ?_
                rotate_left
                · intro w'; go_simp; (try with_reducible rfl)
                simp only [Act.put, List.setIfInBounds_toArray, List.set_cons_zero, List.set_cons_succ]
                refine wpAnyT_pure 7 rfl (by kernel_rfl) (by decide) (by kernel_rfl) (by kernel_rfl) (fun _ _ _ h => h) hS (by kernel_rfl) (v := ?_) ?_ ?_
                rotate_left
                · intro w'; go_simp; (try with_reducible rfl)
                simp only [Act.put, List.setIfInBounds_toArray, List.set_cons_zero, List.set_cons_succ]
                refine wpAnyT_pure 8 rfl (by kernel_rfl) (by decide) (by kernel_rfl) (by kernel_rfl) (fun _ _ _ h => h) hS (by kernel_rfl) (v := ?_) ?_ ?_
                rotate_left
                · intro w'; go_simp; (try with_reducible rfl)
                simp only [Act.put, List.setIfInBounds_toArray, List.set_cons_zero, List.set_cons_succ]
                refine wpAnyT_pure 9 rfl (by kernel_rfl) (by decide) (by kernel_rfl) (by kernel_rfl) (fun _ _ _ h => h) hS (by kernel_rfl) (v := ?_) ?_ ?_
                rotate_left
                · intro w'; go_simp; (try with_reducible rfl)
                simp only [Act.put, List.setIfInBounds_toArray, List.set_cons_zero, List.set_cons_succ]
                refine wpAnyT_pure 10 rfl (by kernel_rfl) (by decide) (by kernel_rfl) (by kernel_rfl) (fun _ _ _ h => h) hS (by kernel_rfl) (v := ?_) ?_ ?_
                rotate_left
                · intro w'; go_simp; (try with_reducible rfl)
                simp only [Act.put, List.setIfInBounds_toArray, List.set_cons_zero, List.set_cons_succ]
                refine wpAnyT_pure 11 rfl (by kernel_rfl) (by decide) (by kernel_rfl) (by kernel_rfl) (fun _ _ _ h => h) hS (by kernel_rfl) (v := ?_) ?_ ?_
                rotate_left
                · intro w'; go_simp; (try with_reducible rfl)
                simp only [Act.put, List.setIfInBounds_toArray, List.set_cons_zero, List.set_cons_succ]
                refine wpAnyT_pure 12 rfl (by kernel_rfl) (by decide) (by kernel_rfl) (by kernel_rfl) (fun _ _ _ h => h) hS (by kernel_rfl) (v := ?_) ?_ ?_
                rotate_left
                · intro w'; go_simp; (try with_reducible rfl)
                simp only [Act.put, List.setIfInBounds_toArray, List.set_cons_zero, List.set_cons_succ]
                refine wpAnyT_pure 13 rfl (by kernel_rfl) (by decide) (by kernel_rfl) (by kernel_rfl) (fun _ _ _ h => h) hS (by kernel_rfl) (v := ?_) ?_ ?_
                rotate_left
                · intro w'; go_simp; (try with_reducible rfl)
                simp only [Act.put, List.setIfInBounds_toArray, List.set_cons_zero, List.set_cons_succ]
                refine wpAnyT_pure 14 rfl (by kernel_rfl) (by decide) (by kernel_rfl) (by kernel_rfl) (fun _ _ _ h => h) hS (by kernel_rfl) (v := ?_) ?_ ?_
                rotate_left
                · intro w'; go_simp; (try with_reducible rfl)
                simp only [Act.put, List.setIfInBounds_toArray, List.set_cons_zero, List.set_cons_succ]
                refine wpAnyT_pure 15 rfl (by kernel_rfl) (by decide) (by kernel_rfl) (by kernel_rfl) (fun _ _ _ h => h) hS (by kernel_rfl) (v := ?_) ?_ ?_
                rotate_left
                · intro w'; go_simp; (try with_reducible rfl)
                simp only [Act.put, List.setIfInBounds_toArray, List.set_cons_zero, List.set_cons_succ]
                refine wpAnyT_pure 16 rfl (by kernel_rfl) (by decide) (by kernel_rfl) (by kernel_rfl) (fun _ _ _ h => h) hS (by kernel_rfl) (v := ?_) ?_ ?_
                rotate_left
                · intro w'; go_simp; (try with_reducible rfl)
                simp only [Act.put, List.setIfInBounds_toArray, List.set_cons_zero, List.set_cons_succ]
                refine wpAnyT_pure 17 rfl (by kernel_rfl) (by decide) (by kernel_rfl) (by kernel_rfl) (fun _ _ _ h => h) hS (by kernel_rfl) (v := ?_) ?_ ?_
                rotate_left
                · intro w'; go_simp; (try with_reducible rfl)
                simp only [Act.put, List.setIfInBounds_toArray, List.set_cons_zero, List.set_cons_succ]
                refine wpAnyT_take 18 rfl (by kernel_rfl) (by kernel_rfl) (by decide) (by kernel_rfl) (by kernel_rfl) (fun _ _ _ h => h) hS (by kernel_rfl) (v := ?_) ?_ ?_
                rotate_left
                · intro w' hSw; (try dsimp only at hSw); go_simp; (try with_reducible rfl)
                simp only [Act.put, List.setIfInBounds_toArray, List.set_cons_zero, List.set_cons_succ]
                refine wpAnyT_pure 19 rfl (by kernel_rfl) (by decide) (by kernel_rfl) (by kernel_rfl) (fun _ _ _ h => h) hS (by kernel_rfl) (v := ?_) ?_ ?_
                rotate_left
                · intro w'; go_simp; (try with_reducible rfl)
                simp only [Act.put, List.setIfInBounds_toArray, List.set_cons_zero, List.set_cons_succ]
                refine wpAnyT_pure 20 rfl (by kernel_rfl) (by decide) (by kernel_rfl) (by kernel_rfl) (fun _ _ _ h => h) hS (by kernel_rfl) (v := ?_) ?_ ?_
                rotate_left
                · intro w'; go_simp; (try with_reducible rfl)
                simp only [Act.put, List.setIfInBounds_toArray, List.set_cons_zero, List.set_cons_succ]
                refine wpAnyT_pure 21 rfl (by kernel_rfl) (by decide) (by kernel_rfl) (by kernel_rfl) (fun _ _ _ h => h) hS (by kernel_rfl) (v := ?_) ?_ ?_
                rotate_left
                · intro w'; go_simp; (try with_reducible rfl)
                simp only [Act.put, List.setIfInBounds_toArray, List.set_cons_zero, List.set_cons_succ]
                refine wpAnyT_take 22 rfl (by kernel_rfl) (by kernel_rfl) (by decide) (by kernel_rfl) (by kernel_rfl) (fun _ _ _ h => h) hS (by kernel_rfl) (v := ?_) ?_ ?_
                rotate_left
                · intro w' hSw; (try dsimp only at hSw); go_simp; (try with_reducible rfl)
                simp only [Act.put, List.setIfInBounds_toArray, List.set_cons_zero, List.set_cons_succ]
                refine wpAnyT_pure 24 rfl (by kernel_rfl) (by decide) (by kernel_rfl) (by kernel_rfl) (fun _ _ _ h => h) hS (by kernel_rfl) (v := ?_) ?_ ?_
                rotate_left
                · intro w'; go_simp; (try with_reducible rfl)
                simp only [Act.put, List.setIfInBounds_toArray, List.set_cons_zero, List.set_cons_succ]
                refine wpAnyT_pure 25 rfl (by kernel_rfl) (by decide) (by kernel_rfl) (by kernel_rfl) (fun _ _ _ h => h) hS (by kernel_rfl) (v := ?_) ?_ ?_
                rotate_left
                · intro w'; go_simp; (try with_reducible rfl)
                simp only [Act.put, List.setIfInBounds_toArray, List.set_cons_zero, List.set_cons_succ]
                refine wpAnyT_pure 26 rfl (by kernel_rfl) (by decide) (by kernel_rfl) (by kernel_rfl) (fun _ _ _ h => h) hS (by kernel_rfl) (v := ?_) ?_ ?_
                rotate_left
                · intro w'; go_simp; (try with_reducible rfl)
                simp only [Act.put, List.setIfInBounds_toArray, List.set_cons_zero, List.set_cons_succ]
                refine wpAnyT_one 23 (by kernel_rfl) rfl (by kernel_rfl) (fun K hK => ?_)
                go_simp
                with_reducible refine (CQ.out _ HV4.out).mono ?_
                rintro e V5 ⟨rfl, hb5⟩
                have HV5 := Lib.hid (HV4.out.trans (hb5.mono HV4.out.size))
                have HBE5 := Lib.hid (HBE4.out.below hb5)
                have hS := (show _ ∧ _ ∧ _ ∧ _ ∧ _ ∧ _ ∧ _ ∧ _ from ⟨(HBE5.out.cell (i * 4)).trans HX.out.1, (HBE5.out.cell (i * 4 + 1)).trans HX.out.2.1, (HBE5.out.cell (i * 4 + 2)).trans HX.out.2.2.1, (HBE5.out.cell (i * 4 + 3)).trans HX.out.2.2.2, (HBE5.out.cell (k * 4)).trans HU.out.1, (HBE5.out.cell (k * 4 + 1)).trans HU.out.2.1, (HBE5.out.cell (k * 4 + 2)).trans HU.out.2.2.1, (HBE5.out.cell (k * 4 + 3)).trans HU.out.2.2.2⟩)
                refine hK _ _ (fun _ => hS) ?_
                clear hb5 HV4 HBE4 hK K
                refine wpAnyT_pure 27 rfl (by kernel_rfl) (by decide) (by kernel_rfl) (by kernel_rfl) (fun _ _ _ h => h) hS (by kernel_rfl) (v := ?_) ?_ ?_
                rotate_left
                · intro w'; go_simp; (try with_reducible rfl)
                simp only [Act.put, List.setIfInBounds_toArray, List.set_cons_zero, List.set_cons_succ]
                refine wpAnyT_pure 28 rfl (by kernel_rfl) (by decide) (by kernel_rfl) (by kernel_rfl) (fun _ _ _ h => h) hS (by kernel_rfl) (v := ?_) ?_ ?_
                rotate_left
                · intro w'; go_simp; (try with_reducible rfl)
                simp only [Act.put, List.setIfInBounds_toArray, List.set_cons_zero, List.set_cons_succ]
                refine wpAnyT_done (by kernel_rfl) ?_
                clear hS CQ
                go_wp2
                go_roundw
                case rel => exact ⟨k + 1, by omega, by go_num, HV5.out, HBE5.out⟩
                case measure => simp [intOf]; omega
            · obtain rfl : k = 15 := by omega
              clear hbV hBE
              go_wp2
              go_roundw
              case rel => exact ⟨i + 1, by omega, by go_num, HBW.out, HBF.out⟩
              case measure => simp [intOf]; omega
        · obtain rfl : i = 15 := by omega
          go_wp2_with fail
          with_reducible refine (awake_any _ (HKW.out.tab.past HBV.out)).mono ?_
          rintro e V9 ⟨rfl, hb⟩
          have HB9 := Lib.hid (bto (HKW.out.bl.trans (HBV.out.mono HKW.out.bl.size)) hb)
          clear hb
          go_wp2
          go_ret
          exact ⟨rfl, HB9.out⟩
end Go.Proofs.YtgamhgeiceakeaaDoor
