/- ValueOrder, the walk where all three are small. -/
import Derived.Test.YtgamhgeiceakeaaDoorVOrder
set_option linter.unusedVariables false
set_option linter.unusedSimpArgs false
namespace Go.Proofs.YtgamhgeiceakeaaDoor
open Go.RowKit
open Va (V)
set_option maxHeartbeats 6400000 in
set_option maxRecDepth 100000 in
theorem order_yes (a b c : V) (ok ok' ok2 : Nat → Prop) (xa xb xc : Value) (w : World) (ha : RV ok w a xa) (hb : RV ok' w b xb) (hc : RV ok2 w c xc) (ht : Tab w)
    (h1 : Va.smallV a 20 60 = true) (h2 : Va.smallV b 20 60 = true) (h3 : Va.smallV c 20 60 = true) :
    Calls Tryd.prog 6 #[xa, xb, xc] w (BB true w) := by
  have hwa := rv_wf ha
  have hwb := rv_wf hb
  have CA := Lib.hid (fun W (hbl : Below w.heap.size w W) => small_lit a ok xa W (ha.past hbl) _ h1)
  have CB := Lib.hid (fun W (hbl : Below w.heap.size w W) => small_lit b ok' xb W (hb.past hbl) _ h2)
  have CC := Lib.hid (fun W (hbl : Below w.heap.size w W) => small_lit c ok2 xc W (hc.past hbl) _ h3)
  have CW := Lib.hid (fun W (hbl : Below w.heap.size w W) => awake_any W (ht.past hbl))
  have CAB := Lib.hid (fun W (hbl : Below w.heap.size w W) => Cmp_lit a b ok ok' xa xb W _ rfl (ha.past hbl) (hb.past hbl))
  have CBC := Lib.hid (fun W (hbl : Below w.heap.size w W) => Cmp_lit b c ok' ok2 xb xc W _ rfl (hb.past hbl) (hc.past hbl))
  have CAC := Lib.hid (fun W (hbl : Below w.heap.size w W) => Cmp_lit a c ok ok2 xa xc W _ rfl (ha.past hbl) (hc.past hbl))
  have CBA := Lib.hid (fun W (hbl : Below w.heap.size w W) => Cmp_lit b a ok' ok xb xa W _ (Va.cmp_anti a b 16) (hb.past hbl) (ha.past hbl))
  have CAA := Lib.hid (fun W (hbl : Below w.heap.size w W) => Cmp_lit a a ok ok xa xa W _ (Va.cmp_refl a 16) (ha.past hbl) (ha.past hbl))
  have CS := Lib.hid (fun W (hbl : Below w.heap.size w W) => Same_lit a b ok ok' xa xb W _ rfl (ha.past hbl) (hb.past hbl))
  have CRA := Lib.hid (fun W (hbl : Below w.heap.size w W) => right_lit a ok xa W (ha.past hbl) _ rfl)
  have CRB := Lib.hid (fun W (hbl : Below w.heap.size w W) => right_lit b ok' xb W (hb.past hbl) _ rfl)
  have CPA := Lib.hid (fun W (hbl : Below w.heap.size w W) (hr : Va.right a = true) => put_yes a ok xa W (ha.past hbl) hr)
  have CPB := Lib.hid (fun W (hbl : Below w.heap.size w W) (hr : Va.right b = true) => put_yes b ok' xb W (hb.past hbl) hr)
  have CHA := Lib.hid (fun W (hbl : Below w.heap.size w W) => Show_any a ok xa W (ha.past hbl) (ht.past hbl))
  have CHB := Lib.hid (fun W (hbl : Below w.heap.size w W) => Show_any b ok' xb W (hb.past hbl) (ht.past hbl))
  have hbd := Va.cmp_bd a b 16
  have hbd2 := Va.cmp_bd b c 16
  have hbd3 := Va.cmp_bd a c 16
  have htri := Va.cmp_tri a b c 16
  have hEQ : Va.right a = true → Va.right b = true → ((Va.enc a == Va.enc b) = (Va.cmpV a b 16 == 0) ∧ (shownPost a == shownPost b) = (Va.cmpV a b 16 == 0)) := fun hra hrb => by
    have ra' := hra
    have rb' := hrb
    unfold Va.right at ra' rb'
    rw [Bool.and_eq_true] at ra' rb'
    have e2 := Va.cmp_zero a b 16 ra'.1 rb'.1
    unfold shownPost
    rw [if_pos hra, if_pos hrb]
    constructor
    · rw [Bool.eq_iff_iff, beq_iff_eq, beq_iff_eq, e2]
      exact ⟨Va.enc_inj a b hra hwa hrb hwb, fun h => by rw [h]⟩
    · rw [Bool.eq_iff_iff, beq_iff_eq, beq_iff_eq, e2]
      exact ⟨Va.txt_inj a b hra hrb, fun h => by rw [h]⟩
  generalize Va.cmpV a b 16 = X at CAB CBA CS hbd htri hEQ
  generalize Va.cmpV b c 16 = Y at CBC hbd2 htri
  generalize Va.cmpV a c 16 = Z at CAC hbd3 htri
  generalize Va.right a = ra at CRA hEQ CPA
  generalize Va.right b = rb at CRB hEQ CPB
  have hea := enc_ne a
  have heb := enc_ne b
  generalize Va.enc a = EA at CPA hEQ hea
  generalize Va.enc b = EB at CPB hEQ heb
  generalize shownPost a = SA at CHA hEQ
  generalize shownPost b = SBt at CHB hEQ
  have HEQ := Lib.hid hEQ
  have HTRI := Lib.hid htri
  obtain ⟨x1, x2⟩ := hbd
  obtain ⟨y1, y2⟩ := hbd2
  obtain ⟨z1, z2⟩ := hbd3
  clear hEQ htri hwa hwb h1 h2 h3
  obtain ⟨ka, na, sa, la⟩ := a
  obtain ⟨aa, ca, rfl, -, -, -, hLa⟩ := ha.inv
  obtain ⟨kb, nb, sb, lb⟩ := b
  obtain ⟨ab, cb, rfl, -, -, -, hLb⟩ := hb.inv
  obtain ⟨kc, nc, sc, lc⟩ := c
  obtain ⟨ac, cc, rfl, -, -, -, hLc⟩ := hc.inv
  have hla := hLa.le
  have hlb := hLb.le
  have hlc := hLc.le
  have hw1 : w.heap.size < w.heap.size + 1 + 1 := by omega
  have hw2 : w.heap.size < w.heap.size + 1 + 1 + 1 := by omega
  have hw3 : w.heap.size + 1 < w.heap.size + 1 + 1 + 1 := by omega
  have F0 : Kp3 w w.heap.size (w.heap.size + 1) (w.heap.size + 1 + 1) #[.int .u8 ka, .int .i64 na, .string sa, .slice aa la.length ca] #[.int .u8 kb, .int .i64 nb, .string sb, .slice ab lb.length cb] #[.int .u8 kc, .int .i64 nc, .string sc, .slice ac lc.length cc] (((w.alloc (.cells #[.int .u8 ka, .int .i64 na, .string sa, .slice aa la.length ca] 25)).alloc (.cells #[.int .u8 kb, .int .i64 nb, .string sb, .slice ab lb.length cb] 25)).alloc (.cells #[.int .u8 kc, .int .i64 nc, .string sc, .slice ac lc.length cc] 25)) := by
    have k1 : (w.alloc (.cells #[.int .u8 ka, .int .i64 na, .string sa, .slice aa la.length ca] 25)).heap.size = w.heap.size + 1 := by simp
    have k2 : ((w.alloc (.cells #[.int .u8 ka, .int .i64 na, .string sa, .slice aa la.length ca] 25)).alloc (.cells #[.int .u8 kb, .int .i64 nb, .string sb, .slice ab lb.length cb] 25)).heap.size = w.heap.size + 1 + 1 := by simp
    have b1 := Blk.new w #[.int .u8 ka, .int .i64 na, .string sa, .slice aa la.length ca] 25
    have b2 := Blk.new (w.alloc (.cells #[.int .u8 ka, .int .i64 na, .string sa, .slice aa la.length ca] 25)) #[.int .u8 kb, .int .i64 nb, .string sb, .slice ab lb.length cb] 25
    have b3 := Blk.new ((w.alloc (.cells #[.int .u8 ka, .int .i64 na, .string sa, .slice aa la.length ca] 25)).alloc (.cells #[.int .u8 kb, .int .i64 nb, .string sb, .slice ab lb.length cb] 25)) #[.int .u8 kc, .int .i64 nc, .string sc, .slice ac lc.length cc] 25
    rw [k1] at b2
    rw [k2] at b3
    exact ⟨bbox (bbox (bbox (Below.refl _ _) _) _) _, (b1.below ((Below.refl _ _).alloc (Nat.le_refl _) _)).below ((Below.refl _ _).alloc (Nat.le_refl _) _), b2.below ((Below.refl _ _).alloc (Nat.le_refl _) _), b3⟩
  have HK0 := Lib.hid F0
  clear hLa hLb hLc F0
  clear ha hb hc ht
  have e0 := HK0.out.fa.cell 0
  have e1 := HK0.out.fa.cell 1
  have e2 := HK0.out.fa.cell 2
  have e3 := HK0.out.fa.cell 3
  have elt := HK0.out.fa.lt
  have d0 := HK0.out.fb.cell 0
  have d1 := HK0.out.fb.cell 1
  have d2 := HK0.out.fb.cell 2
  have d3 := HK0.out.fb.cell 3
  have dlt := HK0.out.fb.lt
  have f0 := HK0.out.fc.cell 0
  have f1 := HK0.out.fc.cell 1
  have f2 := HK0.out.fc.cell 2
  have f3 := HK0.out.fc.cell 3
  have flt := HK0.out.fc.lt
  go_enter Tryd.func6, Tryd.ntmps6
  go_wp2_with fail
  with_reducible refine (CA.out _ HK0.out.bl).mono ?_
  rintro e w1 ⟨rfl, hb⟩
  have HKw1 := Lib.hid ((HK0.out).past hb)
  clear e0 e1 e2 e3 elt d0 d1 d2 d3 dlt f0 f1 f2 f3 flt
  have e0 := HKw1.out.fa.cell 0
  have e1 := HKw1.out.fa.cell 1
  have e2 := HKw1.out.fa.cell 2
  have e3 := HKw1.out.fa.cell 3
  have elt := HKw1.out.fa.lt
  have d0 := HKw1.out.fb.cell 0
  have d1 := HKw1.out.fb.cell 1
  have d2 := HKw1.out.fb.cell 2
  have d3 := HKw1.out.fb.cell 3
  have dlt := HKw1.out.fb.lt
  have f0 := HKw1.out.fc.cell 0
  have f1 := HKw1.out.fc.cell 1
  have f2 := HKw1.out.fc.cell 2
  have f3 := HKw1.out.fc.cell 3
  have flt := HKw1.out.fc.lt
  clear hb
  go_wp2_with fail
  with_reducible refine (CB.out _ HKw1.out.bl).mono ?_
  rintro e w2 ⟨rfl, hb⟩
  have HKw2 := Lib.hid ((HKw1.out).past hb)
  clear e0 e1 e2 e3 elt d0 d1 d2 d3 dlt f0 f1 f2 f3 flt
  have e0 := HKw2.out.fa.cell 0
  have e1 := HKw2.out.fa.cell 1
  have e2 := HKw2.out.fa.cell 2
  have e3 := HKw2.out.fa.cell 3
  have elt := HKw2.out.fa.lt
  have d0 := HKw2.out.fb.cell 0
  have d1 := HKw2.out.fb.cell 1
  have d2 := HKw2.out.fb.cell 2
  have d3 := HKw2.out.fb.cell 3
  have dlt := HKw2.out.fb.lt
  have f0 := HKw2.out.fc.cell 0
  have f1 := HKw2.out.fc.cell 1
  have f2 := HKw2.out.fc.cell 2
  have f3 := HKw2.out.fc.cell 3
  have flt := HKw2.out.fc.lt
  clear hb
  go_wp2_with fail
  with_reducible refine (CC.out _ HKw2.out.bl).mono ?_
  rintro e w3 ⟨rfl, hb⟩
  have HKw3 := Lib.hid ((HKw2.out).past hb)
  clear e0 e1 e2 e3 elt d0 d1 d2 d3 dlt f0 f1 f2 f3 flt
  have e0 := HKw3.out.fa.cell 0
  have e1 := HKw3.out.fa.cell 1
  have e2 := HKw3.out.fa.cell 2
  have e3 := HKw3.out.fa.cell 3
  have elt := HKw3.out.fa.lt
  have d0 := HKw3.out.fb.cell 0
  have d1 := HKw3.out.fb.cell 1
  have d2 := HKw3.out.fb.cell 2
  have d3 := HKw3.out.fb.cell 3
  have dlt := HKw3.out.fb.lt
  have f0 := HKw3.out.fc.cell 0
  have f1 := HKw3.out.fc.cell 1
  have f2 := HKw3.out.fc.cell 2
  have f3 := HKw3.out.fc.cell 3
  have flt := HKw3.out.fc.lt
  clear hb
  clear CA CB CC HK0 HKw1 HKw2
  go_wp2_with fail
  refine wp_region_T_drew (fun w' => (w'.cell? ⟨w.heap.size, 0, none⟩ = some (.int .u8 ka) ∧ w'.cell? ⟨w.heap.size, 1, none⟩ = some (.int .i64 na) ∧ w'.cell? ⟨w.heap.size, 2, none⟩ = some (.string sa) ∧ w'.cell? ⟨w.heap.size, 3, none⟩ = some (.slice aa la.length ca)) ∧ (w'.cell? ⟨w.heap.size + 1, 0, none⟩ = some (.int .u8 kb) ∧ w'.cell? ⟨w.heap.size + 1, 1, none⟩ = some (.int .i64 nb) ∧ w'.cell? ⟨w.heap.size + 1, 2, none⟩ = some (.string sb) ∧ w'.cell? ⟨w.heap.size + 1, 3, none⟩ = some (.slice ab lb.length cb)) ∧ (w'.cell? ⟨w.heap.size + 1 + 1, 0, none⟩ = some (.int .u8 kc) ∧ w'.cell? ⟨w.heap.size + 1 + 1, 1, none⟩ = some (.int .i64 nc) ∧ w'.cell? ⟨w.heap.size + 1 + 1, 2, none⟩ = some (.string sc) ∧ w'.cell? ⟨w.heap.size + 1 + 1, 3, none⟩ = some (.slice ac lc.length cc))) 12 (by kernel_rfl) ⟨⟨e0, e1, e2, e3⟩, ⟨d0, d1, d2, d3⟩, f0, f1, f2, f3⟩ (fun hS => ?_)
  have HK3 := Lib.hid (HKw3.out.past (Below.refl w3.heap.size w3).drew)
  refine wpAnyT_take 0 rfl (by kernel_rfl) (by kernel_rfl) (by decide) (by kernel_rfl) (by kernel_rfl) (fun _ _ _ h => h) hS (by kernel_rfl) (v := ?_) ?_ ?_
  rotate_left
  · intro w' hSw; (try dsimp only at hSw); go_simp; (try with_reducible rfl)
  simp only [Act.put, List.setIfInBounds_toArray, List.set_cons_zero, List.set_cons_succ]
  refine wpAnyT_take 1 rfl (by kernel_rfl) (by kernel_rfl) (by decide) (by kernel_rfl) (by kernel_rfl) (fun _ _ _ h => h) hS (by kernel_rfl) (v := ?_) ?_ ?_
  rotate_left
  · intro w' hSw; (try dsimp only at hSw); go_simp; (try with_reducible rfl)
  simp only [Act.put, List.setIfInBounds_toArray, List.set_cons_zero, List.set_cons_succ]
  refine wpAnyT_take 3 rfl (by kernel_rfl) (by kernel_rfl) (by decide) (by kernel_rfl) (by kernel_rfl) (fun _ _ _ h => h) hS (by kernel_rfl) (v := ?_) ?_ ?_
  rotate_left
  · intro w' hSw; (try dsimp only at hSw); go_simp; (try with_reducible rfl)
  simp only [Act.put, List.setIfInBounds_toArray, List.set_cons_zero, List.set_cons_succ]
  refine wpAnyT_take 4 rfl (by kernel_rfl) (by kernel_rfl) (by decide) (by kernel_rfl) (by kernel_rfl) (fun _ _ _ h => h) hS (by kernel_rfl) (v := ?_) ?_ ?_
  rotate_left
  · intro w' hSw; (try dsimp only at hSw); go_simp; (try with_reducible rfl)
  simp only [Act.put, List.setIfInBounds_toArray, List.set_cons_zero, List.set_cons_succ]
  refine wpAnyT_take 6 rfl (by kernel_rfl) (by kernel_rfl) (by decide) (by kernel_rfl) (by kernel_rfl) (fun _ _ _ h => h) hS (by kernel_rfl) (v := ?_) ?_ ?_
  rotate_left
  · intro w' hSw; (try dsimp only at hSw); go_simp; (try with_reducible rfl)
  simp only [Act.put, List.setIfInBounds_toArray, List.set_cons_zero, List.set_cons_succ]
  refine wpAnyT_take 7 rfl (by kernel_rfl) (by kernel_rfl) (by decide) (by kernel_rfl) (by kernel_rfl) (fun _ _ _ h => h) hS (by kernel_rfl) (v := ?_) ?_ ?_
  rotate_left
  · intro w' hSw; (try dsimp only at hSw); go_simp; (try with_reducible rfl)
  simp only [Act.put, List.setIfInBounds_toArray, List.set_cons_zero, List.set_cons_succ]
  refine wpAnyT_one 2 (by kernel_rfl) rfl (by kernel_rfl) (fun K hK => ?_)
  go_simp
  with_reducible refine (CAB.out _ HK3.out.bl).mono ?_
  rintro e w4 ⟨rfl, hb⟩
  have HKw4 := Lib.hid (HK3.out.past hb)
  clear e0 e1 e2 e3 elt d0 d1 d2 d3 dlt f0 f1 f2 f3 flt
  have e0 := HKw4.out.fa.cell 0
  have e1 := HKw4.out.fa.cell 1
  have e2 := HKw4.out.fa.cell 2
  have e3 := HKw4.out.fa.cell 3
  have elt := HKw4.out.fa.lt
  have d0 := HKw4.out.fb.cell 0
  have d1 := HKw4.out.fb.cell 1
  have d2 := HKw4.out.fb.cell 2
  have d3 := HKw4.out.fb.cell 3
  have dlt := HKw4.out.fb.lt
  have f0 := HKw4.out.fc.cell 0
  have f1 := HKw4.out.fc.cell 1
  have f2 := HKw4.out.fc.cell 2
  have f3 := HKw4.out.fc.cell 3
  have flt := HKw4.out.fc.lt
  have hS : (_ ∧ _ ∧ _ ∧ _) ∧ (_ ∧ _ ∧ _ ∧ _) ∧ (_ ∧ _ ∧ _ ∧ _) := ⟨⟨e0, e1, e2, e3⟩, ⟨d0, d1, d2, d3⟩, f0, f1, f2, f3⟩
  refine hK _ _ (fun _ => hS) ?_
  clear hK K hb HK3
  refine wpAnyT_one 5 (by kernel_rfl) rfl (by kernel_rfl) (fun K hK => ?_)
  go_simp
  with_reducible refine (CBC.out _ HKw4.out.bl).mono ?_
  rintro e w5 ⟨rfl, hb⟩
  have HKw5 := Lib.hid (HKw4.out.past hb)
  clear e0 e1 e2 e3 elt d0 d1 d2 d3 dlt f0 f1 f2 f3 flt
  have e0 := HKw5.out.fa.cell 0
  have e1 := HKw5.out.fa.cell 1
  have e2 := HKw5.out.fa.cell 2
  have e3 := HKw5.out.fa.cell 3
  have elt := HKw5.out.fa.lt
  have d0 := HKw5.out.fb.cell 0
  have d1 := HKw5.out.fb.cell 1
  have d2 := HKw5.out.fb.cell 2
  have d3 := HKw5.out.fb.cell 3
  have dlt := HKw5.out.fb.lt
  have f0 := HKw5.out.fc.cell 0
  have f1 := HKw5.out.fc.cell 1
  have f2 := HKw5.out.fc.cell 2
  have f3 := HKw5.out.fc.cell 3
  have flt := HKw5.out.fc.lt
  have hS : (_ ∧ _ ∧ _ ∧ _) ∧ (_ ∧ _ ∧ _ ∧ _) ∧ (_ ∧ _ ∧ _ ∧ _) := ⟨⟨e0, e1, e2, e3⟩, ⟨d0, d1, d2, d3⟩, f0, f1, f2, f3⟩
  refine hK _ _ (fun _ => hS) ?_
  clear hK K hb HKw4
  refine wpAnyT_one 8 (by kernel_rfl) rfl (by kernel_rfl) (fun K hK => ?_)
  go_simp
  with_reducible refine (CAC.out _ HKw5.out.bl).mono ?_
  rintro e w6 ⟨rfl, hb⟩
  have HKw6 := Lib.hid (HKw5.out.past hb)
  clear e0 e1 e2 e3 elt d0 d1 d2 d3 dlt f0 f1 f2 f3 flt
  have e0 := HKw6.out.fa.cell 0
  have e1 := HKw6.out.fa.cell 1
  have e2 := HKw6.out.fa.cell 2
  have e3 := HKw6.out.fa.cell 3
  have elt := HKw6.out.fa.lt
  have d0 := HKw6.out.fb.cell 0
  have d1 := HKw6.out.fb.cell 1
  have d2 := HKw6.out.fb.cell 2
  have d3 := HKw6.out.fb.cell 3
  have dlt := HKw6.out.fb.lt
  have f0 := HKw6.out.fc.cell 0
  have f1 := HKw6.out.fc.cell 1
  have f2 := HKw6.out.fc.cell 2
  have f3 := HKw6.out.fc.cell 3
  have flt := HKw6.out.fc.lt
  have hS : (_ ∧ _ ∧ _ ∧ _) ∧ (_ ∧ _ ∧ _ ∧ _) ∧ (_ ∧ _ ∧ _ ∧ _) := ⟨⟨e0, e1, e2, e3⟩, ⟨d0, d1, d2, d3⟩, f0, f1, f2, f3⟩
  refine hK _ _ (fun _ => hS) ?_
  clear hK K hb HKw5
  refine wpAnyT_one 9 (by kernel_rfl) rfl (by kernel_rfl) (fun K hK => ?_)
  go_simp
  refine hK _ _ (fun _ => hS) ?_
  clear hK K
  refine wpAnyT_one 10 (by kernel_rfl) rfl (by kernel_rfl) (fun K hK => ?_)
  go_simp
  refine hK _ _ (fun _ => hS) ?_
  clear hK K
  refine wpAnyT_one 11 (by kernel_rfl) rfl (by kernel_rfl) (fun K hK => ?_)
  go_simp
  refine hK _ _ (fun _ => hS) ?_
  clear hK K
  refine wpAnyT_done (by kernel_rfl) ?_
  clear hS
  go_wp2_with fail
  with_reducible refine (CBA.out _ HKw6.out.bl).mono ?_
  rintro e w7 ⟨rfl, hb⟩
  have HKw7 := Lib.hid ((HKw6.out).past hb)
  clear e0 e1 e2 e3 elt d0 d1 d2 d3 dlt f0 f1 f2 f3 flt
  have e0 := HKw7.out.fa.cell 0
  have e1 := HKw7.out.fa.cell 1
  have e2 := HKw7.out.fa.cell 2
  have e3 := HKw7.out.fa.cell 3
  have elt := HKw7.out.fa.lt
  have d0 := HKw7.out.fb.cell 0
  have d1 := HKw7.out.fb.cell 1
  have d2 := HKw7.out.fb.cell 2
  have d3 := HKw7.out.fb.cell 3
  have dlt := HKw7.out.fb.lt
  have f0 := HKw7.out.fc.cell 0
  have f1 := HKw7.out.fc.cell 1
  have f2 := HKw7.out.fc.cell 2
  have f3 := HKw7.out.fc.cell 3
  have flt := HKw7.out.fc.lt
  clear hb
  go_wp2_with fail
  with_reducible refine (CAA.out _ HKw7.out.bl).mono ?_
  rintro e w8 ⟨rfl, hb⟩
  have HKw8 := Lib.hid ((HKw7.out).past hb)
  clear e0 e1 e2 e3 elt d0 d1 d2 d3 dlt f0 f1 f2 f3 flt
  have e0 := HKw8.out.fa.cell 0
  have e1 := HKw8.out.fa.cell 1
  have e2 := HKw8.out.fa.cell 2
  have e3 := HKw8.out.fa.cell 3
  have elt := HKw8.out.fa.lt
  have d0 := HKw8.out.fb.cell 0
  have d1 := HKw8.out.fb.cell 1
  have d2 := HKw8.out.fb.cell 2
  have d3 := HKw8.out.fb.cell 3
  have dlt := HKw8.out.fb.lt
  have f0 := HKw8.out.fc.cell 0
  have f1 := HKw8.out.fc.cell 1
  have f2 := HKw8.out.fc.cell 2
  have f3 := HKw8.out.fc.cell 3
  have flt := HKw8.out.fc.lt
  clear hb
  go_wp2_with fail
  with_reducible refine (CS.out _ HKw8.out.bl).mono ?_
  rintro e w9 ⟨rfl, hb⟩
  have HKw9 := Lib.hid ((HKw8.out).past hb)
  clear e0 e1 e2 e3 elt d0 d1 d2 d3 dlt f0 f1 f2 f3 flt
  have e0 := HKw9.out.fa.cell 0
  have e1 := HKw9.out.fa.cell 1
  have e2 := HKw9.out.fa.cell 2
  have e3 := HKw9.out.fa.cell 3
  have elt := HKw9.out.fa.lt
  have d0 := HKw9.out.fb.cell 0
  have d1 := HKw9.out.fb.cell 1
  have d2 := HKw9.out.fb.cell 2
  have d3 := HKw9.out.fb.cell 3
  have dlt := HKw9.out.fb.lt
  have f0 := HKw9.out.fc.cell 0
  have f1 := HKw9.out.fc.cell 1
  have f2 := HKw9.out.fc.cell 2
  have f3 := HKw9.out.fc.cell 3
  have flt := HKw9.out.fc.lt
  clear hb
  clear CBA CAA CS CAB CBC CAC HKw6 HKw7 HKw8 HKw3
  go_upto_region 6 with (fail)
  go_cut [86] (fun s86 wx => s86 = .bool false ∧ wx = w9)
  case first =>
    have ht := HTRI.out
    unfold Va.Tri at ht
    by_cases hx : X ≤ 0
    · by_cases hy : Y ≤ 0
      · obtain ⟨hz, hz0⟩ := ht hx hy
        by_cases hzz : Z = 0
        · obtain ⟨rfl, rfl⟩ := hz0 hzz
          subst hzz
          clear ht hz0
          go_wp2
          go_meet
          exact ⟨rfl, rfl⟩
        · have hq : (Z == 0) = false := bneI hzz
          clear ht hz0
          go_wp2
          go_meet
          exact ⟨by rw [decide_eq_false (by omega)], rfl⟩
      · clear ht
        go_wp2
        go_meet
        exact ⟨rfl, rfl⟩
    · clear ht
      go_wp2
      go_meet
      exact ⟨rfl, rfl⟩
  case rest =>
    obtain ⟨rfl, rfl⟩ := hcut
    clear HTRI x1 x2 y1 y2 z1 z2
    cases ra with
    | false =>
      go_wp2_with fail
      with_reducible refine (CRA.out _ HKw9.out.bl).mono ?_
      rintro e wa ⟨rfl, hb⟩
      have HKwa := Lib.hid ((HKw9.out).past hb)
      clear e0 e1 e2 e3 elt d0 d1 d2 d3 dlt f0 f1 f2 f3 flt
      have e0 := HKwa.out.fa.cell 0
      have e1 := HKwa.out.fa.cell 1
      have e2 := HKwa.out.fa.cell 2
      have e3 := HKwa.out.fa.cell 3
      have elt := HKwa.out.fa.lt
      have d0 := HKwa.out.fb.cell 0
      have d1 := HKwa.out.fb.cell 1
      have d2 := HKwa.out.fb.cell 2
      have d3 := HKwa.out.fb.cell 3
      have dlt := HKwa.out.fb.lt
      have f0 := HKwa.out.fc.cell 0
      have f1 := HKwa.out.fc.cell 1
      have f2 := HKwa.out.fc.cell 2
      have f3 := HKwa.out.fc.cell 3
      have flt := HKwa.out.fc.lt
      clear hb
      go_wp2_with fail
      with_reducible refine (CW.out _ HKwa.out.bl).mono ?_
      rintro e wz ⟨rfl, hb⟩
      have HKwz := Lib.hid ((HKwa.out).past hb)
      clear e0 e1 e2 e3 elt d0 d1 d2 d3 dlt f0 f1 f2 f3 flt
      have e0 := HKwz.out.fa.cell 0
      have e1 := HKwz.out.fa.cell 1
      have e2 := HKwz.out.fa.cell 2
      have e3 := HKwz.out.fa.cell 3
      have elt := HKwz.out.fa.lt
      have d0 := HKwz.out.fb.cell 0
      have d1 := HKwz.out.fb.cell 1
      have d2 := HKwz.out.fb.cell 2
      have d3 := HKwz.out.fb.cell 3
      have dlt := HKwz.out.fb.lt
      have f0 := HKwz.out.fc.cell 0
      have f1 := HKwz.out.fc.cell 1
      have f2 := HKwz.out.fc.cell 2
      have f3 := HKwz.out.fc.cell 3
      have flt := HKwz.out.fc.lt
      clear hb
      go_wp2
      go_ret
      exact ⟨rfl, HKwz.out.bl⟩
    | true =>
      cases rb with
      | false =>
        go_wp2_with fail
        with_reducible refine (CRA.out _ HKw9.out.bl).mono ?_
        rintro e wa ⟨rfl, hb⟩
        have HKwa := Lib.hid ((HKw9.out).past hb)
        clear e0 e1 e2 e3 elt d0 d1 d2 d3 dlt f0 f1 f2 f3 flt
        have e0 := HKwa.out.fa.cell 0
        have e1 := HKwa.out.fa.cell 1
        have e2 := HKwa.out.fa.cell 2
        have e3 := HKwa.out.fa.cell 3
        have elt := HKwa.out.fa.lt
        have d0 := HKwa.out.fb.cell 0
        have d1 := HKwa.out.fb.cell 1
        have d2 := HKwa.out.fb.cell 2
        have d3 := HKwa.out.fb.cell 3
        have dlt := HKwa.out.fb.lt
        have f0 := HKwa.out.fc.cell 0
        have f1 := HKwa.out.fc.cell 1
        have f2 := HKwa.out.fc.cell 2
        have f3 := HKwa.out.fc.cell 3
        have flt := HKwa.out.fc.lt
        clear hb
        go_wp2_with fail
        with_reducible refine (CRB.out _ HKwa.out.bl).mono ?_
        rintro e wb ⟨rfl, hb⟩
        have HKwb := Lib.hid ((HKwa.out).past hb)
        clear e0 e1 e2 e3 elt d0 d1 d2 d3 dlt f0 f1 f2 f3 flt
        have e0 := HKwb.out.fa.cell 0
        have e1 := HKwb.out.fa.cell 1
        have e2 := HKwb.out.fa.cell 2
        have e3 := HKwb.out.fa.cell 3
        have elt := HKwb.out.fa.lt
        have d0 := HKwb.out.fb.cell 0
        have d1 := HKwb.out.fb.cell 1
        have d2 := HKwb.out.fb.cell 2
        have d3 := HKwb.out.fb.cell 3
        have dlt := HKwb.out.fb.lt
        have f0 := HKwb.out.fc.cell 0
        have f1 := HKwb.out.fc.cell 1
        have f2 := HKwb.out.fc.cell 2
        have f3 := HKwb.out.fc.cell 3
        have flt := HKwb.out.fc.lt
        clear hb
        go_wp2_with fail
        with_reducible refine (CW.out _ HKwb.out.bl).mono ?_
        rintro e wz ⟨rfl, hb⟩
        have HKwz := Lib.hid ((HKwb.out).past hb)
        clear e0 e1 e2 e3 elt d0 d1 d2 d3 dlt f0 f1 f2 f3 flt
        have e0 := HKwz.out.fa.cell 0
        have e1 := HKwz.out.fa.cell 1
        have e2 := HKwz.out.fa.cell 2
        have e3 := HKwz.out.fa.cell 3
        have elt := HKwz.out.fa.lt
        have d0 := HKwz.out.fb.cell 0
        have d1 := HKwz.out.fb.cell 1
        have d2 := HKwz.out.fb.cell 2
        have d3 := HKwz.out.fb.cell 3
        have dlt := HKwz.out.fb.lt
        have f0 := HKwz.out.fc.cell 0
        have f1 := HKwz.out.fc.cell 1
        have f2 := HKwz.out.fc.cell 2
        have f3 := HKwz.out.fc.cell 3
        have flt := HKwz.out.fc.lt
        clear hb
        go_wp2
        go_ret
        exact ⟨rfl, HKwz.out.bl⟩
      | true =>
        go_wp2_with fail
        with_reducible refine (CRA.out _ HKw9.out.bl).mono ?_
        rintro e wa ⟨rfl, hb⟩
        have HKwa := Lib.hid ((HKw9.out).past hb)
        clear e0 e1 e2 e3 elt d0 d1 d2 d3 dlt f0 f1 f2 f3 flt
        have e0 := HKwa.out.fa.cell 0
        have e1 := HKwa.out.fa.cell 1
        have e2 := HKwa.out.fa.cell 2
        have e3 := HKwa.out.fa.cell 3
        have elt := HKwa.out.fa.lt
        have d0 := HKwa.out.fb.cell 0
        have d1 := HKwa.out.fb.cell 1
        have d2 := HKwa.out.fb.cell 2
        have d3 := HKwa.out.fb.cell 3
        have dlt := HKwa.out.fb.lt
        have f0 := HKwa.out.fc.cell 0
        have f1 := HKwa.out.fc.cell 1
        have f2 := HKwa.out.fc.cell 2
        have f3 := HKwa.out.fc.cell 3
        have flt := HKwa.out.fc.lt
        clear hb
        go_wp2_with fail
        with_reducible refine (CRB.out _ HKwa.out.bl).mono ?_
        rintro e wb ⟨rfl, hb⟩
        have HKwb := Lib.hid ((HKwa.out).past hb)
        clear e0 e1 e2 e3 elt d0 d1 d2 d3 dlt f0 f1 f2 f3 flt
        have e0 := HKwb.out.fa.cell 0
        have e1 := HKwb.out.fa.cell 1
        have e2 := HKwb.out.fa.cell 2
        have e3 := HKwb.out.fa.cell 3
        have elt := HKwb.out.fa.lt
        have d0 := HKwb.out.fb.cell 0
        have d1 := HKwb.out.fb.cell 1
        have d2 := HKwb.out.fb.cell 2
        have d3 := HKwb.out.fb.cell 3
        have dlt := HKwb.out.fb.lt
        have f0 := HKwb.out.fc.cell 0
        have f1 := HKwb.out.fc.cell 1
        have f2 := HKwb.out.fc.cell 2
        have f3 := HKwb.out.fc.cell 3
        have flt := HKwb.out.fc.lt
        clear hb
        clear CRA CRB HKw9 HKwa
        go_wp2_with fail
        with_reducible refine (CPA.out _ HKwb.out.bl (by trivial)).mono ?_
        rintro e wc ⟨b3, c3, rfl, hx3, hc3, hb, _⟩
        have HKwc := Lib.hid (HKwb.out.past hb)
        clear e0 e1 e2 e3 elt d0 d1 d2 d3 dlt f0 f1 f2 f3 flt
        have e0 := HKwc.out.fa.cell 0
        have e1 := HKwc.out.fa.cell 1
        have e2 := HKwc.out.fa.cell 2
        have e3 := HKwc.out.fa.cell 3
        have elt := HKwc.out.fa.lt
        have d0 := HKwc.out.fb.cell 0
        have d1 := HKwc.out.fb.cell 1
        have d2 := HKwc.out.fb.cell 2
        have d3 := HKwc.out.fb.cell 3
        have dlt := HKwc.out.fb.lt
        have f0 := HKwc.out.fc.cell 0
        have f1 := HKwc.out.fc.cell 1
        have f2 := HKwc.out.fc.cell 2
        have f3 := HKwc.out.fc.cell 3
        have flt := HKwc.out.fc.lt
        have HX3 := Lib.hid hx3
        clear hx3 hc3 hb HKwb CPA
        go_wp2_with fail
        with_reducible refine (CPB.out _ HKwc.out.bl (by trivial)).mono ?_
        rintro e wd ⟨b4, c4, rfl, hx4, hc4, hb, _⟩
        have HKwd := Lib.hid (HKwc.out.past hb)
        clear e0 e1 e2 e3 elt d0 d1 d2 d3 dlt f0 f1 f2 f3 flt
        have e0 := HKwd.out.fa.cell 0
        have e1 := HKwd.out.fa.cell 1
        have e2 := HKwd.out.fa.cell 2
        have e3 := HKwd.out.fa.cell 3
        have elt := HKwd.out.fa.lt
        have d0 := HKwd.out.fb.cell 0
        have d1 := HKwd.out.fb.cell 1
        have d2 := HKwd.out.fb.cell 2
        have d3 := HKwd.out.fb.cell 3
        have dlt := HKwd.out.fb.lt
        have f0 := HKwd.out.fc.cell 0
        have f1 := HKwd.out.fc.cell 1
        have f2 := HKwd.out.fc.cell 2
        have f3 := HKwd.out.fc.cell 3
        have flt := HKwd.out.fc.lt
        have HX4 := Lib.hid hx4
        have HX3' := Lib.hid (HX3.out.below hb)
        clear hx4 hc4 hb HKwc CPB HX3
        obtain ⟨hq1, hq2⟩ := HEQ.out (by trivial) (by trivial)
        have CX := Lib.hid (sameBytes_lit (some ⟨b3, 0, none⟩) (some ⟨b4, 0, none⟩) EA.length EB.length c3 c4 EA EB wd.drew (X == 0) hq1 rfl (HX3'.out.below (Below.refl _ _).drew) (fun e => by cases e) rfl (HX4.out.below (Below.refl _ _).drew) (fun e => by cases e))
        have HKD := Lib.hid (HKwd.out.past (Below.refl wd.heap.size wd).drew)
        have HSH := Lib.hid hq2
        clear hq1 hq2 HEQ HX3' HX4 HKwd
        go_wp2_with fail
        refine wp_region_T_drew (fun w' => (w'.cell? ⟨w.heap.size, 0, none⟩ = some (.int .u8 ka) ∧ w'.cell? ⟨w.heap.size, 1, none⟩ = some (.int .i64 na) ∧ w'.cell? ⟨w.heap.size, 2, none⟩ = some (.string sa) ∧ w'.cell? ⟨w.heap.size, 3, none⟩ = some (.slice aa la.length ca)) ∧ (w'.cell? ⟨w.heap.size + 1, 0, none⟩ = some (.int .u8 kb) ∧ w'.cell? ⟨w.heap.size + 1, 1, none⟩ = some (.int .i64 nb) ∧ w'.cell? ⟨w.heap.size + 1, 2, none⟩ = some (.string sb) ∧ w'.cell? ⟨w.heap.size + 1, 3, none⟩ = some (.slice ab lb.length cb))) 24 (by kernel_rfl) ⟨⟨e0, e1, e2, e3⟩, d0, d1, d2, d3⟩ (fun hS => ?_)
        refine wpAnyT_take 0 rfl (by kernel_rfl) (by kernel_rfl) (by decide) (by kernel_rfl) (by kernel_rfl) (fun _ _ _ h => h) hS (by kernel_rfl) (v := ?_) ?_ ?_
        rotate_left
        · intro w' hSw; (try dsimp only at hSw); go_simp; (try with_reducible rfl)
        simp only [Act.put, List.setIfInBounds_toArray, List.set_cons_zero, List.set_cons_succ]
        refine wpAnyT_take 1 rfl (by kernel_rfl) (by kernel_rfl) (by decide) (by kernel_rfl) (by kernel_rfl) (fun _ _ _ h => h) hS (by kernel_rfl) (v := ?_) ?_ ?_
        rotate_left
        · intro w' hSw; (try dsimp only at hSw); go_simp; (try with_reducible rfl)
        simp only [Act.put, List.setIfInBounds_toArray, List.set_cons_zero, List.set_cons_succ]
        refine wpAnyT_take 2 rfl (by kernel_rfl) (by kernel_rfl) (by decide) (by kernel_rfl) (by kernel_rfl) (fun _ _ _ h => h) hS (by kernel_rfl) (v := ?_) ?_ ?_
        rotate_left
        · intro w' hSw; (try dsimp only at hSw); go_simp; (try with_reducible rfl)
        simp only [Act.put, List.setIfInBounds_toArray, List.set_cons_zero, List.set_cons_succ]
        refine wpAnyT_take 3 rfl (by kernel_rfl) (by kernel_rfl) (by decide) (by kernel_rfl) (by kernel_rfl) (fun _ _ _ h => h) hS (by kernel_rfl) (v := ?_) ?_ ?_
        rotate_left
        · intro w' hSw; (try dsimp only at hSw); go_simp; (try with_reducible rfl)
        simp only [Act.put, List.setIfInBounds_toArray, List.set_cons_zero, List.set_cons_succ]
        refine wpAnyT_take 4 rfl (by kernel_rfl) (by kernel_rfl) (by decide) (by kernel_rfl) (by kernel_rfl) (fun _ _ _ h => h) hS (by kernel_rfl) (v := ?_) ?_ ?_
        rotate_left
        · intro w' hSw; (try dsimp only at hSw); go_simp; (try with_reducible rfl)
        simp only [Act.put, List.setIfInBounds_toArray, List.set_cons_zero, List.set_cons_succ]
        refine wpAnyT_take 5 rfl (by kernel_rfl) (by kernel_rfl) (by decide) (by kernel_rfl) (by kernel_rfl) (fun _ _ _ h => h) hS (by kernel_rfl) (v := ?_) ?_ ?_
        rotate_left
        · intro w' hSw; (try dsimp only at hSw); go_simp; (try with_reducible rfl)
        simp only [Act.put, List.setIfInBounds_toArray, List.set_cons_zero, List.set_cons_succ]
        refine wpAnyT_take 6 rfl (by kernel_rfl) (by kernel_rfl) (by decide) (by kernel_rfl) (by kernel_rfl) (fun _ _ _ h => h) hS (by kernel_rfl) (v := ?_) ?_ ?_
        rotate_left
        · intro w' hSw; (try dsimp only at hSw); go_simp; (try with_reducible rfl)
        simp only [Act.put, List.setIfInBounds_toArray, List.set_cons_zero, List.set_cons_succ]
        refine wpAnyT_take 7 rfl (by kernel_rfl) (by kernel_rfl) (by decide) (by kernel_rfl) (by kernel_rfl) (fun _ _ _ h => h) hS (by kernel_rfl) (v := ?_) ?_ ?_
        rotate_left
        · intro w' hSw; (try dsimp only at hSw); go_simp; (try with_reducible rfl)
        simp only [Act.put, List.setIfInBounds_toArray, List.set_cons_zero, List.set_cons_succ]
        refine wpAnyT_take 8 rfl (by kernel_rfl) (by kernel_rfl) (by decide) (by kernel_rfl) (by kernel_rfl) (fun _ _ _ h => h) hS (by kernel_rfl) (v := ?_) ?_ ?_
        rotate_left
        · intro w' hSw; (try dsimp only at hSw); go_simp; (try with_reducible rfl)
        simp only [Act.put, List.setIfInBounds_toArray, List.set_cons_zero, List.set_cons_succ]
        refine wpAnyT_take 9 rfl (by kernel_rfl) (by kernel_rfl) (by decide) (by kernel_rfl) (by kernel_rfl) (fun _ _ _ h => h) hS (by kernel_rfl) (v := ?_) ?_ ?_
        rotate_left
        · intro w' hSw; (try dsimp only at hSw); go_simp; (try with_reducible rfl)
        simp only [Act.put, List.setIfInBounds_toArray, List.set_cons_zero, List.set_cons_succ]
        refine wpAnyT_take 10 rfl (by kernel_rfl) (by kernel_rfl) (by decide) (by kernel_rfl) (by kernel_rfl) (fun _ _ _ h => h) hS (by kernel_rfl) (v := ?_) ?_ ?_
        rotate_left
        · intro w' hSw; (try dsimp only at hSw); go_simp; (try with_reducible rfl)
        simp only [Act.put, List.setIfInBounds_toArray, List.set_cons_zero, List.set_cons_succ]
        refine wpAnyT_one 11 (by kernel_rfl) rfl (by kernel_rfl) (fun K hK => ?_)
        go_simp
        with_reducible refine (CX.out).mono ?_
        rintro e we ⟨rfl, rfl⟩
        refine hK _ _ (fun _ => hS) ?_
        clear hK K
        refine wpAnyT_take 12 rfl (by kernel_rfl) (by kernel_rfl) (by decide) (by kernel_rfl) (by kernel_rfl) (fun _ _ _ h => h) hS (by kernel_rfl) (v := ?_) ?_ ?_
        rotate_left
        · intro w' hSw; (try dsimp only at hSw); go_simp; (try with_reducible rfl)
        simp only [Act.put, List.setIfInBounds_toArray, List.set_cons_zero, List.set_cons_succ]
        refine wpAnyT_take 13 rfl (by kernel_rfl) (by kernel_rfl) (by decide) (by kernel_rfl) (by kernel_rfl) (fun _ _ _ h => h) hS (by kernel_rfl) (v := ?_) ?_ ?_
        rotate_left
        · intro w' hSw; (try dsimp only at hSw); go_simp; (try with_reducible rfl)
        simp only [Act.put, List.setIfInBounds_toArray, List.set_cons_zero, List.set_cons_succ]
        refine wpAnyT_take 14 rfl (by kernel_rfl) (by kernel_rfl) (by decide) (by kernel_rfl) (by kernel_rfl) (fun _ _ _ h => h) hS (by kernel_rfl) (v := ?_) ?_ ?_
        rotate_left
        · intro w' hSw; (try dsimp only at hSw); go_simp; (try with_reducible rfl)
        simp only [Act.put, List.setIfInBounds_toArray, List.set_cons_zero, List.set_cons_succ]
        refine wpAnyT_take 15 rfl (by kernel_rfl) (by kernel_rfl) (by decide) (by kernel_rfl) (by kernel_rfl) (fun _ _ _ h => h) hS (by kernel_rfl) (v := ?_) ?_ ?_
        rotate_left
        · intro w' hSw; (try dsimp only at hSw); go_simp; (try with_reducible rfl)
        simp only [Act.put, List.setIfInBounds_toArray, List.set_cons_zero, List.set_cons_succ]
        refine wpAnyT_take 16 rfl (by kernel_rfl) (by kernel_rfl) (by decide) (by kernel_rfl) (by kernel_rfl) (fun _ _ _ h => h) hS (by kernel_rfl) (v := ?_) ?_ ?_
        rotate_left
        · intro w' hSw; (try dsimp only at hSw); go_simp; (try with_reducible rfl)
        simp only [Act.put, List.setIfInBounds_toArray, List.set_cons_zero, List.set_cons_succ]
        refine wpAnyT_take 17 rfl (by kernel_rfl) (by kernel_rfl) (by decide) (by kernel_rfl) (by kernel_rfl) (fun _ _ _ h => h) hS (by kernel_rfl) (v := ?_) ?_ ?_
        rotate_left
        · intro w' hSw; (try dsimp only at hSw); go_simp; (try with_reducible rfl)
        simp only [Act.put, List.setIfInBounds_toArray, List.set_cons_zero, List.set_cons_succ]
        refine wpAnyT_take 19 rfl (by kernel_rfl) (by kernel_rfl) (by decide) (by kernel_rfl) (by kernel_rfl) (fun _ _ _ h => h) hS (by kernel_rfl) (v := ?_) ?_ ?_
        rotate_left
        · intro w' hSw; (try dsimp only at hSw); go_simp; (try with_reducible rfl)
        simp only [Act.put, List.setIfInBounds_toArray, List.set_cons_zero, List.set_cons_succ]
        refine wpAnyT_one 18 (by kernel_rfl) rfl (by kernel_rfl) (fun K hK => ?_)
        go_simp
        with_reducible refine (CHA.out _ HKD.out.bl).mono ?_
        rintro e wf ⟨rfl, hb⟩
        have HKwf := Lib.hid (HKD.out.past hb)
        clear e0 e1 e2 e3 elt d0 d1 d2 d3 dlt f0 f1 f2 f3 flt
        have e0 := HKwf.out.fa.cell 0
        have e1 := HKwf.out.fa.cell 1
        have e2 := HKwf.out.fa.cell 2
        have e3 := HKwf.out.fa.cell 3
        have elt := HKwf.out.fa.lt
        have d0 := HKwf.out.fb.cell 0
        have d1 := HKwf.out.fb.cell 1
        have d2 := HKwf.out.fb.cell 2
        have d3 := HKwf.out.fb.cell 3
        have dlt := HKwf.out.fb.lt
        have f0 := HKwf.out.fc.cell 0
        have f1 := HKwf.out.fc.cell 1
        have f2 := HKwf.out.fc.cell 2
        have f3 := HKwf.out.fc.cell 3
        have flt := HKwf.out.fc.lt
        have hS : (_ ∧ _ ∧ _ ∧ _) ∧ (_ ∧ _ ∧ _ ∧ _) := ⟨⟨e0, e1, e2, e3⟩, d0, d1, d2, d3⟩
        refine hK _ _ (fun _ => hS) ?_
        clear hK K hb HKD CX CHA
        refine wpAnyT_one 20 (by kernel_rfl) rfl (by kernel_rfl) (fun K hK => ?_)
        go_simp
        with_reducible refine (CHB.out _ HKwf.out.bl).mono ?_
        rintro e wg ⟨rfl, hb⟩
        have HKwg := Lib.hid (HKwf.out.past hb)
        clear e0 e1 e2 e3 elt d0 d1 d2 d3 dlt f0 f1 f2 f3 flt
        have e0 := HKwg.out.fa.cell 0
        have e1 := HKwg.out.fa.cell 1
        have e2 := HKwg.out.fa.cell 2
        have e3 := HKwg.out.fa.cell 3
        have elt := HKwg.out.fa.lt
        have d0 := HKwg.out.fb.cell 0
        have d1 := HKwg.out.fb.cell 1
        have d2 := HKwg.out.fb.cell 2
        have d3 := HKwg.out.fb.cell 3
        have dlt := HKwg.out.fb.lt
        have f0 := HKwg.out.fc.cell 0
        have f1 := HKwg.out.fc.cell 1
        have f2 := HKwg.out.fc.cell 2
        have f3 := HKwg.out.fc.cell 3
        have flt := HKwg.out.fc.lt
        have hS : (_ ∧ _ ∧ _ ∧ _) ∧ (_ ∧ _ ∧ _ ∧ _) := ⟨⟨e0, e1, e2, e3⟩, d0, d1, d2, d3⟩
        have hsh := HSH.out
        refine hK _ _ (fun _ => hS) ?_
        clear hK K hb HKwf CHB
        refine wpAnyT_take 21 rfl (by kernel_rfl) (by kernel_rfl) (by decide) (by kernel_rfl) (by kernel_rfl) (fun _ _ _ h => h) hS (by kernel_rfl) (v := ?_) ?_ ?_
        rotate_left
        · intro w' hSw; (try dsimp only at hSw); go_simp; (try with_reducible rfl)
        simp only [Act.put, List.setIfInBounds_toArray, List.set_cons_zero, List.set_cons_succ]
        refine wpAnyT_take 22 rfl (by kernel_rfl) (by kernel_rfl) (by decide) (by kernel_rfl) (by kernel_rfl) (fun _ _ _ h => h) hS (by kernel_rfl) (v := ?_) ?_ ?_
        rotate_left
        · intro w' hSw; (try dsimp only at hSw); go_simp; (try with_reducible rfl)
        simp only [Act.put, List.setIfInBounds_toArray, List.set_cons_zero, List.set_cons_succ]
        refine wpAnyT_take 23 rfl (by kernel_rfl) (by kernel_rfl) (by decide) (by kernel_rfl) (by kernel_rfl) (fun _ _ _ h => h) hS (by kernel_rfl) (v := ?_) ?_ ?_
        rotate_left
        · intro w' hSw; (try dsimp only at hSw); go_simp; (try with_reducible rfl)
        simp only [Act.put, List.setIfInBounds_toArray, List.set_cons_zero, List.set_cons_succ]
        refine wpAnyT_done (by kernel_rfl) ?_
        clear hS hsh
        go_wp2_with fail
        with_reducible refine (CW.out _ HKwg.out.bl).mono ?_
        rintro e wz ⟨rfl, hb⟩
        have HKwz := Lib.hid ((HKwg.out).past hb)
        clear e0 e1 e2 e3 elt d0 d1 d2 d3 dlt f0 f1 f2 f3 flt
        have e0 := HKwz.out.fa.cell 0
        have e1 := HKwz.out.fa.cell 1
        have e2 := HKwz.out.fa.cell 2
        have e3 := HKwz.out.fa.cell 3
        have elt := HKwz.out.fa.lt
        have d0 := HKwz.out.fb.cell 0
        have d1 := HKwz.out.fb.cell 1
        have d2 := HKwz.out.fb.cell 2
        have d3 := HKwz.out.fb.cell 3
        have dlt := HKwz.out.fb.lt
        have f0 := HKwz.out.fc.cell 0
        have f1 := HKwz.out.fc.cell 1
        have f2 := HKwz.out.fc.cell 2
        have f3 := HKwz.out.fc.cell 3
        have flt := HKwz.out.fc.lt
        clear hb
        go_wp2
        go_ret
        exact ⟨rfl, HKwz.out.bl⟩
theorem order_row (a : V) (ok : Nat → Prop) (xa : Value) (b : V) (ok' : Nat → Prop) (xb : Value) (c : V) (ok2 : Nat → Prop) (xc : Value) (w : World) (ha : RV ok w a xa) (hb : RV ok' w b xb) (hc : RV ok2 w c xc) (ht : Tab w) :
    Calls Tryd.prog 6 #[xa, xb, xc] w (BB true w) := by
  by_cases h : Va.smallV a 20 60 = true ∧ Va.smallV b 20 60 = true ∧ Va.smallV c 20 60 = true
  · exact order_yes a b c ok ok' ok2 xa xb xc w ha hb hc ht h.1 h.2.1 h.2.2
  · exact order_no a b c ok ok' ok2 xa xb xc w ha hb hc ht h
end Go.Proofs.YtgamhgeiceakeaaDoor
