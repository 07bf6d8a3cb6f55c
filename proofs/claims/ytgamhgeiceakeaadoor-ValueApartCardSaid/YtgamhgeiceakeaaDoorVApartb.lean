/- ValueApart, the walk where both values are right. -/
import Derived.Test.YtgamhgeiceakeaaDoorVApart
set_option linter.unusedVariables false
set_option linter.unusedSimpArgs false
namespace Go.Proofs.YtgamhgeiceakeaaDoor
open Go.RowKit
open Va (V)
set_option maxHeartbeats 3200000 in
set_option maxRecDepth 100000 in
theorem apart_yes (a b : V) (ok ok' : Nat → Prop) (xa xb : Value) (ba : Option Addr) (n cap : Nat) (l : List UInt8) (cut : Nat) (w : World) (ha : RV ok w a xa) (hb : RV ok' w b xb) (ht : Tab w) (hn : l.length = n) (hr : Rd w ba l) (hnil : ba = none → n = 0) (hcut : cut < 65536)
    (h1 : (Va.smallV a 20 60 && Va.right a) = true) (h2 : (Va.smallV b 20 60 && Va.right b) = true) (h3 : n ≤ 100) :
    Calls Tryd.prog 7 #[xa, xb, .slice ba n cap, .int .u16 cut] w (BB true w) := by
  have hra : Va.right a = true := by rw [Bool.and_eq_true] at h1; exact h1.2
  have hrb : Va.right b = true := by rw [Bool.and_eq_true] at h2; exact h2.2
  have hwa := rv_wf ha
  have hwb := rv_wf hb
  have CA := Lib.hid (fun W (hbl : Below w.heap.size w W) => right02_any a ok xa W (ha.past hbl) _ h1)
  have CB := Lib.hid (fun W (hbl : Below w.heap.size w W) => right02_any b ok' xb W (hb.past hbl) _ h2)
  have CPA := Lib.hid (fun W (hbl : Below w.heap.size w W) => put_yes a ok xa W (ha.past hbl) hra)
  have CPB := Lib.hid (fun W (hbl : Below w.heap.size w W) => put_yes b ok' xb W (hb.past hbl) hrb)
  have CW := Lib.hid (fun W (hbl : Below w.heap.size w W) => awake_any W (ht.past hbl))
  have CS := Lib.hid (fun W (hbl : Below w.heap.size w W) => Same_lit a b ok ok' xa xb W _ rfl (ha.past hbl) (hb.past hbl))
  have CL := Lib.hid (fun W y okk (hbl : Below w.heap.size w W) (hy : RV okk W a y) => alike_lit a a okk ok y xa W true (Va.alk_refl a) hy (ha.past hbl))
  have hpre : ((Va.enc a).take (min (Va.enc a).length (Va.enc b).length) == (Va.enc b).take (min (Va.enc a).length (Va.enc b).length)) = (Va.cmpV a b 16 == 0) := by
    have e1 := Va.enc_pre a b hra hwa hrb hwb
    have ra' := hra
    have rb' := hrb
    unfold Va.right at ra' rb'
    rw [Bool.and_eq_true] at ra' rb'
    have e2 := Va.cmp_zero a b 16 ra'.1 rb'.1
    rw [Bool.eq_iff_iff, beq_iff_eq, beq_iff_eq, e1, e2]
  have hla1 : (Va.enc a).length ≤ 2097152 := by
    unfold Va.right at hra; rw [Bool.and_eq_true, decide_eq_true_eq] at hra
    have := enc_len a 16 hra.1; omega
  have hlb1 : (Va.enc b).length ≤ 2097152 := by
    unfold Va.right at hrb; rw [Bool.and_eq_true, decide_eq_true_eq] at hrb
    have := enc_len b 16 hrb.1; omega
  have hla0 : 0 < (Va.enc a).length := List.length_pos_iff.2 (enc_ne a)
  have hlb0 : 0 < (Va.enc b).length := List.length_pos_iff.2 (enc_ne b)
  have hgc : Va.get ((Va.enc a).take (cut % (Va.enc a).length)) 0 = .error 11 := Va.get_cut a _ hra hwa (Nat.mod_lt _ hla0)
  have hgw : Va.get (Va.enc a ++ l) 0 = .ok (a, (Va.enc a).length, 256 - Va.cnt a) := by
    have := Va.get_enc a (Va.enc a ++ l) 0 l hra hwa (by simp)
    simpa using this
  have HR := Lib.hid hr
  have HN := Lib.hid hn
  have HNIL := Lib.hid hnil
  generalize hEA : Va.enc a = EA at CPA hpre hla1 hla0 hgc hgw
  generalize hEB : Va.enc b = EB at CPB hpre hlb1 hlb0
  generalize (Va.cmpV a b 16 == 0) = R at CS hpre
  have CX := Lib.hid (fun W b1 c1 b2 c2 (hrx : Rd W (some ⟨b1, 0, none⟩) EA) (hry : Rd W (some ⟨b2, 0, none⟩) EB) => sameBytes_lit (some ⟨b1, 0, none⟩) (some ⟨b2, 0, none⟩) (min EA.length EB.length) (min EA.length EB.length) c1 c2 (EA.take (min EA.length EB.length)) (EB.take (min EA.length EB.length)) W R hpre (by simp) (hrx.take _) (fun e => by cases e) (by simp) (hry.take _) (fun e => by cases e))
  obtain ⟨m, hm⟩ : ∃ m, min EA.length EB.length = m := ⟨_, rfl⟩
  rw [hm] at CX
  have hmn : min (EA.length : Int) (EB.length : Int) = (m : Int) := by omega
  have hm1 : m ≤ EA.length := by omega
  have hm2 : m ≤ EB.length := by omega
  have CG1 := Lib.hid (fun W b1 c1 (hrx : Rd W (some ⟨b1, 0, none⟩) EA) (hc : EA.length ≤ c1) => by
    have h0 := get_in (cut % EA.length) c1 (some ⟨b1, 0, none⟩) (EA.take (cut % EA.length)) 0 W (by rw [List.length_take]; exact Nat.min_eq_left (Nat.le_of_lt (Nat.mod_lt _ hla0))) (hrx.take _) (by have := Nat.mod_lt cut hla0; omega) (fun e => by cases e) (by have := Nat.mod_lt cut hla0; omega) (Nat.zero_le _)
    rw [hgc] at h0
    exact (show Calls Tryd.prog 11 #[.slice (some ⟨b1, 0, none⟩) (cut % EA.length) c1, .int .i64 0] W (GetPost (.error 11) W) from h0))
  have CG2 := Lib.hid (fun W b1 c1 (hrx : Rd W (some ⟨b1, 0, none⟩) (EA ++ l)) (hc : (EA ++ l).length ≤ c1) => show Calls Tryd.prog 11 #[.slice (some ⟨b1, 0, none⟩) (EA.length + l.length) c1, .int .i64 0] W (GyPost a EA.length W) from by rw [← List.length_append]; exact get_yes b1 c1 (EA ++ l) 0 EA.length _ a W hrx (by rw [List.length_append]; omega) hc (Nat.zero_le _) hgw)
  obtain ⟨r, hrr⟩ : ∃ r, cut % EA.length = r := ⟨_, rfl⟩
  have hmod : (cut : Int) % (EA.length : Int) = (r : Int) := by rw [← hrr]; exact (Int.natCast_emod cut EA.length).symm
  have hrl : r < EA.length := by rw [← hrr]; exact Nat.mod_lt _ hla0
  rw [hrr] at CG1
  have HMN := Lib.hid hmn
  have HMOD := Lib.hid hmod
  clear hm hrr hmn hmod
  clear hpre hgc hgw hra hrb hwa hwb hEA hEB h1 h2 hr hn hnil
  obtain ⟨ka, na, sa, la⟩ := a
  obtain ⟨aa, ca, rfl, -, -, -, hLa⟩ := ha.inv
  obtain ⟨kb, nb, sb, lb⟩ := b
  obtain ⟨ab, cb, rfl, -, -, -, hLb⟩ := hb.inv
  have hla := hLa.le
  have hlb := hLb.le
  have hw1 : w.heap.size < w.heap.size + 1 + 1 := by omega
  have F := (Blk.new w #[.int .u8 ka, .int .i64 na, .string sa, .slice aa la.length ca] 25).below ((Below.refl _ _).alloc (Nat.le_refl _) (.cells #[.int .u8 kb, .int .i64 nb, .string sb, .slice ab lb.length cb] 25))
  have F' := Blk.new (w.alloc (.cells #[.int .u8 ka, .int .i64 na, .string sa, .slice aa la.length ca] 25)) #[.int .u8 kb, .int .i64 nb, .string sb, .slice ab lb.length cb] 25
  rw [show (w.alloc (.cells #[.int .u8 ka, .int .i64 na, .string sa, .slice aa la.length ca] 25)).heap.size = w.heap.size + 1 by simp] at F'
  have hB1 : Below w.heap.size w ((w.alloc (.cells #[.int .u8 ka, .int .i64 na, .string sa, .slice aa la.length ca] 25)).alloc (.cells #[.int .u8 kb, .int .i64 nb, .string sb, .slice ab lb.length cb] 25)) := ((Below.refl _ _).alloc (Nat.le_refl _) _).alloc (by simp) _
  have HF := Lib.hid F
  have HF' := Lib.hid F'
  have HB1 := Lib.hid hB1
  clear hLa hLb hB1 F F'
  clear ha hb ht
  have HK0 := Lib.hid (⟨HB1.out, HF.out, HF'.out⟩ : Kp2 w w.heap.size (w.heap.size + 1) _ _ _)
  clear HF HF' HB1
  have hz1 : ((EA.length : Int) == 0) = false := bneI (by omega)
  have hz2 : ((EB.length : Int) == 0) = false := bneI (by omega)
  have e0 := HK0.out.fa.cell 0
  have e1 := HK0.out.fa.cell 1
  have e2 := HK0.out.fa.cell 2
  have e3 := HK0.out.fa.cell 3
  have elt := HK0.out.fa.lt
  have d0 := HK0.out.fb.cell 0
  have d1 := HK0.out.fb.cell 1
  have d2 := HK0.out.fb.cell 2
  have d3 := HK0.out.fb.cell 3
  have dlt := HK0.out.fb.lt
  go_enter Tryd.func7, Tryd.ntmps7
  go_wp2_with fail
  with_reducible refine (CA.out _ HK0.out.bl).mono ?_
  rintro e w1 ⟨rfl, hb⟩
  have HKw1 := Lib.hid ((HK0.out).past hb)
  clear e0 e1 e2 e3 elt d0 d1 d2 d3 dlt
  have e0 := HKw1.out.fa.cell 0
  have e1 := HKw1.out.fa.cell 1
  have e2 := HKw1.out.fa.cell 2
  have e3 := HKw1.out.fa.cell 3
  have elt := HKw1.out.fa.lt
  have d0 := HKw1.out.fb.cell 0
  have d1 := HKw1.out.fb.cell 1
  have d2 := HKw1.out.fb.cell 2
  have d3 := HKw1.out.fb.cell 3
  have dlt := HKw1.out.fb.lt
  clear hb
  go_wp2_with fail
  with_reducible refine (CB.out _ HKw1.out.bl).mono ?_
  rintro e w2 ⟨rfl, hb⟩
  have HKw2 := Lib.hid ((HKw1.out).past hb)
  clear e0 e1 e2 e3 elt d0 d1 d2 d3 dlt
  have e0 := HKw2.out.fa.cell 0
  have e1 := HKw2.out.fa.cell 1
  have e2 := HKw2.out.fa.cell 2
  have e3 := HKw2.out.fa.cell 3
  have elt := HKw2.out.fa.lt
  have d0 := HKw2.out.fb.cell 0
  have d1 := HKw2.out.fb.cell 1
  have d2 := HKw2.out.fb.cell 2
  have d3 := HKw2.out.fb.cell 3
  have dlt := HKw2.out.fb.lt
  clear hb
  go_wp2_with fail
  with_reducible refine (CPA.out _ HKw2.out.bl).mono ?_
  rintro e w3 ⟨b3, c3, rfl, hx3, hc3, hb, _⟩
  have HKw3 := Lib.hid ((HKw2.out).past hb)
  clear e0 e1 e2 e3 elt d0 d1 d2 d3 dlt
  have e0 := HKw3.out.fa.cell 0
  have e1 := HKw3.out.fa.cell 1
  have e2 := HKw3.out.fa.cell 2
  have e3 := HKw3.out.fa.cell 3
  have elt := HKw3.out.fa.lt
  have d0 := HKw3.out.fb.cell 0
  have d1 := HKw3.out.fb.cell 1
  have d2 := HKw3.out.fb.cell 2
  have d3 := HKw3.out.fb.cell 3
  have dlt := HKw3.out.fb.lt
  clear hb
  have HX3 := Lib.hid hx3
  have HC3 := Lib.hid hc3
  clear hx3 hc3 CA CB CPA
  go_wp2_with fail
  with_reducible refine (CPB.out _ HKw3.out.bl).mono ?_
  rintro e w4 ⟨b4, c4, rfl, hx4, hc4, hb, _⟩
  have HX4 := Lib.hid hx4
  have HC4 := Lib.hid hc4
  have HX3' := Lib.hid (HX3.out.below hb)
  have HKw4 := Lib.hid (HKw3.out.past hb)
  clear e0 e1 e2 e3 elt d0 d1 d2 d3 dlt
  have e0 := HKw4.out.fa.cell 0
  have e1 := HKw4.out.fa.cell 1
  have e2 := HKw4.out.fa.cell 2
  have e3 := HKw4.out.fa.cell 3
  have elt := HKw4.out.fa.lt
  have d0 := HKw4.out.fb.cell 0
  have d1 := HKw4.out.fb.cell 1
  have d2 := HKw4.out.fb.cell 2
  have d3 := HKw4.out.fb.cell 3
  have dlt := HKw4.out.fb.lt
  have hmc3 : m ≤ c3 := Nat.le_trans hm1 HC3.out
  have hmc4 : m ≤ c4 := Nat.le_trans hm2 hc4
  clear hb hx4 hc4 CPB HX3
  have hmn := HMN.out
  go_wp2_with fail
  clear hmn
  have CX2 := Lib.hid (CX.out w4.drew b3 c3 b4 c4 (HX3'.out.below (Below.refl _ _).drew) (HX4.out.below (Below.refl _ _).drew))
  have CS2 := Lib.hid (CS.out w4.drew (bto HKw4.out.bl (Below.refl _ _).drew))
  refine wp_region_T_drew (fun w' => (w'.cell? ⟨w.heap.size, 0, none⟩ = some (.int .u8 ka) ∧ w'.cell? ⟨w.heap.size, 1, none⟩ = some (.int .i64 na) ∧ w'.cell? ⟨w.heap.size, 2, none⟩ = some (.string sa) ∧ w'.cell? ⟨w.heap.size, 3, none⟩ = some (.slice aa la.length ca)) ∧ (w'.cell? ⟨w.heap.size + 1, 0, none⟩ = some (.int .u8 kb) ∧ w'.cell? ⟨w.heap.size + 1, 1, none⟩ = some (.int .i64 nb) ∧ w'.cell? ⟨w.heap.size + 1, 2, none⟩ = some (.string sb) ∧ w'.cell? ⟨w.heap.size + 1, 3, none⟩ = some (.slice ab lb.length cb))) 11 (by kernel_rfl) ⟨⟨e0, e1, e2, e3⟩, d0, d1, d2, d3⟩ (fun hS => ?_)
  refine wpAnyT_take 0 rfl (by kernel_rfl) (by kernel_rfl) (by decide) (by kernel_rfl) (by kernel_rfl) (fun _ _ _ h => h) hS (by kernel_rfl) (v := ?_) ?_ ?_
  rotate_left
  · intro w' hSw; (try dsimp only at hSw); go_simp; (try with_reducible rfl)
  simp only [Act.put, List.setIfInBounds_toArray, List.set_cons_zero, List.set_cons_succ]
  refine wpAnyT_take 1 rfl (by kernel_rfl) (by kernel_rfl) (by decide) (by kernel_rfl) (by kernel_rfl) (fun _ _ _ h => h) hS (by kernel_rfl) (v := ?_) ?_ ?_
  rotate_left
  · intro w' hSw; (try dsimp only at hSw); go_simp; (try with_reducible rfl)
  simp only [Act.put, List.setIfInBounds_toArray, List.set_cons_zero, List.set_cons_succ]
  refine wpAnyT_take 2 rfl (by kernel_rfl) (by kernel_rfl) (by decide) (by kernel_rfl) (by kernel_rfl) (fun _ _ _ h => h) hS (by kernel_rfl) (v := ?_) ?_ ?_
  rotate_left
  · intro w' hSw; (try dsimp only at hSw); go_simp; (try with_reducible rfl)
  simp only [Act.put, List.setIfInBounds_toArray, List.set_cons_zero, List.set_cons_succ]
  refine wpAnyT_take 3 rfl (by kernel_rfl) (by kernel_rfl) (by decide) (by kernel_rfl) (by kernel_rfl) (fun _ _ _ h => h) hS (by kernel_rfl) (v := ?_) ?_ ?_
  rotate_left
  · intro w' hSw; (try dsimp only at hSw); go_simp; (try with_reducible rfl)
  simp only [Act.put, List.setIfInBounds_toArray, List.set_cons_zero, List.set_cons_succ]
  refine wpAnyT_take 4 rfl (by kernel_rfl) (by kernel_rfl) (by decide) (by kernel_rfl) (by kernel_rfl) (fun _ _ _ h => h) hS (by kernel_rfl) (v := ?_) ?_ ?_
  rotate_left
  · intro w' hSw; (try dsimp only at hSw); go_simp; (try with_reducible rfl)
  simp only [Act.put, List.setIfInBounds_toArray, List.set_cons_zero, List.set_cons_succ]
  refine wpAnyT_take 5 rfl (by kernel_rfl) (by kernel_rfl) (by decide) (by kernel_rfl) (by kernel_rfl) (fun _ _ _ h => h) hS (by kernel_rfl) (v := ?_) ?_ ?_
  rotate_left
  · intro w' hSw; (try dsimp only at hSw); go_simp; (try with_reducible rfl)
  simp only [Act.put, List.setIfInBounds_toArray, List.set_cons_zero, List.set_cons_succ]
  refine wpAnyT_take 7 rfl (by kernel_rfl) (by kernel_rfl) (by decide) (by kernel_rfl) (by kernel_rfl) (fun _ _ _ h => h) hS (by kernel_rfl) (v := ?_) ?_ ?_
  rotate_left
  · intro w' hSw; (try dsimp only at hSw); go_simp; (try with_reducible rfl)
  simp only [Act.put, List.setIfInBounds_toArray, List.set_cons_zero, List.set_cons_succ]
  refine wpAnyT_take 8 rfl (by kernel_rfl) (by kernel_rfl) (by decide) (by kernel_rfl) (by kernel_rfl) (fun _ _ _ h => h) hS (by kernel_rfl) (v := ?_) ?_ ?_
  rotate_left
  · intro w' hSw; (try dsimp only at hSw); go_simp; (try with_reducible rfl)
  simp only [Act.put, List.setIfInBounds_toArray, List.set_cons_zero, List.set_cons_succ]
  refine wpAnyT_one 6 (by kernel_rfl) rfl (by kernel_rfl) (fun K hK => ?_)
  go_simp
  with_reducible refine (CX2.out).mono ?_
  rintro e w5 ⟨rfl, rfl⟩
  refine hK _ _ (fun _ => hS) ?_
  clear hK K
  refine wpAnyT_one 9 (by kernel_rfl) rfl (by kernel_rfl) (fun K hK => ?_)
  go_simp
  with_reducible refine (CS2.out).mono ?_
  rintro e w5 ⟨rfl, hb⟩
  have HKw5 := Lib.hid ((HKw4.out.past (Below.refl w4.heap.size w4).drew).past hb)
  have HX5 := Lib.hid ((HX3'.out.below (Below.refl w4.heap.size w4).drew).below hb)
  clear e0 e1 e2 e3 elt d0 d1 d2 d3 dlt
  have e0 := HKw5.out.fa.cell 0
  have e1 := HKw5.out.fa.cell 1
  have e2 := HKw5.out.fa.cell 2
  have e3 := HKw5.out.fa.cell 3
  have elt := HKw5.out.fa.lt
  have d0 := HKw5.out.fb.cell 0
  have d1 := HKw5.out.fb.cell 1
  have d2 := HKw5.out.fb.cell 2
  have d3 := HKw5.out.fb.cell 3
  have dlt := HKw5.out.fb.lt
  have hS : (_ ∧ _ ∧ _ ∧ _) ∧ (_ ∧ _ ∧ _ ∧ _) := ⟨⟨e0, e1, e2, e3⟩, d0, d1, d2, d3⟩
  clear hb CX CX2 CS CS2 HX3' HX4 HKw4
  refine hK _ _ (fun _ => hS) ?_
  clear hK K
  refine wpAnyT_take 10 rfl (by kernel_rfl) (by kernel_rfl) (by decide) (by kernel_rfl) (by kernel_rfl) (fun _ _ _ h => h) hS (by kernel_rfl) (v := ?_) ?_ ?_
  rotate_left
  · intro w' hSw; (try dsimp only at hSw); go_simp; (try with_reducible rfl)
  simp only [Act.put, List.setIfInBounds_toArray, List.set_cons_zero, List.set_cons_succ]
  refine wpAnyT_done (by kernel_rfl) ?_
  clear hS
  have CG1' := Lib.hid (CG1.out w5 b3 c3 HX5.out HC3.out)
  have hrc3 : r ≤ c3 := by have := HC3.out; omega
  have hmod := HMOD.out
  go_wp2_with fail
  clear hmod
  with_reducible refine (CG1'.out).mono ?_
  rintro e w6 ⟨rfl, _, hb⟩
  have HKw6 := Lib.hid ((HKw5.out.past hb).more (.cells #[.int .u8 0, .int .i64 0, .string ⟨#[]⟩, .slice none 0 0] 25))
  have HX6 := Lib.hid ((HX5.out.below hb).below ((Below.refl _ _).alloc (Nat.le_refl _) (.cells #[.int .u8 0, .int .i64 0, .string ⟨#[]⟩, .slice none 0 0] 25)))
  clear e0 e1 e2 e3 elt d0 d1 d2 d3 dlt
  have e0 := HKw6.out.fa.cell 0
  have e1 := HKw6.out.fa.cell 1
  have e2 := HKw6.out.fa.cell 2
  have e3 := HKw6.out.fa.cell 3
  have elt := HKw6.out.fa.lt
  have d0 := HKw6.out.fb.cell 0
  have d1 := HKw6.out.fb.cell 1
  have d2 := HKw6.out.fb.cell 2
  have d3 := HKw6.out.fb.cell 3
  have dlt := HKw6.out.fb.lt
  clear hb CG1 CG1' HKw5 HX5
  have CC := Lib.hid (copyBytes_any (some ⟨b3, 0, none⟩) EA.length c3 EA _ rfl HX6.out (fun e => by cases e) (by omega))
  go_wp2_with fail
  with_reducible refine (CC.out).mono ?_
  rintro e w7 ⟨g7, c7, rfl, ho7, hb⟩
  have HKw7 := Lib.hid (HKw6.out.past hb)
  have HX7 := Lib.hid (HX6.out.below hb)
  have HO7 := Lib.hid (show Ow w7 w.heap.size _ EA from ho7.mono HKw6.out.bl.size)
  have HRB := Lib.hid (HR.out.below HKw7.out.bl)
  have hsz7 : w.heap.size ≤ w7.heap.size := HKw7.out.bl.size
  clear hb ho7 CC HKw6 HX6 e0 e1 e2 e3 elt d0 d1 d2 d3 dlt
  obtain ⟨i0, hi, hz0, hzi1, hzi2⟩ := info_parts Tryd.info_u8
  go_wp2_with (at_builtin; refine wpList_append_rd _ rfl _ _ 26 rfl w.heap.size 5 i0 (.int .u8 0) 1 1 Tryd.underlying26 hi hz0 hzi1 hzi2 rfl (by decide) (.slice g7 EA.length c7) EA.length (u8s EA) rfl HO7.out ba n cap (u8s l) rfl ?_ HNIL.out ?_ (u8s_one l) ?_ ?_ hsz7 ?_)
  · rw [u8s_len]; have := HN.out; omega
  · intro ad he j u hj
    have hjl : j < l.length := by have := (List.getElem?_eq_some_iff.1 hj).1; rw [u8s_len] at this; exact this
    rcases HRB.out with h | ⟨b, o, e, hlt, hc⟩
    · rw [h] at hjl; simp at hjl
    · rw [he] at e; cases e
      rw [addPl, hc j hjl, ← hj]
      unfold u8s; simp [hjl]
  · unfold maxLen; omega
  · omega
  intro v8 w8 ho8 hg8 _
  have hown8 : Ow w8 w.heap.size v8 (EA ++ l) := by
    unfold Ow; rw [u8s_app, List.length_append, HN.out]; exact ho8
  have hne8 : EA ++ l ≠ [] := by intro h; have := congrArg List.length h; rw [List.length_append, List.length_nil] at this; omega
  obtain ⟨b8, c8, rfl, hx8, hc8, _⟩ := Ow.addr hown8 hne8
  have HKw8 := Lib.hid (HKw7.out.row HO7.out hg8)
  have CG3 := Lib.hid (CG2.out w8 b8 c8 hx8 hc8)
  clear ho8 hg8 hown8 hne8 hx8 hc8 HX7 HO7 HKw7 hi hz0 hzi1 hzi2 HRB
  go_wp2_with fail
  with_reducible refine (CG3.out).mono ?_
  rintro e w9 ⟨b9, c9, rfl, hv9, hc9, hb⟩
  simp only at hv9 hc9
  have HKw9 := Lib.hid ((HKw8.out.past hb).more (.cells #[.int .u8 ka, .int .i64 na, .string sa, .slice b9 la.length c9] 25))
  have F9 := Blk.new w9 #[.int .u8 ka, .int .i64 na, .string sa, .slice b9 la.length c9] 25
  have CL9 := Lib.hid (CL.out _ _ _ HKw9.out.bl (hv9.past ((Below.refl _ _).alloc (Nat.le_refl _) (.cells #[.int .u8 ka, .int .i64 na, .string sa, .slice b9 la.length c9] 25))))
  have e0 := HKw9.out.fa.cell 0
  have e1 := HKw9.out.fa.cell 1
  have e2 := HKw9.out.fa.cell 2
  have e3 := HKw9.out.fa.cell 3
  have elt := HKw9.out.fa.lt
  have d0 := F9.cell 0
  have d1 := F9.cell 1
  have d2 := F9.cell 2
  have d3 := F9.cell 3
  have dlt := F9.lt
  clear hv9 hb F9 CG2 CG3 CL HKw8
  go_wp2_with fail
  with_reducible refine (CL9.out).mono ?_
  rintro e w10 ⟨rfl, hb⟩
  have HKw10 := Lib.hid (HKw9.out.past hb)
  clear hb CL9 e0 e1 e2 e3 elt d0 d1 d2 d3 dlt HKw9
  go_wp2_with fail
  with_reducible refine (CW.out _ HKw10.out.bl).mono ?_
  rintro e w11 ⟨rfl, hb⟩
  have HB11 := Lib.hid (bto HKw10.out.bl hb)
  clear hb
  go_wp2
  go_ret
  exact ⟨rfl, HB11.out⟩
theorem apart_true (a b : V) (ok ok' : Nat → Prop) (xa xb : Value) (ba : Option Addr) (n cap : Nat) (l : List UInt8) (cut : Nat) (w : World) (ha : RV ok w a xa) (hb : RV ok' w b xb) (ht : Tab w) (hn : l.length = n) (hr : Rd w ba l) (hnil : ba = none → n = 0) (hm : n ≤ maxLen) (hcut : cut < 65536) :
    Calls Tryd.prog 7 #[xa, xb, .slice ba n cap, .int .u16 cut] w (BB true w) := by
  by_cases h : (Va.smallV a 20 60 && Va.right a) = true ∧ (Va.smallV b 20 60 && Va.right b) = true ∧ n ≤ 100
  · exact apart_yes a b ok ok' xa xb ba n cap l cut w ha hb ht hn hr hnil hcut h.1 h.2.1 h.2.2
  · exact apart_no a b ok ok' xa xb ba n cap cut w ha hb ht hm h
theorem apart_row (a : V) (ok : Nat → Prop) (xa : Value) (b : V) (ok' : Nat → Prop) (xb : Value) (ba : Option Addr) (n cap : Nat) (l : List UInt8) (cut : Nat) (w : World) (ha : RV ok w a xa) (hb : RV ok' w b xb) (hn : l.length = n) (hr : Rd w ba l) (hnil : ba = none → n = 0) (hm : n ≤ maxLen) (hcut : cut < 65536) (ht : Tab w) :
    Calls Tryd.prog 7 #[xa, xb, .slice ba n cap, .int .u16 cut] w (BB true w) := apart_true a b ok ok' xa xb ba n cap l cut w ha hb ht hn hr hnil hm hcut
end Go.Proofs.YtgamhgeiceakeaaDoor
