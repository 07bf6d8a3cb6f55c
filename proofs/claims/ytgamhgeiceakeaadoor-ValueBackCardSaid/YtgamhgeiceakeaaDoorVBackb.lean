/- ValueBack, the walk where all is looked at. -/
import Derived.Test.YtgamhgeiceakeaaDoorVBack
set_option linter.unusedVariables false
set_option linter.unusedSimpArgs false
namespace Go.Proofs.YtgamhgeiceakeaaDoor
open Go.RowKit
open Va (V)
theorem Ow.addrd {w : World} {B b c n : Nat} {l : List UInt8} (h : Ow w B (.slice (some ⟨b, 0, none⟩) n c) l) : Rd w (some ⟨b, 0, none⟩) l := by
  obtain ⟨ba, c', e, h1, _, _⟩ := h.rd
  cases e; exact h1
set_option maxHeartbeats 6400000 in
set_option maxRecDepth 100000 in
theorem back_bad_no (v : V) (ok : Nat → Prop) (x : Value) (ba : Option Addr) (n cap : Nat) (l : List UInt8) (bb : Option Addr) (m cb : Nat) (l2 : List UInt8) (w : World) (hv : RV ok w v x) (ht : Tab w) (hn : l.length = n) (hr : Rd w ba l) (hnil : ba = none → n = 0) (hnc : n ≤ cap) (hm : l2.length = m) (hr2 : Rd w bb l2) (hnil2 : bb = none → m = 0)
    (h1 : Va.smallV v 20 60 = true) (h2 : n ≤ 1000) (h3 : m ≤ 100) (hR : Va.right v = false) (er : Nat) (hg : Va.get l 0 = .error er) :
    Calls Tryd.prog 3 #[x, .slice ba n cap, .slice bb m cb] w (BB true w) := by
  have CA := Lib.hid (fun W (hbl : Below w.heap.size w W) => small_lit v ok x W (hv.past hbl) _ h1)
  have CW := Lib.hid (fun W (hbl : Below w.heap.size w W) => awake_any W (ht.past hbl))
  have CCB := Lib.hid (fun W (hbl : Below w.heap.size w W) => copyBytes_any ba n cap l W hn (hr.below hbl) hnil (by omega))
  have CL := Lib.hid (fun W y okk (hbl : Below w.heap.size w W) (hy : RV okk W v y) => alike_lit v v okk ok y x W true (Va.alk_refl v) hy (hv.past hbl))
  have HR := Lib.hid hr
  have HN := Lib.hid hn
  have HNIL := Lib.hid hnil
  have HR2 := Lib.hid hr2
  have HM := Lib.hid hm
  have HNIL2 := Lib.hid hnil2
  have CRV := Lib.hid (fun W (hbl : Below w.heap.size w W) => right_lit v ok x W (hv.past hbl) false hR)
  have CPN := Lib.hid (fun W (hbl : Below w.heap.size w W) u (ho : Ow W w.heap.size u l) => put_own_no v ok x w W hv hbl u l ho (by omega) hR)
  have CG := Lib.hid (fun W (hbl : Below w.heap.size w W) => show Calls Tryd.prog 11 #[.slice ba n cap, .int .i64 0] W (GetPost (.error er) W) from get_bad_gen ba n cap l 0 er W hn (hr.below hbl) (by omega) hnil hnc (by omega) hg)
  clear hR
  obtain ⟨ka, na, sa, la⟩ := v
  obtain ⟨aa, ca, rfl, -, -, -, hLa⟩ := hv.inv
  have hla := hLa.le
  have HK0 := Lib.hid (⟨(Below.refl _ _).alloc (Nat.le_refl _) _, Blk.new w _ _⟩ : Kp1 w w.heap.size #[.int .u8 ka, .int .i64 na, .string sa, .slice aa la.length ca] (w.alloc (.cells #[.int .u8 ka, .int .i64 na, .string sa, .slice aa la.length ca] 25)))
  clear hLa
  have e0 := HK0.out.fa.cell 0
  have e1 := HK0.out.fa.cell 1
  have e2 := HK0.out.fa.cell 2
  have e3 := HK0.out.fa.cell 3
  have elt := HK0.out.fa.lt
  clear hv ht hr hn hnil hr2 hm hnil2 hg h1
  go_enter Tryd.func3, Tryd.ntmps3
  go_wp2_with fail
  with_reducible refine (CA.out _ HK0.out.bl).mono ?_
  rintro e w1 ⟨rfl, hb⟩
  have HKw1 := Lib.hid ((HK0.out).past hb)
  clear e0 e1 e2 e3 elt
  have e0 := HKw1.out.fa.cell 0
  have e1 := HKw1.out.fa.cell 1
  have e2 := HKw1.out.fa.cell 2
  have e3 := HKw1.out.fa.cell 3
  have elt := HKw1.out.fa.lt
  clear hb
  go_wp2_with fail
  with_reducible refine (CG.out _ HKw1.out.bl).mono ?_
  rintro e w2 ⟨rfl, her, hb⟩
  have he1 : ((er : Int) == 0) = false := bneI (by omega)
  have HKw2 := Lib.hid ((HKw1.out.past hb).more (.cells #[.int .u8 0, .int .i64 0, .string ⟨#[]⟩, .slice none 0 0] 25))
  clear e0 e1 e2 e3 elt
  have e0 := HKw2.out.fa.cell 0
  have e1 := HKw2.out.fa.cell 1
  have e2 := HKw2.out.fa.cell 2
  have e3 := HKw2.out.fa.cell 3
  have elt := HKw2.out.fa.lt
  clear hb HKw1 CA CG HK0
  go_wp2_with fail
  refine wp_region_T_drew (fun w' => w'.cell? ⟨w.heap.size, 0, none⟩ = some (.int .u8 ka) ∧ w'.cell? ⟨w.heap.size, 1, none⟩ = some (.int .i64 na) ∧ w'.cell? ⟨w.heap.size, 2, none⟩ = some (.string sa) ∧ w'.cell? ⟨w.heap.size, 3, none⟩ = some (.slice aa la.length ca)) 9 (by kernel_rfl) ⟨e0, e1, e2, e3⟩ (fun hS => ?_)
  have HKd := Lib.hid (HKw2.out.past (Below.refl _ _).drew)
  refine wpAnyT_take 0 rfl (by kernel_rfl) (by kernel_rfl) (by decide) (by kernel_rfl) (by kernel_rfl) (fun _ _ _ h => h) hS (by kernel_rfl) (v := ?_) ?_ ?_
  rotate_left
  · intro w' hSw; (try dsimp only at hSw); go_simp; (try with_reducible rfl)
  simp only [Act.put, List.setIfInBounds_toArray, List.set_cons_zero, List.set_cons_succ]
  refine wpAnyT_take 2 rfl (by kernel_rfl) (by kernel_rfl) (by decide) (by kernel_rfl) (by kernel_rfl) (fun _ _ _ h => h) hS (by kernel_rfl) (v := ?_) ?_ ?_
  rotate_left
  · intro w' hSw; (try dsimp only at hSw); go_simp; (try with_reducible rfl)
  simp only [Act.put, List.setIfInBounds_toArray, List.set_cons_zero, List.set_cons_succ]
  refine wpAnyT_one 1 (by kernel_rfl) rfl (by kernel_rfl) (fun K hK => ?_)
  go_simp
  with_reducible refine (CCB.out _ HKd.out.bl).mono ?_
  rintro e wp ⟨gp, cp, rfl, hop, hb⟩
  have HKp := Lib.hid (HKd.out.past hb)
  have HOp := Lib.hid (show Ow wp w.heap.size _ l from hop.mono HKd.out.bl.size)
  clear e0 e1 e2 e3 elt
  have e0 := HKp.out.fa.cell 0
  have e1 := HKp.out.fa.cell 1
  have e2 := HKp.out.fa.cell 2
  have e3 := HKp.out.fa.cell 3
  have elt := HKp.out.fa.lt
  have hS : _ ∧ _ ∧ _ ∧ _ := ⟨e0, e1, e2, e3⟩
  refine hK _ _ (fun _ => hS) ?_
  clear hK K hb hop HKd
  refine wpAnyT_one 3 (by kernel_rfl) rfl (by kernel_rfl) (fun K hK => ?_)
  go_simp
  with_reducible refine (CPN.out wp HKp.out.bl _ HOp.out).mono ?_
  rintro e wq ⟨rfl, hb⟩
  have HKq := Lib.hid (HKp.out.past hb)
  clear e0 e1 e2 e3 elt
  have e0 := HKq.out.fa.cell 0
  have e1 := HKq.out.fa.cell 1
  have e2 := HKq.out.fa.cell 2
  have e3 := HKq.out.fa.cell 3
  have elt := HKq.out.fa.lt
  have hS : _ ∧ _ ∧ _ ∧ _ := ⟨e0, e1, e2, e3⟩
  refine hK _ _ (fun _ => hS) ?_
  clear hK K hb HKp HOp
  refine wpAnyT_take 4 rfl (by kernel_rfl) (by kernel_rfl) (by decide) (by kernel_rfl) (by kernel_rfl) (fun _ _ _ h => h) hS (by kernel_rfl) (v := ?_) ?_ ?_
  rotate_left
  · intro w' hSw; (try dsimp only at hSw); go_simp; (try with_reducible rfl)
  simp only [Act.put, List.setIfInBounds_toArray, List.set_cons_zero, List.set_cons_succ]
  refine wpAnyT_take 5 rfl (by kernel_rfl) (by kernel_rfl) (by decide) (by kernel_rfl) (by kernel_rfl) (fun _ _ _ h => h) hS (by kernel_rfl) (v := ?_) ?_ ?_
  rotate_left
  · intro w' hSw; (try dsimp only at hSw); go_simp; (try with_reducible rfl)
  simp only [Act.put, List.setIfInBounds_toArray, List.set_cons_zero, List.set_cons_succ]
  refine wpAnyT_take 6 rfl (by kernel_rfl) (by kernel_rfl) (by decide) (by kernel_rfl) (by kernel_rfl) (fun _ _ _ h => h) hS (by kernel_rfl) (v := ?_) ?_ ?_
  rotate_left
  · intro w' hSw; (try dsimp only at hSw); go_simp; (try with_reducible rfl)
  simp only [Act.put, List.setIfInBounds_toArray, List.set_cons_zero, List.set_cons_succ]
  refine wpAnyT_one 7 (by kernel_rfl) rfl (by kernel_rfl) (fun K hK => ?_)
  go_simp
  refine hK _ _ (fun _ => hS) ?_
  clear hK K
  refine wpAnyT_one 8 (by kernel_rfl) rfl (by kernel_rfl) (fun K hK => ?_)
  go_simp
  refine hK _ _ (fun _ => hS) ?_
  clear hK K
  refine wpAnyT_done (by kernel_rfl) ?_
  clear hS
  go_wp2_with fail
  with_reducible refine (CRV.out _ HKq.out.bl).mono ?_
  rintro e wr ⟨rfl, hb⟩
  have HKwr := Lib.hid ((HKq.out).past hb)
  clear e0 e1 e2 e3 elt
  have e0 := HKwr.out.fa.cell 0
  have e1 := HKwr.out.fa.cell 1
  have e2 := HKwr.out.fa.cell 2
  have e3 := HKwr.out.fa.cell 3
  have elt := HKwr.out.fa.lt
  clear hb
  go_wp2_with fail
  with_reducible refine (CW.out _ HKwr.out.bl).mono ?_
  rintro e wz ⟨rfl, hb⟩
  have HKwz := Lib.hid ((HKwr.out).past hb)
  clear e0 e1 e2 e3 elt
  have e0 := HKwz.out.fa.cell 0
  have e1 := HKwz.out.fa.cell 1
  have e2 := HKwz.out.fa.cell 2
  have e3 := HKwz.out.fa.cell 3
  have elt := HKwz.out.fa.lt
  clear hb
  go_wp2
  go_ret
  exact ⟨rfl, HKwz.out.bl⟩

set_option maxHeartbeats 6400000 in
set_option maxRecDepth 100000 in
theorem back_bad_yes (v : V) (ok : Nat → Prop) (x : Value) (ba : Option Addr) (n cap : Nat) (l : List UInt8) (bb : Option Addr) (m cb : Nat) (l2 : List UInt8) (w : World) (hv : RV ok w v x) (ht : Tab w) (hn : l.length = n) (hr : Rd w ba l) (hnil : ba = none → n = 0) (hnc : n ≤ cap) (hm : l2.length = m) (hr2 : Rd w bb l2) (hnil2 : bb = none → m = 0)
    (h1 : Va.smallV v 20 60 = true) (h2 : n ≤ 1000) (h3 : m ≤ 100) (hR : Va.right v = true) (er : Nat) (hg : Va.get l 0 = .error er) :
    Calls Tryd.prog 3 #[x, .slice ba n cap, .slice bb m cb] w (BB true w) := by
  have CA := Lib.hid (fun W (hbl : Below w.heap.size w W) => small_lit v ok x W (hv.past hbl) _ h1)
  have CW := Lib.hid (fun W (hbl : Below w.heap.size w W) => awake_any W (ht.past hbl))
  have CCB := Lib.hid (fun W (hbl : Below w.heap.size w W) => copyBytes_any ba n cap l W hn (hr.below hbl) hnil (by omega))
  have CL := Lib.hid (fun W y okk (hbl : Below w.heap.size w W) (hy : RV okk W v y) => alike_lit v v okk ok y x W true (Va.alk_refl v) hy (hv.past hbl))
  have HR := Lib.hid hr
  have HN := Lib.hid hn
  have HNIL := Lib.hid hnil
  have HR2 := Lib.hid hr2
  have HM := Lib.hid hm
  have HNIL2 := Lib.hid hnil2
  have hwf := rv_wf hv
  have CRV := Lib.hid (fun W (hbl : Below w.heap.size w W) => right_lit v ok x W (hv.past hbl) true hR)
  have CPY := Lib.hid (fun W (hbl : Below w.heap.size w W) u (ho : Ow W w.heap.size u l) => put_own_yes v ok x w W hv hbl u l ho (by omega) hR (l ++ Va.enc v) rfl)
  have hla1 : (Va.enc v).length ≤ 2097152 := by
    have hra := hR
    unfold Va.right at hra; rw [Bool.and_eq_true, decide_eq_true_eq] at hra
    have := enc_len v 16 hra.1; omega
  have hpos := List.length_pos_iff.2 (enc_ne v)
  have hgA : Va.get ((l ++ Va.enc v) ++ l2) n = .ok (v, (l ++ Va.enc v).length, 256 - Va.cnt v) := by
    have := Va.get_enc v ((l ++ Va.enc v) ++ l2) n l2 hR hwf (by rw [List.append_assoc, ← hn, List.drop_left])
    rw [this, List.length_append, hn]
  have hAl : (l ++ Va.enc v).length ≤ 2098152 := by rw [List.length_append]; omega
  have hA0 : 0 < (l ++ Va.enc v).length := by rw [List.length_append]; omega
  have hnA : n ≤ (l ++ Va.enc v).length := by rw [List.length_append]; omega
  have htk : ((l ++ Va.enc v).take n == l) = true := by rw [beq_iff_eq, ← hn, List.take_left]
  have htl : ((l ++ Va.enc v).take n).length = n := by rw [List.length_take]; omega
  generalize l ++ Va.enc v = A at CPY hgA hAl hA0 hnA htk htl
  have HTK := Lib.hid htk
  have HTL := Lib.hid htl
  have CGA := Lib.hid (fun W b c (hrx : Rd W (some ⟨b, 0, none⟩) (A ++ l2)) (hc : (A ++ l2).length ≤ c) => show Calls Tryd.prog 11 #[.slice (some ⟨b, 0, none⟩) (A.length + l2.length) c, .int .i64 n] W (GyPost v A.length W) from by rw [← List.length_append]; exact get_gen (some ⟨b, 0, none⟩) (A ++ l2).length c (A ++ l2) n A.length _ v W rfl hrx (by rw [List.length_append]; omega) (fun e => by cases e) hc (by rw [List.length_append]; omega) hgA)
  clear htk htl hgA hwf hpos hla1
  have CG := Lib.hid (fun W (hbl : Below w.heap.size w W) => show Calls Tryd.prog 11 #[.slice ba n cap, .int .i64 0] W (GetPost (.error er) W) from get_bad_gen ba n cap l 0 er W hn (hr.below hbl) (by omega) hnil hnc (by omega) hg)
  clear hR
  obtain ⟨ka, na, sa, la⟩ := v
  obtain ⟨aa, ca, rfl, -, -, -, hLa⟩ := hv.inv
  have hla := hLa.le
  have HK0 := Lib.hid (⟨(Below.refl _ _).alloc (Nat.le_refl _) _, Blk.new w _ _⟩ : Kp1 w w.heap.size #[.int .u8 ka, .int .i64 na, .string sa, .slice aa la.length ca] (w.alloc (.cells #[.int .u8 ka, .int .i64 na, .string sa, .slice aa la.length ca] 25)))
  clear hLa
  have e0 := HK0.out.fa.cell 0
  have e1 := HK0.out.fa.cell 1
  have e2 := HK0.out.fa.cell 2
  have e3 := HK0.out.fa.cell 3
  have elt := HK0.out.fa.lt
  clear hv ht hr hn hnil hr2 hm hnil2 hg h1
  go_enter Tryd.func3, Tryd.ntmps3
  go_wp2_with fail
  with_reducible refine (CA.out _ HK0.out.bl).mono ?_
  rintro e w1 ⟨rfl, hb⟩
  have HKw1 := Lib.hid ((HK0.out).past hb)
  clear e0 e1 e2 e3 elt
  have e0 := HKw1.out.fa.cell 0
  have e1 := HKw1.out.fa.cell 1
  have e2 := HKw1.out.fa.cell 2
  have e3 := HKw1.out.fa.cell 3
  have elt := HKw1.out.fa.lt
  clear hb
  go_wp2_with fail
  with_reducible refine (CG.out _ HKw1.out.bl).mono ?_
  rintro e w2 ⟨rfl, her, hb⟩
  have he1 : ((er : Int) == 0) = false := bneI (by omega)
  have HKw2 := Lib.hid ((HKw1.out.past hb).more (.cells #[.int .u8 0, .int .i64 0, .string ⟨#[]⟩, .slice none 0 0] 25))
  clear e0 e1 e2 e3 elt
  have e0 := HKw2.out.fa.cell 0
  have e1 := HKw2.out.fa.cell 1
  have e2 := HKw2.out.fa.cell 2
  have e3 := HKw2.out.fa.cell 3
  have elt := HKw2.out.fa.lt
  clear hb HKw1 CA CG HK0
  go_wp2_with fail
  refine wp_region_T_drew (fun w' => w'.cell? ⟨w.heap.size, 0, none⟩ = some (.int .u8 ka) ∧ w'.cell? ⟨w.heap.size, 1, none⟩ = some (.int .i64 na) ∧ w'.cell? ⟨w.heap.size, 2, none⟩ = some (.string sa) ∧ w'.cell? ⟨w.heap.size, 3, none⟩ = some (.slice aa la.length ca)) 9 (by kernel_rfl) ⟨e0, e1, e2, e3⟩ (fun hS => ?_)
  have HKd := Lib.hid (HKw2.out.past (Below.refl _ _).drew)
  refine wpAnyT_take 0 rfl (by kernel_rfl) (by kernel_rfl) (by decide) (by kernel_rfl) (by kernel_rfl) (fun _ _ _ h => h) hS (by kernel_rfl) (v := ?_) ?_ ?_
  rotate_left
  · intro w' hSw; (try dsimp only at hSw); go_simp; (try with_reducible rfl)
  simp only [Act.put, List.setIfInBounds_toArray, List.set_cons_zero, List.set_cons_succ]
  refine wpAnyT_take 2 rfl (by kernel_rfl) (by kernel_rfl) (by decide) (by kernel_rfl) (by kernel_rfl) (fun _ _ _ h => h) hS (by kernel_rfl) (v := ?_) ?_ ?_
  rotate_left
  · intro w' hSw; (try dsimp only at hSw); go_simp; (try with_reducible rfl)
  simp only [Act.put, List.setIfInBounds_toArray, List.set_cons_zero, List.set_cons_succ]
  refine wpAnyT_one 1 (by kernel_rfl) rfl (by kernel_rfl) (fun K hK => ?_)
  go_simp
  with_reducible refine (CCB.out _ HKd.out.bl).mono ?_
  rintro e wp ⟨gp, cp, rfl, hop, hb⟩
  have HKp := Lib.hid (HKd.out.past hb)
  have HOp := Lib.hid (show Ow wp w.heap.size _ l from hop.mono HKd.out.bl.size)
  clear e0 e1 e2 e3 elt
  have e0 := HKp.out.fa.cell 0
  have e1 := HKp.out.fa.cell 1
  have e2 := HKp.out.fa.cell 2
  have e3 := HKp.out.fa.cell 3
  have elt := HKp.out.fa.lt
  have hS : _ ∧ _ ∧ _ ∧ _ := ⟨e0, e1, e2, e3⟩
  refine hK _ _ (fun _ => hS) ?_
  clear hK K hb hop HKd
  refine wpAnyT_one 3 (by kernel_rfl) rfl (by kernel_rfl) (fun K hK => ?_)
  go_simp
  with_reducible refine (CPY.out wp HKp.out.bl _ HOp.out).mono ?_
  rintro e wq ⟨b8, c8, rfl, ho8, hg8, hc8⟩
  have HKq := Lib.hid (HKp.out.row HOp.out hg8)
  have HOq := Lib.hid ho8
  clear e0 e1 e2 e3 elt
  have e0 := HKq.out.fa.cell 0
  have e1 := HKq.out.fa.cell 1
  have e2 := HKq.out.fa.cell 2
  have e3 := HKq.out.fa.cell 3
  have elt := HKq.out.fa.lt
  have hS : _ ∧ _ ∧ _ ∧ _ := ⟨e0, e1, e2, e3⟩
  refine hK _ _ (fun _ => hS) ?_
  clear hK K ho8 hg8 HKp HOp
  refine wpAnyT_take 4 rfl (by kernel_rfl) (by kernel_rfl) (by decide) (by kernel_rfl) (by kernel_rfl) (fun _ _ _ h => h) hS (by kernel_rfl) (v := ?_) ?_ ?_
  rotate_left
  · intro w' hSw; (try dsimp only at hSw); go_simp; (try with_reducible rfl)
  simp only [Act.put, List.setIfInBounds_toArray, List.set_cons_zero, List.set_cons_succ]
  refine wpAnyT_take 5 rfl (by kernel_rfl) (by kernel_rfl) (by decide) (by kernel_rfl) (by kernel_rfl) (fun _ _ _ h => h) hS (by kernel_rfl) (v := ?_) ?_ ?_
  rotate_left
  · intro w' hSw; (try dsimp only at hSw); go_simp; (try with_reducible rfl)
  simp only [Act.put, List.setIfInBounds_toArray, List.set_cons_zero, List.set_cons_succ]
  refine wpAnyT_take 6 rfl (by kernel_rfl) (by kernel_rfl) (by decide) (by kernel_rfl) (by kernel_rfl) (fun _ _ _ h => h) hS (by kernel_rfl) (v := ?_) ?_ ?_
  rotate_left
  · intro w' hSw; (try dsimp only at hSw); go_simp; (try with_reducible rfl)
  simp only [Act.put, List.setIfInBounds_toArray, List.set_cons_zero, List.set_cons_succ]
  refine wpAnyT_one 7 (by kernel_rfl) rfl (by kernel_rfl) (fun K hK => ?_)
  go_simp
  refine hK _ _ (fun _ => hS) ?_
  clear hK K
  refine wpAnyT_one 8 (by kernel_rfl) rfl (by kernel_rfl) (fun K hK => ?_)
  go_simp
  refine hK _ _ (fun _ => hS) ?_
  clear hK K
  refine wpAnyT_done (by kernel_rfl) ?_
  clear hS
  go_wp2_with fail
  with_reducible refine (CRV.out _ HKq.out.bl).mono ?_
  rintro e wr ⟨rfl, hb⟩
  have HKr := Lib.hid (HKq.out.past hb)
  have HOr := Lib.hid (HOq.out.past hb)
  clear e0 e1 e2 e3 elt
  have e0 := HKr.out.fa.cell 0
  have e1 := HKr.out.fa.cell 1
  have e2 := HKr.out.fa.cell 2
  have e3 := HKr.out.fa.cell 3
  have elt := HKr.out.fa.lt
  clear hb HKq HOq
  have HRr := Lib.hid (HOr.out.addrd)
  have CC2 := Lib.hid (copyBytes_any (some ⟨b8, 0, none⟩) A.length c8 A wr rfl HRr.out (fun e => by cases e) (by omega))
  have hb8 : b8 < wr.heap.size := (HOr.out.lt b8 rfl).2
  clear e0 e1 e2 e3 elt
  go_wp2_with fail
  with_reducible refine (CC2.out).mono ?_
  rintro e ws ⟨gs, cs, rfl, hos, hb⟩
  have HKs := Lib.hid (HKr.out.past hb)
  have HRs := Lib.hid (HRr.out.below hb)
  have HOs := Lib.hid hos
  have HB2s := Lib.hid (HR2.out.below HKs.out.bl)
  have hszs : wr.heap.size ≤ ws.heap.size := hb.size
  have HOw := Lib.hid (show Ow ws w.heap.size _ A from hos.mono HKr.out.bl.size)
  clear hb hos CC2 HRr HOr HKr
  obtain ⟨i0, hi, hz0, hzi1, hzi2⟩ := info_parts Tryd.info_u8
  go_wp2_with (at_builtin; refine wpList_append_rd _ rfl _ _ 26 rfl wr.heap.size 5 i0 (.int .u8 0) 1 1 Tryd.underlying26 hi hz0 hzi1 hzi2 rfl (by decide) (.slice gs A.length cs) A.length (u8s A) rfl HOs.out bb m cb (u8s l2) rfl ?_ HNIL2.out ?_ (u8s_one l2) ?_ ?_ hszs ?_)
  · rw [u8s_len]; have := HM.out; omega
  · intro ad he j u hj
    have hjl : j < l2.length := by have := (List.getElem?_eq_some_iff.1 hj).1; rw [u8s_len] at this; exact this
    rcases HB2s.out with h | ⟨b, o, e, hlt, hc⟩
    · rw [h] at hjl; simp at hjl
    · rw [he] at e; cases e
      rw [addPl, hc j hjl, ← hj]
      unfold u8s; simp [hjl]
  · unfold maxLen; omega
  · omega
  intro v8 wt ho8 hg8 _
  have hown8 : Ow wt wr.heap.size v8 (A ++ l2) := by
    unfold Ow; rw [u8s_app, List.length_append, HM.out]; exact ho8
  obtain ⟨b9, c9, rfl, hx9, hc9, _⟩ := Ow.addr hown8 (fun e => by have := congrArg List.length e; rw [List.length_append, List.length_nil] at this; omega)
  have HKt := Lib.hid (Kp1.row HKs.out HOw.out hg8)
  have HRt := Lib.hid (Rd.row (w := w) HRs.out HOs.out hg8 (fun _ b o e e2 => by cases e; have := (HOs.out.lt _ e2.symm).1; omega))
  have CG3 := Lib.hid (CGA.out wt b9 c9 hx9 hc9)
  clear ho8 hg8 hown8 hx9 hc9 HRs HOs HOw HKs hi hz0 hzi1 hzi2 HB2s
  go_wp2_with fail
  with_reducible refine (CG3.out).mono ?_
  rintro e wu ⟨bu, cu, rfl, hvu, hcu, hb⟩
  simp only at hvu hcu
  have HKu := Lib.hid ((HKt.out.past hb).more (.cells #[.int .u8 ka, .int .i64 na, .string sa, .slice bu la.length cu] 25))
  have F9 := Blk.new wu #[.int .u8 ka, .int .i64 na, .string sa, .slice bu la.length cu] 25
  have hal : Below wu.heap.size wu (wu.alloc (.cells #[.int .u8 ka, .int .i64 na, .string sa, .slice bu la.length cu] 25)) := (Below.refl _ _).alloc (Nat.le_refl _) _
  have CL9 := Lib.hid (CL.out _ _ _ HKu.out.bl (hvu.past hal))
  have HRu := Lib.hid ((HRt.out.below hb).below hal)
  have e0 := HKu.out.fa.cell 0
  have e1 := HKu.out.fa.cell 1
  have e2 := HKu.out.fa.cell 2
  have e3 := HKu.out.fa.cell 3
  have elt := HKu.out.fa.lt
  have d0 := F9.cell 0
  have d1 := F9.cell 1
  have d2 := F9.cell 2
  have d3 := F9.cell 3
  have dlt := F9.lt
  clear hvu hb F9 CG3 HKt HRt hal
  go_wp2_with fail
  with_reducible refine (CL9.out).mono ?_
  rintro e wv ⟨rfl, hb⟩
  have HKv := Lib.hid (HKu.out.past hb)
  have HRv := Lib.hid (HRu.out.below hb)
  clear hb CL9 e0 e1 e2 e3 elt d0 d1 d2 d3 dlt HKu HRu
  have CS9 := Lib.hid (sameBytes_lit (some ⟨b8, 0, none⟩) ba n n c8 cap (A.take n) l wv true HTK.out HTL.out (HRv.out.take n) (fun e => by cases e) HN.out (HR.out.below HKv.out.bl) HNIL.out)
  have hnc8 : n ≤ c8 := Nat.le_trans hnA hc8
  go_wp2_with fail
  with_reducible refine (CS9.out).mono ?_
  rintro e wx ⟨rfl, rfl⟩
  go_wp2_with fail
  with_reducible refine (CW.out _ HKv.out.bl).mono ?_
  rintro e wy ⟨rfl, hb⟩
  have HBy := Lib.hid (bto HKv.out.bl hb)
  clear hb
  go_wp2
  go_ret
  exact ⟨rfl, HBy.out⟩

set_option maxHeartbeats 6400000 in
set_option maxRecDepth 100000 in
theorem back_ok_no (v : V) (ok : Nat → Prop) (x : Value) (ba : Option Addr) (n cap : Nat) (l : List UInt8) (bb : Option Addr) (m cb : Nat) (l2 : List UInt8) (w : World) (hv : RV ok w v x) (ht : Tab w) (hn : l.length = n) (hr : Rd w ba l) (hnil : ba = none → n = 0) (hnc : n ≤ cap) (hm : l2.length = m) (hr2 : Rd w bb l2) (hnil2 : bb = none → m = 0)
    (h1 : Va.smallV v 20 60 = true) (h2 : n ≤ 1000) (h3 : m ≤ 100) (hR : Va.right v = false) (x1 : V) (at2 lf : Nat) (hg : Va.get l 0 = .ok (x1, at2, lf)) :
    Calls Tryd.prog 3 #[x, .slice ba n cap, .slice bb m cb] w (BB true w) := by
  have CA := Lib.hid (fun W (hbl : Below w.heap.size w W) => small_lit v ok x W (hv.past hbl) _ h1)
  have CW := Lib.hid (fun W (hbl : Below w.heap.size w W) => awake_any W (ht.past hbl))
  have CCB := Lib.hid (fun W (hbl : Below w.heap.size w W) => copyBytes_any ba n cap l W hn (hr.below hbl) hnil (by omega))
  have CL := Lib.hid (fun W y okk (hbl : Below w.heap.size w W) (hy : RV okk W v y) => alike_lit v v okk ok y x W true (Va.alk_refl v) hy (hv.past hbl))
  have HR := Lib.hid hr
  have HN := Lib.hid hn
  have HNIL := Lib.hid hnil
  have HR2 := Lib.hid hr2
  have HM := Lib.hid hm
  have HNIL2 := Lib.hid hnil2
  have CRV := Lib.hid (fun W (hbl : Below w.heap.size w W) => right_lit v ok x W (hv.past hbl) false hR)
  have CPN := Lib.hid (fun W (hbl : Below w.heap.size w W) u (ho : Ow W w.heap.size u l) => put_own_no v ok x w W hv hbl u l ho (by omega) hR)
  have hgr := Va.get_right l 0 x1 at2 lf (Nat.zero_le _) hg
  obtain ⟨q1, q2, q3, q4⟩ := hgr
  rw [List.drop_zero, Nat.sub_zero] at q4
  have hq5 : (Va.enc x1 == l.take at2) = true := by rw [beq_iff_eq]; exact q4
  have hq6 : (l.take at2).length = at2 := by rw [List.length_take]; omega
  have hat : at2 ≤ n := by omega
  have hnil3 : ba = none → at2 = 0 := fun e => by have := hnil e; omega
  have CG := Lib.hid (fun W (hbl : Below w.heap.size w W) => show Calls Tryd.prog 11 #[.slice ba n cap, .int .i64 0] W (GyPost x1 at2 W) from get_gen ba n cap l 0 at2 lf x1 W hn (hr.below hbl) (by omega) hnil hnc (by omega) hg)
  have CPX := Lib.hid (fun W y okk (hy : RV okk W x1 y) => put_yes x1 okk y W hy q1)
  have CRX := Lib.hid (fun W y okk (hy : RV okk W x1 y) => right_lit x1 okk y W hy true q1)
  have CSX := Lib.hid (fun W b c (hrx : Rd W (some ⟨b, 0, none⟩) (Va.enc x1)) (hbl : Below w.heap.size w W) => sameBytes_lit (some ⟨b, 0, none⟩) ba (Va.enc x1).length at2 c cap (Va.enc x1) (l.take at2) W true hq5 rfl hrx (fun e => by cases e) hq6 ((hr.below hbl).take at2) hnil3)
  have HNIL3 := Lib.hid hnil3
  generalize Va.enc x1 = EX at CPX CSX
  obtain ⟨kx, nx, sx, lx⟩ := x1
  clear q1 q4 hq5 hq6 hnil3
  clear hR
  obtain ⟨ka, na, sa, la⟩ := v
  obtain ⟨aa, ca, rfl, -, -, -, hLa⟩ := hv.inv
  have hla := hLa.le
  have HK0 := Lib.hid (⟨(Below.refl _ _).alloc (Nat.le_refl _) _, Blk.new w _ _⟩ : Kp1 w w.heap.size #[.int .u8 ka, .int .i64 na, .string sa, .slice aa la.length ca] (w.alloc (.cells #[.int .u8 ka, .int .i64 na, .string sa, .slice aa la.length ca] 25)))
  clear hLa
  have e0 := HK0.out.fa.cell 0
  have e1 := HK0.out.fa.cell 1
  have e2 := HK0.out.fa.cell 2
  have e3 := HK0.out.fa.cell 3
  have elt := HK0.out.fa.lt
  clear hv ht hr hn hnil hr2 hm hnil2 hg h1
  go_enter Tryd.func3, Tryd.ntmps3
  go_wp2_with fail
  with_reducible refine (CA.out _ HK0.out.bl).mono ?_
  rintro e w1 ⟨rfl, hb⟩
  have HKw1 := Lib.hid ((HK0.out).past hb)
  clear e0 e1 e2 e3 elt
  have e0 := HKw1.out.fa.cell 0
  have e1 := HKw1.out.fa.cell 1
  have e2 := HKw1.out.fa.cell 2
  have e3 := HKw1.out.fa.cell 3
  have elt := HKw1.out.fa.lt
  clear hb
  go_wp2_with fail
  with_reducible refine (CG.out _ HKw1.out.bl).mono ?_
  rintro e w2 ⟨bx, cx, rfl, hvx, hcx, hb⟩
  simp only at hvx hcx
  have hal : Below w2.heap.size w2 (w2.alloc (.cells #[.int .u8 kx, .int .i64 nx, .string sx, .slice bx lx.length cx] 25)) := (Below.refl _ _).alloc (Nat.le_refl _) _
  have HKw2 := Lib.hid ((HKw1.out.past hb).more (.cells #[.int .u8 kx, .int .i64 nx, .string sx, .slice bx lx.length cx] 25))
  have HF2 := Lib.hid (Blk.new w2 #[.int .u8 kx, .int .i64 nx, .string sx, .slice bx lx.length cx] 25)
  have HV2 := Lib.hid (hvx.past hal)
  clear e0 e1 e2 e3 elt
  have d0 := HF2.out.cell 0
  have d1 := HF2.out.cell 1
  have d2 := HF2.out.cell 2
  have d3 := HF2.out.cell 3
  have dlt := HF2.out.lt
  clear hb HKw1 CA CG HK0 hvx hal
  go_wp2_with fail
  with_reducible refine (CPX.out _ _ _ HV2.out).mono ?_
  rintro e w3 ⟨by3, cy3, rfl, hx3, hc3, hb, _⟩
  have HKw3 := Lib.hid (HKw2.out.past hb)
  have HX3 := Lib.hid hx3
  have HV3 := Lib.hid (HV2.out.past hb)
  have F3 := HF2.out.below hb
  clear d0 d1 d2 d3 dlt
  have d0 := F3.cell 0
  have d1 := F3.cell 1
  have d2 := F3.cell 2
  have d3 := F3.cell 3
  have dlt := F3.lt
  clear hb hx3 hc3 HKw2 HV2 HF2 CPX F3
  go_wp2_with fail
  with_reducible refine (CRX.out _ _ _ HV3.out).mono ?_
  rintro e w4 ⟨rfl, hb⟩
  have HKw4 := Lib.hid (HKw3.out.past hb)
  have HX4 := Lib.hid (HX3.out.below hb)
  clear hb HKw3 HX3 HV3 CRX d0 d1 d2 d3 dlt
  have CS4 := Lib.hid (CSX.out w4 by3 cy3 HX4.out HKw4.out.bl)
  have hac : at2 ≤ cap := by omega
  go_wp2_with fail
  with_reducible refine (CS4.out).mono ?_
  rintro e w5 ⟨rfl, rfl⟩
  have e0 := HKw4.out.fa.cell 0
  have e1 := HKw4.out.fa.cell 1
  have e2 := HKw4.out.fa.cell 2
  have e3 := HKw4.out.fa.cell 3
  have elt := HKw4.out.fa.lt
  clear CS4 CSX HX4
  go_wp2_with fail
  refine wp_region_T_drew (fun w' => w'.cell? ⟨w.heap.size, 0, none⟩ = some (.int .u8 ka) ∧ w'.cell? ⟨w.heap.size, 1, none⟩ = some (.int .i64 na) ∧ w'.cell? ⟨w.heap.size, 2, none⟩ = some (.string sa) ∧ w'.cell? ⟨w.heap.size, 3, none⟩ = some (.slice aa la.length ca)) 9 (by kernel_rfl) ⟨e0, e1, e2, e3⟩ (fun hS => ?_)
  have HKd := Lib.hid (HKw4.out.past (Below.refl _ _).drew)
  refine wpAnyT_take 0 rfl (by kernel_rfl) (by kernel_rfl) (by decide) (by kernel_rfl) (by kernel_rfl) (fun _ _ _ h => h) hS (by kernel_rfl) (v := ?_) ?_ ?_
  rotate_left
  · intro w' hSw; (try dsimp only at hSw); go_simp; (try with_reducible rfl)
  simp only [Act.put, List.setIfInBounds_toArray, List.set_cons_zero, List.set_cons_succ]
  refine wpAnyT_take 2 rfl (by kernel_rfl) (by kernel_rfl) (by decide) (by kernel_rfl) (by kernel_rfl) (fun _ _ _ h => h) hS (by kernel_rfl) (v := ?_) ?_ ?_
  rotate_left
  · intro w' hSw; (try dsimp only at hSw); go_simp; (try with_reducible rfl)
  simp only [Act.put, List.setIfInBounds_toArray, List.set_cons_zero, List.set_cons_succ]
  refine wpAnyT_one 1 (by kernel_rfl) rfl (by kernel_rfl) (fun K hK => ?_)
  go_simp
  with_reducible refine (CCB.out _ HKd.out.bl).mono ?_
  rintro e wp ⟨gp, cp, rfl, hop, hb⟩
  have HKp := Lib.hid (HKd.out.past hb)
  have HOp := Lib.hid (show Ow wp w.heap.size _ l from hop.mono HKd.out.bl.size)
  clear e0 e1 e2 e3 elt
  have e0 := HKp.out.fa.cell 0
  have e1 := HKp.out.fa.cell 1
  have e2 := HKp.out.fa.cell 2
  have e3 := HKp.out.fa.cell 3
  have elt := HKp.out.fa.lt
  have hS : _ ∧ _ ∧ _ ∧ _ := ⟨e0, e1, e2, e3⟩
  refine hK _ _ (fun _ => hS) ?_
  clear hK K hb hop HKd
  refine wpAnyT_one 3 (by kernel_rfl) rfl (by kernel_rfl) (fun K hK => ?_)
  go_simp
  with_reducible refine (CPN.out wp HKp.out.bl _ HOp.out).mono ?_
  rintro e wq ⟨rfl, hb⟩
  have HKq := Lib.hid (HKp.out.past hb)
  clear e0 e1 e2 e3 elt
  have e0 := HKq.out.fa.cell 0
  have e1 := HKq.out.fa.cell 1
  have e2 := HKq.out.fa.cell 2
  have e3 := HKq.out.fa.cell 3
  have elt := HKq.out.fa.lt
  have hS : _ ∧ _ ∧ _ ∧ _ := ⟨e0, e1, e2, e3⟩
  refine hK _ _ (fun _ => hS) ?_
  clear hK K hb HKp HOp
  refine wpAnyT_take 4 rfl (by kernel_rfl) (by kernel_rfl) (by decide) (by kernel_rfl) (by kernel_rfl) (fun _ _ _ h => h) hS (by kernel_rfl) (v := ?_) ?_ ?_
  rotate_left
  · intro w' hSw; (try dsimp only at hSw); go_simp; (try with_reducible rfl)
  simp only [Act.put, List.setIfInBounds_toArray, List.set_cons_zero, List.set_cons_succ]
  refine wpAnyT_take 5 rfl (by kernel_rfl) (by kernel_rfl) (by decide) (by kernel_rfl) (by kernel_rfl) (fun _ _ _ h => h) hS (by kernel_rfl) (v := ?_) ?_ ?_
  rotate_left
  · intro w' hSw; (try dsimp only at hSw); go_simp; (try with_reducible rfl)
  simp only [Act.put, List.setIfInBounds_toArray, List.set_cons_zero, List.set_cons_succ]
  refine wpAnyT_take 6 rfl (by kernel_rfl) (by kernel_rfl) (by decide) (by kernel_rfl) (by kernel_rfl) (fun _ _ _ h => h) hS (by kernel_rfl) (v := ?_) ?_ ?_
  rotate_left
  · intro w' hSw; (try dsimp only at hSw); go_simp; (try with_reducible rfl)
  simp only [Act.put, List.setIfInBounds_toArray, List.set_cons_zero, List.set_cons_succ]
  refine wpAnyT_one 7 (by kernel_rfl) rfl (by kernel_rfl) (fun K hK => ?_)
  go_simp
  refine hK _ _ (fun _ => hS) ?_
  clear hK K
  refine wpAnyT_one 8 (by kernel_rfl) rfl (by kernel_rfl) (fun K hK => ?_)
  go_simp
  refine hK _ _ (fun _ => hS) ?_
  clear hK K
  refine wpAnyT_done (by kernel_rfl) ?_
  clear hS
  go_wp2_with fail
  with_reducible refine (CRV.out _ HKq.out.bl).mono ?_
  rintro e wr ⟨rfl, hb⟩
  have HKwr := Lib.hid ((HKq.out).past hb)
  clear e0 e1 e2 e3 elt
  have e0 := HKwr.out.fa.cell 0
  have e1 := HKwr.out.fa.cell 1
  have e2 := HKwr.out.fa.cell 2
  have e3 := HKwr.out.fa.cell 3
  have elt := HKwr.out.fa.lt
  clear hb
  go_wp2_with fail
  with_reducible refine (CW.out _ HKwr.out.bl).mono ?_
  rintro e wz ⟨rfl, hb⟩
  have HKwz := Lib.hid ((HKwr.out).past hb)
  clear e0 e1 e2 e3 elt
  have e0 := HKwz.out.fa.cell 0
  have e1 := HKwz.out.fa.cell 1
  have e2 := HKwz.out.fa.cell 2
  have e3 := HKwz.out.fa.cell 3
  have elt := HKwz.out.fa.lt
  clear hb
  go_wp2
  go_ret
  exact ⟨rfl, HKwz.out.bl⟩
set_option maxHeartbeats 6400000 in
set_option maxRecDepth 100000 in
theorem back_ok_yes (v : V) (ok : Nat → Prop) (x : Value) (ba : Option Addr) (n cap : Nat) (l : List UInt8) (bb : Option Addr) (m cb : Nat) (l2 : List UInt8) (w : World) (hv : RV ok w v x) (ht : Tab w) (hn : l.length = n) (hr : Rd w ba l) (hnil : ba = none → n = 0) (hnc : n ≤ cap) (hm : l2.length = m) (hr2 : Rd w bb l2) (hnil2 : bb = none → m = 0)
    (h1 : Va.smallV v 20 60 = true) (h2 : n ≤ 1000) (h3 : m ≤ 100) (hR : Va.right v = true) (x1 : V) (at2 lf : Nat) (hg : Va.get l 0 = .ok (x1, at2, lf)) :
    Calls Tryd.prog 3 #[x, .slice ba n cap, .slice bb m cb] w (BB true w) := by
  have CA := Lib.hid (fun W (hbl : Below w.heap.size w W) => small_lit v ok x W (hv.past hbl) _ h1)
  have CW := Lib.hid (fun W (hbl : Below w.heap.size w W) => awake_any W (ht.past hbl))
  have CCB := Lib.hid (fun W (hbl : Below w.heap.size w W) => copyBytes_any ba n cap l W hn (hr.below hbl) hnil (by omega))
  have CL := Lib.hid (fun W y okk (hbl : Below w.heap.size w W) (hy : RV okk W v y) => alike_lit v v okk ok y x W true (Va.alk_refl v) hy (hv.past hbl))
  have HR := Lib.hid hr
  have HN := Lib.hid hn
  have HNIL := Lib.hid hnil
  have HR2 := Lib.hid hr2
  have HM := Lib.hid hm
  have HNIL2 := Lib.hid hnil2
  have hwf := rv_wf hv
  have CRV := Lib.hid (fun W (hbl : Below w.heap.size w W) => right_lit v ok x W (hv.past hbl) true hR)
  have CPY := Lib.hid (fun W (hbl : Below w.heap.size w W) u (ho : Ow W w.heap.size u l) => put_own_yes v ok x w W hv hbl u l ho (by omega) hR (l ++ Va.enc v) rfl)
  have hla1 : (Va.enc v).length ≤ 2097152 := by
    have hra := hR
    unfold Va.right at hra; rw [Bool.and_eq_true, decide_eq_true_eq] at hra
    have := enc_len v 16 hra.1; omega
  have hpos := List.length_pos_iff.2 (enc_ne v)
  have hgA : Va.get ((l ++ Va.enc v) ++ l2) n = .ok (v, (l ++ Va.enc v).length, 256 - Va.cnt v) := by
    have := Va.get_enc v ((l ++ Va.enc v) ++ l2) n l2 hR hwf (by rw [List.append_assoc, ← hn, List.drop_left])
    rw [this, List.length_append, hn]
  have hAl : (l ++ Va.enc v).length ≤ 2098152 := by rw [List.length_append]; omega
  have hA0 : 0 < (l ++ Va.enc v).length := by rw [List.length_append]; omega
  have hnA : n ≤ (l ++ Va.enc v).length := by rw [List.length_append]; omega
  have htk : ((l ++ Va.enc v).take n == l) = true := by rw [beq_iff_eq, ← hn, List.take_left]
  have htl : ((l ++ Va.enc v).take n).length = n := by rw [List.length_take]; omega
  generalize l ++ Va.enc v = A at CPY hgA hAl hA0 hnA htk htl
  have HTK := Lib.hid htk
  have HTL := Lib.hid htl
  have CGA := Lib.hid (fun W b c (hrx : Rd W (some ⟨b, 0, none⟩) (A ++ l2)) (hc : (A ++ l2).length ≤ c) => show Calls Tryd.prog 11 #[.slice (some ⟨b, 0, none⟩) (A.length + l2.length) c, .int .i64 n] W (GyPost v A.length W) from by rw [← List.length_append]; exact get_gen (some ⟨b, 0, none⟩) (A ++ l2).length c (A ++ l2) n A.length _ v W rfl hrx (by rw [List.length_append]; omega) (fun e => by cases e) hc (by rw [List.length_append]; omega) hgA)
  clear htk htl hgA hwf hpos hla1
  have hgr := Va.get_right l 0 x1 at2 lf (Nat.zero_le _) hg
  obtain ⟨q1, q2, q3, q4⟩ := hgr
  rw [List.drop_zero, Nat.sub_zero] at q4
  have hq5 : (Va.enc x1 == l.take at2) = true := by rw [beq_iff_eq]; exact q4
  have hq6 : (l.take at2).length = at2 := by rw [List.length_take]; omega
  have hat : at2 ≤ n := by omega
  have hnil3 : ba = none → at2 = 0 := fun e => by have := hnil e; omega
  have CG := Lib.hid (fun W (hbl : Below w.heap.size w W) => show Calls Tryd.prog 11 #[.slice ba n cap, .int .i64 0] W (GyPost x1 at2 W) from get_gen ba n cap l 0 at2 lf x1 W hn (hr.below hbl) (by omega) hnil hnc (by omega) hg)
  have CPX := Lib.hid (fun W y okk (hy : RV okk W x1 y) => put_yes x1 okk y W hy q1)
  have CRX := Lib.hid (fun W y okk (hy : RV okk W x1 y) => right_lit x1 okk y W hy true q1)
  have CSX := Lib.hid (fun W b c (hrx : Rd W (some ⟨b, 0, none⟩) (Va.enc x1)) (hbl : Below w.heap.size w W) => sameBytes_lit (some ⟨b, 0, none⟩) ba (Va.enc x1).length at2 c cap (Va.enc x1) (l.take at2) W true hq5 rfl hrx (fun e => by cases e) hq6 ((hr.below hbl).take at2) hnil3)
  have HNIL3 := Lib.hid hnil3
  generalize Va.enc x1 = EX at CPX CSX
  obtain ⟨kx, nx, sx, lx⟩ := x1
  clear q1 q4 hq5 hq6 hnil3
  clear hR
  obtain ⟨ka, na, sa, la⟩ := v
  obtain ⟨aa, ca, rfl, -, -, -, hLa⟩ := hv.inv
  have hla := hLa.le
  have HK0 := Lib.hid (⟨(Below.refl _ _).alloc (Nat.le_refl _) _, Blk.new w _ _⟩ : Kp1 w w.heap.size #[.int .u8 ka, .int .i64 na, .string sa, .slice aa la.length ca] (w.alloc (.cells #[.int .u8 ka, .int .i64 na, .string sa, .slice aa la.length ca] 25)))
  clear hLa
  have e0 := HK0.out.fa.cell 0
  have e1 := HK0.out.fa.cell 1
  have e2 := HK0.out.fa.cell 2
  have e3 := HK0.out.fa.cell 3
  have elt := HK0.out.fa.lt
  clear hv ht hr hn hnil hr2 hm hnil2 hg h1
  go_enter Tryd.func3, Tryd.ntmps3
  go_wp2_with fail
  with_reducible refine (CA.out _ HK0.out.bl).mono ?_
  rintro e w1 ⟨rfl, hb⟩
  have HKw1 := Lib.hid ((HK0.out).past hb)
  clear e0 e1 e2 e3 elt
  have e0 := HKw1.out.fa.cell 0
  have e1 := HKw1.out.fa.cell 1
  have e2 := HKw1.out.fa.cell 2
  have e3 := HKw1.out.fa.cell 3
  have elt := HKw1.out.fa.lt
  clear hb
  go_wp2_with fail
  with_reducible refine (CG.out _ HKw1.out.bl).mono ?_
  rintro e w2 ⟨bx, cx, rfl, hvx, hcx, hb⟩
  simp only at hvx hcx
  have hal : Below w2.heap.size w2 (w2.alloc (.cells #[.int .u8 kx, .int .i64 nx, .string sx, .slice bx lx.length cx] 25)) := (Below.refl _ _).alloc (Nat.le_refl _) _
  have HKw2 := Lib.hid ((HKw1.out.past hb).more (.cells #[.int .u8 kx, .int .i64 nx, .string sx, .slice bx lx.length cx] 25))
  have HF2 := Lib.hid (Blk.new w2 #[.int .u8 kx, .int .i64 nx, .string sx, .slice bx lx.length cx] 25)
  have HV2 := Lib.hid (hvx.past hal)
  clear e0 e1 e2 e3 elt
  have d0 := HF2.out.cell 0
  have d1 := HF2.out.cell 1
  have d2 := HF2.out.cell 2
  have d3 := HF2.out.cell 3
  have dlt := HF2.out.lt
  clear hb HKw1 CA CG HK0 hvx hal
  go_wp2_with fail
  with_reducible refine (CPX.out _ _ _ HV2.out).mono ?_
  rintro e w3 ⟨by3, cy3, rfl, hx3, hc3, hb, _⟩
  have HKw3 := Lib.hid (HKw2.out.past hb)
  have HX3 := Lib.hid hx3
  have HV3 := Lib.hid (HV2.out.past hb)
  have F3 := HF2.out.below hb
  clear d0 d1 d2 d3 dlt
  have d0 := F3.cell 0
  have d1 := F3.cell 1
  have d2 := F3.cell 2
  have d3 := F3.cell 3
  have dlt := F3.lt
  clear hb hx3 hc3 HKw2 HV2 HF2 CPX F3
  go_wp2_with fail
  with_reducible refine (CRX.out _ _ _ HV3.out).mono ?_
  rintro e w4 ⟨rfl, hb⟩
  have HKw4 := Lib.hid (HKw3.out.past hb)
  have HX4 := Lib.hid (HX3.out.below hb)
  clear hb HKw3 HX3 HV3 CRX d0 d1 d2 d3 dlt
  have CS4 := Lib.hid (CSX.out w4 by3 cy3 HX4.out HKw4.out.bl)
  have hac : at2 ≤ cap := by omega
  go_wp2_with fail
  with_reducible refine (CS4.out).mono ?_
  rintro e w5 ⟨rfl, rfl⟩
  have e0 := HKw4.out.fa.cell 0
  have e1 := HKw4.out.fa.cell 1
  have e2 := HKw4.out.fa.cell 2
  have e3 := HKw4.out.fa.cell 3
  have elt := HKw4.out.fa.lt
  clear CS4 CSX HX4
  go_wp2_with fail
  refine wp_region_T_drew (fun w' => w'.cell? ⟨w.heap.size, 0, none⟩ = some (.int .u8 ka) ∧ w'.cell? ⟨w.heap.size, 1, none⟩ = some (.int .i64 na) ∧ w'.cell? ⟨w.heap.size, 2, none⟩ = some (.string sa) ∧ w'.cell? ⟨w.heap.size, 3, none⟩ = some (.slice aa la.length ca)) 9 (by kernel_rfl) ⟨e0, e1, e2, e3⟩ (fun hS => ?_)
  have HKd := Lib.hid (HKw4.out.past (Below.refl _ _).drew)
  refine wpAnyT_take 0 rfl (by kernel_rfl) (by kernel_rfl) (by decide) (by kernel_rfl) (by kernel_rfl) (fun _ _ _ h => h) hS (by kernel_rfl) (v := ?_) ?_ ?_
  rotate_left
  · intro w' hSw; (try dsimp only at hSw); go_simp; (try with_reducible rfl)
  simp only [Act.put, List.setIfInBounds_toArray, List.set_cons_zero, List.set_cons_succ]
  refine wpAnyT_take 2 rfl (by kernel_rfl) (by kernel_rfl) (by decide) (by kernel_rfl) (by kernel_rfl) (fun _ _ _ h => h) hS (by kernel_rfl) (v := ?_) ?_ ?_
  rotate_left
  · intro w' hSw; (try dsimp only at hSw); go_simp; (try with_reducible rfl)
  simp only [Act.put, List.setIfInBounds_toArray, List.set_cons_zero, List.set_cons_succ]
  refine wpAnyT_one 1 (by kernel_rfl) rfl (by kernel_rfl) (fun K hK => ?_)
  go_simp
  with_reducible refine (CCB.out _ HKd.out.bl).mono ?_
  rintro e wp ⟨gp, cp, rfl, hop, hb⟩
  have HKp := Lib.hid (HKd.out.past hb)
  have HOp := Lib.hid (show Ow wp w.heap.size _ l from hop.mono HKd.out.bl.size)
  clear e0 e1 e2 e3 elt
  have e0 := HKp.out.fa.cell 0
  have e1 := HKp.out.fa.cell 1
  have e2 := HKp.out.fa.cell 2
  have e3 := HKp.out.fa.cell 3
  have elt := HKp.out.fa.lt
  have hS : _ ∧ _ ∧ _ ∧ _ := ⟨e0, e1, e2, e3⟩
  refine hK _ _ (fun _ => hS) ?_
  clear hK K hb hop HKd
  refine wpAnyT_one 3 (by kernel_rfl) rfl (by kernel_rfl) (fun K hK => ?_)
  go_simp
  with_reducible refine (CPY.out wp HKp.out.bl _ HOp.out).mono ?_
  rintro e wq ⟨b8, c8, rfl, ho8, hg8, hc8⟩
  have HKq := Lib.hid (HKp.out.row HOp.out hg8)
  have HOq := Lib.hid ho8
  clear e0 e1 e2 e3 elt
  have e0 := HKq.out.fa.cell 0
  have e1 := HKq.out.fa.cell 1
  have e2 := HKq.out.fa.cell 2
  have e3 := HKq.out.fa.cell 3
  have elt := HKq.out.fa.lt
  have hS : _ ∧ _ ∧ _ ∧ _ := ⟨e0, e1, e2, e3⟩
  refine hK _ _ (fun _ => hS) ?_
  clear hK K ho8 hg8 HKp HOp
  refine wpAnyT_take 4 rfl (by kernel_rfl) (by kernel_rfl) (by decide) (by kernel_rfl) (by kernel_rfl) (fun _ _ _ h => h) hS (by kernel_rfl) (v := ?_) ?_ ?_
  rotate_left
  · intro w' hSw; (try dsimp only at hSw); go_simp; (try with_reducible rfl)
  simp only [Act.put, List.setIfInBounds_toArray, List.set_cons_zero, List.set_cons_succ]
  refine wpAnyT_take 5 rfl (by kernel_rfl) (by kernel_rfl) (by decide) (by kernel_rfl) (by kernel_rfl) (fun _ _ _ h => h) hS (by kernel_rfl) (v := ?_) ?_ ?_
  rotate_left
  · intro w' hSw; (try dsimp only at hSw); go_simp; (try with_reducible rfl)
  simp only [Act.put, List.setIfInBounds_toArray, List.set_cons_zero, List.set_cons_succ]
  refine wpAnyT_take 6 rfl (by kernel_rfl) (by kernel_rfl) (by decide) (by kernel_rfl) (by kernel_rfl) (fun _ _ _ h => h) hS (by kernel_rfl) (v := ?_) ?_ ?_
  rotate_left
  · intro w' hSw; (try dsimp only at hSw); go_simp; (try with_reducible rfl)
  simp only [Act.put, List.setIfInBounds_toArray, List.set_cons_zero, List.set_cons_succ]
  refine wpAnyT_one 7 (by kernel_rfl) rfl (by kernel_rfl) (fun K hK => ?_)
  go_simp
  refine hK _ _ (fun _ => hS) ?_
  clear hK K
  refine wpAnyT_one 8 (by kernel_rfl) rfl (by kernel_rfl) (fun K hK => ?_)
  go_simp
  refine hK _ _ (fun _ => hS) ?_
  clear hK K
  refine wpAnyT_done (by kernel_rfl) ?_
  clear hS
  go_wp2_with fail
  with_reducible refine (CRV.out _ HKq.out.bl).mono ?_
  rintro e wr ⟨rfl, hb⟩
  have HKr := Lib.hid (HKq.out.past hb)
  have HOr := Lib.hid (HOq.out.past hb)
  clear e0 e1 e2 e3 elt
  have e0 := HKr.out.fa.cell 0
  have e1 := HKr.out.fa.cell 1
  have e2 := HKr.out.fa.cell 2
  have e3 := HKr.out.fa.cell 3
  have elt := HKr.out.fa.lt
  clear hb HKq HOq
  have HRr := Lib.hid (HOr.out.addrd)
  have CC2 := Lib.hid (copyBytes_any (some ⟨b8, 0, none⟩) A.length c8 A wr rfl HRr.out (fun e => by cases e) (by omega))
  have hb8 : b8 < wr.heap.size := (HOr.out.lt b8 rfl).2
  clear e0 e1 e2 e3 elt
  go_wp2_with fail
  with_reducible refine (CC2.out).mono ?_
  rintro e ws ⟨gs, cs, rfl, hos, hb⟩
  have HKs := Lib.hid (HKr.out.past hb)
  have HRs := Lib.hid (HRr.out.below hb)
  have HOs := Lib.hid hos
  have HB2s := Lib.hid (HR2.out.below HKs.out.bl)
  have hszs : wr.heap.size ≤ ws.heap.size := hb.size
  have HOw := Lib.hid (show Ow ws w.heap.size _ A from hos.mono HKr.out.bl.size)
  clear hb hos CC2 HRr HOr HKr
  obtain ⟨i0, hi, hz0, hzi1, hzi2⟩ := info_parts Tryd.info_u8
  go_wp2_with (at_builtin; refine wpList_append_rd _ rfl _ _ 26 rfl wr.heap.size 5 i0 (.int .u8 0) 1 1 Tryd.underlying26 hi hz0 hzi1 hzi2 rfl (by decide) (.slice gs A.length cs) A.length (u8s A) rfl HOs.out bb m cb (u8s l2) rfl ?_ HNIL2.out ?_ (u8s_one l2) ?_ ?_ hszs ?_)
  · rw [u8s_len]; have := HM.out; omega
  · intro ad he j u hj
    have hjl : j < l2.length := by have := (List.getElem?_eq_some_iff.1 hj).1; rw [u8s_len] at this; exact this
    rcases HB2s.out with h | ⟨b, o, e, hlt, hc⟩
    · rw [h] at hjl; simp at hjl
    · rw [he] at e; cases e
      rw [addPl, hc j hjl, ← hj]
      unfold u8s; simp [hjl]
  · unfold maxLen; omega
  · omega
  intro v8 wt ho8 hg8 _
  have hown8 : Ow wt wr.heap.size v8 (A ++ l2) := by
    unfold Ow; rw [u8s_app, List.length_append, HM.out]; exact ho8
  obtain ⟨b9, c9, rfl, hx9, hc9, _⟩ := Ow.addr hown8 (fun e => by have := congrArg List.length e; rw [List.length_append, List.length_nil] at this; omega)
  have HKt := Lib.hid (Kp1.row HKs.out HOw.out hg8)
  have HRt := Lib.hid (Rd.row (w := w) HRs.out HOs.out hg8 (fun _ b o e e2 => by cases e; have := (HOs.out.lt _ e2.symm).1; omega))
  have CG3 := Lib.hid (CGA.out wt b9 c9 hx9 hc9)
  clear ho8 hg8 hown8 hx9 hc9 HRs HOs HOw HKs hi hz0 hzi1 hzi2 HB2s
  go_wp2_with fail
  with_reducible refine (CG3.out).mono ?_
  rintro e wu ⟨bu, cu, rfl, hvu, hcu, hb⟩
  simp only at hvu hcu
  have HKu := Lib.hid ((HKt.out.past hb).more (.cells #[.int .u8 ka, .int .i64 na, .string sa, .slice bu la.length cu] 25))
  have F9 := Blk.new wu #[.int .u8 ka, .int .i64 na, .string sa, .slice bu la.length cu] 25
  have hal : Below wu.heap.size wu (wu.alloc (.cells #[.int .u8 ka, .int .i64 na, .string sa, .slice bu la.length cu] 25)) := (Below.refl _ _).alloc (Nat.le_refl _) _
  have CL9 := Lib.hid (CL.out _ _ _ HKu.out.bl (hvu.past hal))
  have HRu := Lib.hid ((HRt.out.below hb).below hal)
  have e0 := HKu.out.fa.cell 0
  have e1 := HKu.out.fa.cell 1
  have e2 := HKu.out.fa.cell 2
  have e3 := HKu.out.fa.cell 3
  have elt := HKu.out.fa.lt
  have d0 := F9.cell 0
  have d1 := F9.cell 1
  have d2 := F9.cell 2
  have d3 := F9.cell 3
  have dlt := F9.lt
  clear hvu hb F9 CG3 HKt HRt hal
  go_wp2_with fail
  with_reducible refine (CL9.out).mono ?_
  rintro e wv ⟨rfl, hb⟩
  have HKv := Lib.hid (HKu.out.past hb)
  have HRv := Lib.hid (HRu.out.below hb)
  clear hb CL9 e0 e1 e2 e3 elt d0 d1 d2 d3 dlt HKu HRu
  have CS9 := Lib.hid (sameBytes_lit (some ⟨b8, 0, none⟩) ba n n c8 cap (A.take n) l wv true HTK.out HTL.out (HRv.out.take n) (fun e => by cases e) HN.out (HR.out.below HKv.out.bl) HNIL.out)
  have hnc8 : n ≤ c8 := Nat.le_trans hnA hc8
  go_wp2_with fail
  with_reducible refine (CS9.out).mono ?_
  rintro e wx ⟨rfl, rfl⟩
  go_wp2_with fail
  with_reducible refine (CW.out _ HKv.out.bl).mono ?_
  rintro e wy ⟨rfl, hb⟩
  have HBy := Lib.hid (bto HKv.out.bl hb)
  clear hb
  go_wp2
  go_ret
  exact ⟨rfl, HBy.out⟩
theorem back_row (v : V) (ok : Nat → Prop) (x : Value) (ba : Option Addr) (n cap : Nat) (l : List UInt8) (bb : Option Addr) (m cb : Nat) (l2 : List UInt8) (w : World) (hv : RV ok w v x) (hn : l.length = n) (hr : Rd w ba l) (hnil : ba = none → n = 0) (hnm : n ≤ maxLen) (hnc : n ≤ cap) (hm : l2.length = m) (hr2 : Rd w bb l2) (hnil2 : bb = none → m = 0) (hmm : m ≤ maxLen) (hmc : m ≤ cb) (ht : Tab w) :
    Calls Tryd.prog 3 #[x, .slice ba n cap, .slice bb m cb] w (BB true w) := by
  by_cases h : Va.smallV v 20 60 = true ∧ n ≤ 1000 ∧ m ≤ 100
  · obtain ⟨h1, h2, h3⟩ := h
    cases hg : Va.get l 0 with
    | error er =>
      cases hR : Va.right v with
      | false => exact back_bad_no v ok x ba n cap l bb m cb l2 w hv ht hn hr hnil hnc hm hr2 hnil2 h1 h2 h3 hR er hg
      | true => exact back_bad_yes v ok x ba n cap l bb m cb l2 w hv ht hn hr hnil hnc hm hr2 hnil2 h1 h2 h3 hR er hg
    | ok r =>
      obtain ⟨x1, at2, lf⟩ := r
      cases hR : Va.right v with
      | false => exact back_ok_no v ok x ba n cap l bb m cb l2 w hv ht hn hr hnil hnc hm hr2 hnil2 h1 h2 h3 hR x1 at2 lf hg
      | true => exact back_ok_yes v ok x ba n cap l bb m cb l2 w hv ht hn hr hnil hnc hm hr2 hnil2 h1 h2 h3 hR x1 at2 lf hg
  · exact back_no v ok x ba bb n cap m cb w hv ht hnm hmm h
end Go.Proofs.YtgamhgeiceakeaaDoor
