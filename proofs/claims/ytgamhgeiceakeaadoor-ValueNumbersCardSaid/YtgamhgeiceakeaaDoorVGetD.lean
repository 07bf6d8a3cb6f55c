/- package value: the getter's value, by contract: ints and actors. -/
import Derived.Test.YtgamhgeiceakeaaDoorVGetC
set_option linter.unusedVariables false
set_option linter.unusedSimpArgs false
namespace Go.Proofs.YtgamhgeiceakeaaDoor
open Go.RowKit
open Va (V)
theorem grown_fresh {w W : World} {p r0 : Nat} (h : w.grownBy W (some p)) (hr : w.heap.size < r0) (i : Nat) (u : Value) : w.grownBy (W.setCell ⟨r0, i, none⟩ u) (some p) :=
  ⟨h.os, h.tape, h.output, by simp; exact h.size, fun k hk hne => (Below.heap_setCell _ _ _ _ (fun e => by
    have e' : r0 = k ∨ k = r0 := by first | exact Or.inl (by simpa using e) | exact Or.inr (by simpa using e)
    omega)).trans (h.block k hk hne)⟩
set_option maxHeartbeats 3200000 in
set_option maxRecDepth 100000 in
theorem value_int (p : Nat) (ba : Option Addr) (n cap : Nat) (l : List UInt8) (at' left lv : Nat) (w : World) (hg : Gv w p (.slice ba n cap) at' left 0) (hn : l.length = n) (hr : Rd w ba l) (hp : l ≠ [] → ∀ b o, ba = some (⟨b, o, none⟩ : Addr) → b ≠ p) (ha : at' < n) (hmx : n ≤ 1099511627776) (hl0 : 1 ≤ left) (hlv0 : 1 ≤ lv) (hl : left ≤ 256) (hlv : lv ≤ 16)
    (m c er : Nat) (hgu : By.gu (l.drop (at' + 1)) = (m, c, er)) (R : Va.Rs)
    (hx : ((l[at']'(hn ▸ ha)).toNat = 1 ∨ (l[at']'(hn ▸ ha)).toNat = 5) ∧ R = if er ≠ 0 then .error er else if (l[at']'(hn ▸ ha)).toNat = 5 ∧ Va.ung m < 0 then .error 13 else .ok (.mk (l[at']'(hn ▸ ha)).toNat (Va.ung m) Va.em [], at' + 1 + c, left - 1)) :
    Calls Tryd.prog 32 #[.pointer (some ⟨p, 0, none⟩), .int .i64 lv] w (VaPost p (.slice ba n cap) R w) := by
  obtain ⟨z, hz⟩ : ∃ z : Int, z = Va.ung (if er = 0 then m else 0) := ⟨_, rfl⟩
  obtain ⟨nx, hnx⟩ : ∃ nx : Nat, nx = if er = 0 then at' + 1 + c else 0 := ⟨_, rfl⟩
  have CI : Hid (∀ W, Rd W ba l → Calls Tryd.prog 45 #[.slice ba n cap, .int .i64 ((at' : Int) + 1)] W fun e W' => e = .returned (.tuple #[.int .i64 z, .int .i64 nx, .int .i64 er]) ∧ W = W') := Lib.hid fun W h => (getInt_any ba n cap l (at' + 1) W hn h (by omega) hmx).mono fun e W' hp => by
    unfold GiPost at hp
    rw [hgu] at hp
    obtain ⟨he, hw⟩ := hp
    exact ⟨by rw [he, hz, hnx], hw⟩
  have HZI : Hid (Va.I64 z) := Lib.hid (by
    rw [hz]
    refine Va.ung_64 ?_
    by_cases h : er = 0
    · subst h; rw [if_pos rfl]; exact (Va.gu_inv _ _ _ hgu).2.2.2
    · rw [if_neg h]; omega)
  have HZ := Lib.hid hz
  have HNX := Lib.hid hnx
  clear hgu hz hnx
  replace hx := Lib.hid hx
  have hsz : (w.setCell ⟨p, 2, none⟩ (.int .i64 ((left : Int) - 1))).heap.size = w.heap.size := by simp
  have B1 : Gv ((w.setCell ⟨p, 2, none⟩ (.int .i64 ((left : Int) - 1))).alloc (.cells #[.int .u8 0, .int .i64 0, .string ⟨#[]⟩, .slice none 0 0] 25)) p (.slice ba n cap) at' ((left : Int) - 1) 0 := (hg.set 2 _).below ((Below.refl _ _).alloc (Nat.le_refl _) _)
  have Q1 := Blk.new (w.setCell ⟨p, 2, none⟩ (.int .i64 ((left : Int) - 1))) #[.int .u8 0, .int .i64 0, .string ⟨#[]⟩, .slice none 0 0] 25
  rw [hsz] at Q1
  have G1 : w.grownBy ((w.setCell ⟨p, 2, none⟩ (.int .i64 ((left : Int) - 1))).alloc (.cells #[.int .u8 0, .int .i64 0, .string ⟨#[]⟩, .slice none 0 0] 25)) (some p) := grown_below (grown_set (grown_refl _ _) _ _) ((Below.refl _ _).alloc (Nat.le_refl _) _)
  have hpw : p < w.heap.size := hg.lt
  clear hsz
  have c2 := hg.cell 2
  have hf := fun o => hg.free o
  have hlt := hg.lt
  clear hg
  go_enter Tryd.func32, Tryd.ntmps32
  go_upto_region 2 with (fail)
  clear c2 hf hlt
  generalize (w.setCell ⟨p, 2, none⟩ (.int .i64 ((left : Int) - 1))).alloc (.cells #[.int .u8 0, .int .i64 0, .string ⟨#[]⟩, .slice none 0 0] 25) = W1 at B1 Q1 G1 ⊢
  have hne : some w.heap.size ≠ some p := fun e => by have := Option.some.inj e; omega
  have CO := Lib.hid (one_yes p ba n cap l at' ((left : Int) - 1) W1 B1 hn (rd_grown hr G1 hp) hp ha hmx)
  have b2 := B1.cell 2
  have hlt1 := B1.lt
  have HQ1 := Lib.hid Q1
  have HG1 := Lib.hid G1
  have hz : ((lv : Int) == 0) = false := bneI (by omega)
  have hpos : (1 : Int) ≤ (left : Int) := by omega
  have HR := Lib.hid (fun W (g : w.grownBy W (some p)) => rd_grown hr g hp)
  generalize l[at']'(hn ▸ ha) = x at CO hx
  have hx8 : x.toNat < 256 := x.toNat_lt
  generalize hxk : x.toNat = k at CO hx hx8
  clear B1 Q1 G1 hr
  go_wp2_with fail
  refine (CO.out).mono ?_
  rintro e w3 ⟨rfl, hg3, hr3⟩
  have HGV := Lib.hid hg3
  have Q3 := HQ1.out.kept hr3 hne
  have HG3 := Lib.hid (grown_trans HG1.out hr3)
  have hs3 : w.heap.size ≤ w3.heap.size := HG3.out.size
  have HQ3 := Lib.hid Q3
  have c3 := hg3.cell 3
  have c1 := hg3.cell 1
  have hlt3 := hg3.lt
  clear hg3 hr3 CO Q3 b2 hlt1
  go_wp2_with fail
  have T4 := Blk.new w3 #[.int .u8 k, .int .i64 0, .string ⟨#[]⟩, .slice none 0 0] 25
  have hal : Below w3.heap.size w3 (w3.alloc (.cells #[.int .u8 k, .int .i64 0, .string ⟨#[]⟩, .slice none 0 0] 25)) := (Below.refl _ _).alloc (Nat.le_refl _) _
  have GV4 : Gv _ p (.slice ba n cap) (at' + 1) ((left : Int) - 1) 0 := HGV.out.below hal
  have Q4 := HQ3.out.below hal
  have G4 := grown_below HG3.out hal
  have hr0 : w.heap.size < w3.heap.size := HQ3.out.lt
  clear HGV HQ3 HG3 c3 c1 hlt3 hal hs3
  generalize w3.alloc (.cells #[.int .u8 k, .int .i64 0, .string ⟨#[]⟩, .slice none 0 0] 25) = W4 at T4 GV4 Q4 G4 ⊢
  generalize w3.heap.size = r0 at T4 hr0 ⊢
  have d1 := GV4.cell 1
  have hlt4 := GV4.lt
  have HF := Lib.hid (fun k => (⟨T4.below (belowN (Below.refl W4.heap.size W4) k), GV4.below (belowN (Below.refl W4.heap.size W4) k), Q4.below (belowN (Below.refl W4.heap.size W4) k), grown_trans G4 (drewN_grown W4 k _)⟩ : _ ∧ _ ∧ _ ∧ _))
  clear T4 GV4 Q4 G4
  go_quiet (fail)
  obtain ⟨T5, GV5, Q5, G5⟩ := HF.out nq
  clear HF d1 hlt4
  generalize W4.drewN nq = W5 at T5 GV5 Q5 G5 ⊢
  have t0 := T5.cell 0
  have t1 := T5.cell 1
  have t2 := T5.cell 2
  have t3 := T5.cell 3
  have tlt := T5.lt
  have HT5 := Lib.hid T5
  have HV5 := Lib.hid GV5
  have HQ5 := Lib.hid Q5
  have HG5 := Lib.hid G5
  have hnr : some r0 ≠ some p := fun e => by have := Option.some.inj e; omega
  clear T5 GV5 Q5 G5
  obtain ⟨hK, hR⟩ := hx.out
  clear hx
  have HRR := Lib.hid hR
  clear hR
  have HR5 := Lib.hid (HR.out W5 HG5.out)
  have y0 := HV5.out.cell 0
  have y1 := HV5.out.cell 1
  have tf := fun o => HT5.out.free o
  have hlt5 := HV5.out.lt
  rcases hK with hK | hK
  · subst hK
    go_wp2_with fail
    refine wp_region_T_drew (fun w' => w'.cell? ⟨p, 0, none⟩ = some (.slice ba n cap) ∧ w'.cell? ⟨p, 1, none⟩ = some (.int .i64 ((at' : Int) + 1))) 17 (by kernel_rfl) ⟨y0, y1⟩ (fun hS => ?_)
    refine wpAnyT_take 0 rfl (by kernel_rfl) (by kernel_rfl) (by decide) (by kernel_rfl) (by kernel_rfl) (fun _ _ _ h => h) hS (by kernel_rfl) (v := ?_) ?_ ?_
    rotate_left
    · intro w' hSw; (try dsimp only at hSw); go_simp; (try with_reducible rfl)
    simp only [Act.put, List.setIfInBounds_toArray, List.set_cons_zero, List.set_cons_succ]
    refine wpAnyT_take 1 rfl (by kernel_rfl) (by kernel_rfl) (by decide) (by kernel_rfl) (by kernel_rfl) (fun _ _ _ h => h) hS (by kernel_rfl) (v := ?_) ?_ ?_
    rotate_left
    · intro w' hSw; (try dsimp only at hSw); go_simp; (try with_reducible rfl)
    simp only [Act.put, List.setIfInBounds_toArray, List.set_cons_zero, List.set_cons_succ]
    refine wpAnyT_take 2 rfl (by kernel_rfl) (by kernel_rfl) (by decide) (by kernel_rfl) (by kernel_rfl) (fun _ _ _ h => h) hS (by kernel_rfl) (v := ?_) ?_ ?_
    rotate_left
    · intro w' hSw; (try dsimp only at hSw); go_simp; (try with_reducible rfl)
    simp only [Act.put, List.setIfInBounds_toArray, List.set_cons_zero, List.set_cons_succ]
    refine wpAnyT_take 3 rfl (by kernel_rfl) (by kernel_rfl) (by decide) (by kernel_rfl) (by kernel_rfl) (fun _ _ _ h => h) hS (by kernel_rfl) (v := ?_) ?_ ?_
    rotate_left
    · intro w' hSw; (try dsimp only at hSw); go_simp; (try with_reducible rfl)
    simp only [Act.put, List.setIfInBounds_toArray, List.set_cons_zero, List.set_cons_succ]
    refine wpAnyT_take 4 rfl (by kernel_rfl) (by kernel_rfl) (by decide) (by kernel_rfl) (by kernel_rfl) (fun _ _ _ h => h) hS (by kernel_rfl) (v := ?_) ?_ ?_
    rotate_left
    · intro w' hSw; (try dsimp only at hSw); go_simp; (try with_reducible rfl)
    simp only [Act.put, List.setIfInBounds_toArray, List.set_cons_zero, List.set_cons_succ]
    refine wpAnyT_take 5 rfl (by kernel_rfl) (by kernel_rfl) (by decide) (by kernel_rfl) (by kernel_rfl) (fun _ _ _ h => h) hS (by kernel_rfl) (v := ?_) ?_ ?_
    rotate_left
    · intro w' hSw; (try dsimp only at hSw); go_simp; (try with_reducible rfl)
    simp only [Act.put, List.setIfInBounds_toArray, List.set_cons_zero, List.set_cons_succ]
    refine wpAnyT_take 6 rfl (by kernel_rfl) (by kernel_rfl) (by decide) (by kernel_rfl) (by kernel_rfl) (fun _ _ _ h => h) hS (by kernel_rfl) (v := ?_) ?_ ?_
    rotate_left
    · intro w' hSw; (try dsimp only at hSw); go_simp; (try with_reducible rfl)
    simp only [Act.put, List.setIfInBounds_toArray, List.set_cons_zero, List.set_cons_succ]
    refine wpAnyT_take 7 rfl (by kernel_rfl) (by kernel_rfl) (by decide) (by kernel_rfl) (by kernel_rfl) (fun _ _ _ h => h) hS (by kernel_rfl) (v := ?_) ?_ ?_
    rotate_left
    · intro w' hSw; (try dsimp only at hSw); go_simp; (try with_reducible rfl)
    simp only [Act.put, List.setIfInBounds_toArray, List.set_cons_zero, List.set_cons_succ]
    refine wpAnyT_one 8 (by kernel_rfl) rfl (by kernel_rfl) (fun K hK => ?_)
    go_simp
    refine (CI.out _ (HR5.out.below ((Below.refl _ _).drew))).mono ?_
    rintro e w6 ⟨rfl, rfl⟩
    refine hK _ _ (fun _ => hS) ?_
    clear hK K
    refine wpAnyT_take 9 rfl (by kernel_rfl) (by kernel_rfl) (by decide) (by kernel_rfl) (by kernel_rfl) (fun _ _ _ h => h) hS (by kernel_rfl) (v := ?_) ?_ ?_
    rotate_left
    · intro w' hSw; (try dsimp only at hSw); go_simp; (try with_reducible rfl)
    simp only [Act.put, List.setIfInBounds_toArray, List.set_cons_zero, List.set_cons_succ]
    refine wpAnyT_take 10 rfl (by kernel_rfl) (by kernel_rfl) (by decide) (by kernel_rfl) (by kernel_rfl) (fun _ _ _ h => h) hS (by kernel_rfl) (v := ?_) ?_ ?_
    rotate_left
    · intro w' hSw; (try dsimp only at hSw); go_simp; (try with_reducible rfl)
    simp only [Act.put, List.setIfInBounds_toArray, List.set_cons_zero, List.set_cons_succ]
    refine wpAnyT_take 11 rfl (by kernel_rfl) (by kernel_rfl) (by decide) (by kernel_rfl) (by kernel_rfl) (fun _ _ _ h => h) hS (by kernel_rfl) (v := ?_) ?_ ?_
    rotate_left
    · intro w' hSw; (try dsimp only at hSw); go_simp; (try with_reducible rfl)
    simp only [Act.put, List.setIfInBounds_toArray, List.set_cons_zero, List.set_cons_succ]
    refine wpAnyT_take 12 rfl (by kernel_rfl) (by kernel_rfl) (by decide) (by kernel_rfl) (by kernel_rfl) (fun _ _ _ h => h) hS (by kernel_rfl) (v := ?_) ?_ ?_
    rotate_left
    · intro w' hSw; (try dsimp only at hSw); go_simp; (try with_reducible rfl)
    simp only [Act.put, List.setIfInBounds_toArray, List.set_cons_zero, List.set_cons_succ]
    refine wpAnyT_take 13 rfl (by kernel_rfl) (by kernel_rfl) (by decide) (by kernel_rfl) (by kernel_rfl) (fun _ _ _ h => h) hS (by kernel_rfl) (v := ?_) ?_ ?_
    rotate_left
    · intro w' hSw; (try dsimp only at hSw); go_simp; (try with_reducible rfl)
    simp only [Act.put, List.setIfInBounds_toArray, List.set_cons_zero, List.set_cons_succ]
    refine wpAnyT_one 14 (by kernel_rfl) rfl (by kernel_rfl) (fun K hK => ?_)
    go_simp
    have hV6 := (HV5.out.below (Below.refl W5.heap.size W5).drew).kept (grown_set (grown_refl W5.drew (some r0)) 1 (.int .i64 z)) (fun e => hnr e.symm)
    have hS : _ ∧ _ := ⟨hV6.cell 0, hV6.cell 1⟩
    refine hK _ _ (fun _ => hS) ?_
    clear hK K
    refine wpAnyT_one 15 (by kernel_rfl) rfl (by kernel_rfl) (fun K hK => ?_)
    go_simp
    refine hK _ _ (fun _ => hS) ?_
    clear hK K
    refine wpAnyT_one 16 (by kernel_rfl) rfl (by kernel_rfl) (fun K hK => ?_)
    go_simp
    refine hK _ _ (fun _ => hS) ?_
    clear hK K
    refine wpAnyT_done (by kernel_rfl) ?_
    have hWW : (W5.setCell ⟨r0, 1, none⟩ (.int .i64 z)).drew = W5.drew.setCell ⟨r0, 1, none⟩ (.int .i64 z) := rfl
    have T7 := (HT5.out.below (Below.refl W5.heap.size W5).drew).set 1 (.int .i64 z)
    have V7 : Gv (W5.drew.setCell ⟨r0, 1, none⟩ (.int .i64 z)) p (.slice ba n cap) (at' + 1) ((left : Int) - 1) 0 := hV6
    have Q7 := (HQ5.out.below (Below.refl W5.heap.size W5).drew).kept (grown_set (grown_refl W5.drew (some r0)) 1 (.int .i64 z)) (fun e => by have := Option.some.inj e; omega)
    have G7 : w.grownBy (W5.drew.setCell ⟨r0, 1, none⟩ (.int .i64 z)) (some p) := grown_fresh (grown_below HG5.out (Below.refl W5.heap.size W5).drew) hr0 _ _
    rw [← hWW] at T7 V7 Q7 G7
    clear hWW
    clear hS hV6 y0 y1 tf hlt5 t0 t1 t2 t3 tlt HR5 CI
    generalize (W5.setCell ⟨r0, 1, none⟩ (.int .i64 z)).drew = W7 at T7 V7 Q7 G7 ⊢
    have HT7 := Lib.hid T7
    have HV7 := Lib.hid V7
    have HQ7 := Lib.hid Q7
    have HG7 := Lib.hid G7
    have t0 := T7.cell 0
    have t1 := T7.cell 1
    have t2 := T7.cell 2
    have t3 := T7.cell 3
    have tlt := T7.lt
    have y1 := V7.cell 1
    have yf := fun o => V7.free o
    have ylt := V7.lt
    have q0 := Q7.cell 0
    have q1 := Q7.cell 1
    have q2 := Q7.cell 2
    have q3 := Q7.cell 3
    have qf := fun o => Q7.free o
    have qlt := Q7.lt
    clear T7 V7 Q7 G7
    by_cases he : er = 0
    · subst he
      go_wp2
      have HGA := grown_set HG7.out 1 (.int .i64 (nx : Int))
      have HVA : Gv (W7.setCell ⟨p, 1, none⟩ (.int .i64 (nx : Int))) p (.slice ba n cap) nx ((left : Int) - 1) 0 := HV7.out.set 1 (.int .i64 (nx : Int))
      have HQA := HQ7.out.kept (grown_set (grown_refl W7 (some p)) 1 (.int .i64 (nx : Int))) hne
      have QF := (((HQA.set 0 (.int .u8 1)).set 1 (.int .i64 z)).set 2 (.string ⟨#[]⟩)).set 3 (.slice none 0 0)
      have GF := ret_gv0 HVA HGA hpw (Nat.le_refl w.heap.size) (.int .u8 1) (.int .i64 z) (.string ⟨#[]⟩) (.slice none 0 0)
      (try simp only [Exit.inBlock, Exit.then])
      refine bodyPost_ret (results_cell_row rfl _ _ w.heap.size 25 _ (0, 0) _ rfl QF Tryd.underlying25 rfl (by kernel_rfl)) rfl ?_
      have hRe : R = .ok (.mk 1 z Va.em [], nx, left - 1) := by rw [HRR.out, HZ.out, HNX.out]; simp 
      rw [hRe]
      have hl1 : ((left - 1 : Nat) : Int) = (left : Int) - 1 := by omega
      refine ⟨_, rfl, RV.mk' (ok := fun b => w.heap.size ≤ b) (k := 1) (l := []) (ba := none) (cap := 0) (s := Va.em) (by decide) HZI.out (by decide) ⟨by simp, by simp [maxLen], fun _ => rfl, fun i hi => by simp at hi⟩, ?_, GF.2⟩
      rw [hl1]
      exact GF.1
    · have he2 : ((er : Int) != 0) = true := by rw [bne_iff_ne]; omega
      have he3 : ((er : Int) == 0) = false := bneI (by omega)
      have CF := Lib.hid (vfail_any p (.slice ba n cap) (at' + 1) ((left : Int) - 1) 0 er er rfl W7 HV7.out)
      rw [if_pos rfl] at CF
      go_wp2_with fail
      refine (CF.out).mono ?_
      rintro e w6 ⟨rfl, hg6, hr6⟩
      have T6 := HT7.out.kept hr6 hnr
      have Q6 := HQ7.out.kept hr6 hne
      clear t0 t1 t2 t3 tlt y1 yf ylt q0 q1 q2 q3 qf qlt
      have v0 := T6.cell 0
      have v1 := T6.cell 1
      have v2 := T6.cell 2
      have v3 := T6.cell 3
      have vlt := T6.lt
      have q0 := Q6.cell 0
      have q1 := Q6.cell 1
      have q2 := Q6.cell 2
      have q3 := Q6.cell 3
      have qf := fun o => Q6.free o
      have qlt := Q6.lt
      have c1 := hg6.cell 1
      have cf := fun o => hg6.free o
      have hlt6 := hg6.lt
      have HG6 := Lib.hid (grown_set (grown_trans HG7.out hr6) 1 (.int .i64 (nx : Int)))
      have HV6 := Lib.hid (hg6.set 1 (.int .i64 (nx : Int)))
      have HQ6 := Lib.hid (Q6.kept (grown_set (grown_refl w6 (some p)) 1 (.int .i64 (nx : Int))) hne)
      clear hg6 hr6 T6 Q6
      go_wp2
      have QF := (((HQ6.out.set 0 (.int .u8 1)).set 1 (.int .i64 z)).set 2 (.string ⟨#[]⟩)).set 3 (.slice none 0 0)
      have HV6b : Gv _ p (.slice ba n cap) nx ((left : Int) - 1) er := HV6.out
      have GF := ret_gv0 HV6b HG6.out hpw (Nat.le_refl w.heap.size) (.int .u8 1) (.int .i64 z) (.string ⟨#[]⟩) (.slice none 0 0)
      (try simp only [Exit.inBlock, Exit.then])
      refine bodyPost_ret (results_cell_row rfl _ _ w.heap.size 25 _ (0, 0) _ rfl QF Tryd.underlying25 rfl (by kernel_rfl)) rfl ?_
      have hRe : R = .error er := by rw [HRR.out]; simp [he]
      rw [hRe]
      exact ⟨1, z, ⟨#[]⟩, none, 0, 0, nx, _, rfl, he, GF.1, GF.2⟩
  · subst hK
    go_wp2_with fail
    refine wp_region_T_drew (fun w' => w'.cell? ⟨p, 0, none⟩ = some (.slice ba n cap) ∧ w'.cell? ⟨p, 1, none⟩ = some (.int .i64 ((at' : Int) + 1))) 17 (by kernel_rfl) ⟨y0, y1⟩ (fun hS => ?_)
    refine wpAnyT_take 0 rfl (by kernel_rfl) (by kernel_rfl) (by decide) (by kernel_rfl) (by kernel_rfl) (fun _ _ _ h => h) hS (by kernel_rfl) (v := ?_) ?_ ?_
    rotate_left
    · intro w' hSw; (try dsimp only at hSw); go_simp; (try with_reducible rfl)
    simp only [Act.put, List.setIfInBounds_toArray, List.set_cons_zero, List.set_cons_succ]
    refine wpAnyT_take 1 rfl (by kernel_rfl) (by kernel_rfl) (by decide) (by kernel_rfl) (by kernel_rfl) (fun _ _ _ h => h) hS (by kernel_rfl) (v := ?_) ?_ ?_
    rotate_left
    · intro w' hSw; (try dsimp only at hSw); go_simp; (try with_reducible rfl)
    simp only [Act.put, List.setIfInBounds_toArray, List.set_cons_zero, List.set_cons_succ]
    refine wpAnyT_take 2 rfl (by kernel_rfl) (by kernel_rfl) (by decide) (by kernel_rfl) (by kernel_rfl) (fun _ _ _ h => h) hS (by kernel_rfl) (v := ?_) ?_ ?_
    rotate_left
    · intro w' hSw; (try dsimp only at hSw); go_simp; (try with_reducible rfl)
    simp only [Act.put, List.setIfInBounds_toArray, List.set_cons_zero, List.set_cons_succ]
    refine wpAnyT_take 3 rfl (by kernel_rfl) (by kernel_rfl) (by decide) (by kernel_rfl) (by kernel_rfl) (fun _ _ _ h => h) hS (by kernel_rfl) (v := ?_) ?_ ?_
    rotate_left
    · intro w' hSw; (try dsimp only at hSw); go_simp; (try with_reducible rfl)
    simp only [Act.put, List.setIfInBounds_toArray, List.set_cons_zero, List.set_cons_succ]
    refine wpAnyT_take 4 rfl (by kernel_rfl) (by kernel_rfl) (by decide) (by kernel_rfl) (by kernel_rfl) (fun _ _ _ h => h) hS (by kernel_rfl) (v := ?_) ?_ ?_
    rotate_left
    · intro w' hSw; (try dsimp only at hSw); go_simp; (try with_reducible rfl)
    simp only [Act.put, List.setIfInBounds_toArray, List.set_cons_zero, List.set_cons_succ]
    refine wpAnyT_take 5 rfl (by kernel_rfl) (by kernel_rfl) (by decide) (by kernel_rfl) (by kernel_rfl) (fun _ _ _ h => h) hS (by kernel_rfl) (v := ?_) ?_ ?_
    rotate_left
    · intro w' hSw; (try dsimp only at hSw); go_simp; (try with_reducible rfl)
    simp only [Act.put, List.setIfInBounds_toArray, List.set_cons_zero, List.set_cons_succ]
    refine wpAnyT_take 6 rfl (by kernel_rfl) (by kernel_rfl) (by decide) (by kernel_rfl) (by kernel_rfl) (fun _ _ _ h => h) hS (by kernel_rfl) (v := ?_) ?_ ?_
    rotate_left
    · intro w' hSw; (try dsimp only at hSw); go_simp; (try with_reducible rfl)
    simp only [Act.put, List.setIfInBounds_toArray, List.set_cons_zero, List.set_cons_succ]
    refine wpAnyT_take 7 rfl (by kernel_rfl) (by kernel_rfl) (by decide) (by kernel_rfl) (by kernel_rfl) (fun _ _ _ h => h) hS (by kernel_rfl) (v := ?_) ?_ ?_
    rotate_left
    · intro w' hSw; (try dsimp only at hSw); go_simp; (try with_reducible rfl)
    simp only [Act.put, List.setIfInBounds_toArray, List.set_cons_zero, List.set_cons_succ]
    refine wpAnyT_one 8 (by kernel_rfl) rfl (by kernel_rfl) (fun K hK => ?_)
    go_simp
    refine (CI.out _ (HR5.out.below ((Below.refl _ _).drew))).mono ?_
    rintro e w6 ⟨rfl, rfl⟩
    refine hK _ _ (fun _ => hS) ?_
    clear hK K
    refine wpAnyT_take 9 rfl (by kernel_rfl) (by kernel_rfl) (by decide) (by kernel_rfl) (by kernel_rfl) (fun _ _ _ h => h) hS (by kernel_rfl) (v := ?_) ?_ ?_
    rotate_left
    · intro w' hSw; (try dsimp only at hSw); go_simp; (try with_reducible rfl)
    simp only [Act.put, List.setIfInBounds_toArray, List.set_cons_zero, List.set_cons_succ]
    refine wpAnyT_take 10 rfl (by kernel_rfl) (by kernel_rfl) (by decide) (by kernel_rfl) (by kernel_rfl) (fun _ _ _ h => h) hS (by kernel_rfl) (v := ?_) ?_ ?_
    rotate_left
    · intro w' hSw; (try dsimp only at hSw); go_simp; (try with_reducible rfl)
    simp only [Act.put, List.setIfInBounds_toArray, List.set_cons_zero, List.set_cons_succ]
    refine wpAnyT_take 11 rfl (by kernel_rfl) (by kernel_rfl) (by decide) (by kernel_rfl) (by kernel_rfl) (fun _ _ _ h => h) hS (by kernel_rfl) (v := ?_) ?_ ?_
    rotate_left
    · intro w' hSw; (try dsimp only at hSw); go_simp; (try with_reducible rfl)
    simp only [Act.put, List.setIfInBounds_toArray, List.set_cons_zero, List.set_cons_succ]
    refine wpAnyT_take 12 rfl (by kernel_rfl) (by kernel_rfl) (by decide) (by kernel_rfl) (by kernel_rfl) (fun _ _ _ h => h) hS (by kernel_rfl) (v := ?_) ?_ ?_
    rotate_left
    · intro w' hSw; (try dsimp only at hSw); go_simp; (try with_reducible rfl)
    simp only [Act.put, List.setIfInBounds_toArray, List.set_cons_zero, List.set_cons_succ]
    refine wpAnyT_take 13 rfl (by kernel_rfl) (by kernel_rfl) (by decide) (by kernel_rfl) (by kernel_rfl) (fun _ _ _ h => h) hS (by kernel_rfl) (v := ?_) ?_ ?_
    rotate_left
    · intro w' hSw; (try dsimp only at hSw); go_simp; (try with_reducible rfl)
    simp only [Act.put, List.setIfInBounds_toArray, List.set_cons_zero, List.set_cons_succ]
    refine wpAnyT_one 14 (by kernel_rfl) rfl (by kernel_rfl) (fun K hK => ?_)
    go_simp
    have hV6 := (HV5.out.below (Below.refl W5.heap.size W5).drew).kept (grown_set (grown_refl W5.drew (some r0)) 1 (.int .i64 z)) (fun e => hnr e.symm)
    have hS : _ ∧ _ := ⟨hV6.cell 0, hV6.cell 1⟩
    refine hK _ _ (fun _ => hS) ?_
    clear hK K
    refine wpAnyT_one 15 (by kernel_rfl) rfl (by kernel_rfl) (fun K hK => ?_)
    go_simp
    refine hK _ _ (fun _ => hS) ?_
    clear hK K
    refine wpAnyT_one 16 (by kernel_rfl) rfl (by kernel_rfl) (fun K hK => ?_)
    go_simp
    refine hK _ _ (fun _ => hS) ?_
    clear hK K
    refine wpAnyT_done (by kernel_rfl) ?_
    have hWW : (W5.setCell ⟨r0, 1, none⟩ (.int .i64 z)).drew = W5.drew.setCell ⟨r0, 1, none⟩ (.int .i64 z) := rfl
    have T7 := (HT5.out.below (Below.refl W5.heap.size W5).drew).set 1 (.int .i64 z)
    have V7 : Gv (W5.drew.setCell ⟨r0, 1, none⟩ (.int .i64 z)) p (.slice ba n cap) (at' + 1) ((left : Int) - 1) 0 := hV6
    have Q7 := (HQ5.out.below (Below.refl W5.heap.size W5).drew).kept (grown_set (grown_refl W5.drew (some r0)) 1 (.int .i64 z)) (fun e => by have := Option.some.inj e; omega)
    have G7 : w.grownBy (W5.drew.setCell ⟨r0, 1, none⟩ (.int .i64 z)) (some p) := grown_fresh (grown_below HG5.out (Below.refl W5.heap.size W5).drew) hr0 _ _
    rw [← hWW] at T7 V7 Q7 G7
    clear hWW
    clear hS hV6 y0 y1 tf hlt5 t0 t1 t2 t3 tlt HR5 CI
    generalize (W5.setCell ⟨r0, 1, none⟩ (.int .i64 z)).drew = W7 at T7 V7 Q7 G7 ⊢
    have HT7 := Lib.hid T7
    have HV7 := Lib.hid V7
    have HQ7 := Lib.hid Q7
    have HG7 := Lib.hid G7
    have t0 := T7.cell 0
    have t1 := T7.cell 1
    have t2 := T7.cell 2
    have t3 := T7.cell 3
    have tlt := T7.lt
    have y1 := V7.cell 1
    have yf := fun o => V7.free o
    have ylt := V7.lt
    have q0 := Q7.cell 0
    have q1 := Q7.cell 1
    have q2 := Q7.cell 2
    have q3 := Q7.cell 3
    have qf := fun o => Q7.free o
    have qlt := Q7.lt
    clear T7 V7 Q7 G7
    by_cases he : er = 0
    · subst he
      have hzm : z = Va.ung m := by rw [HZ.out, if_pos rfl]
      by_cases h0 : z < 0
      · have hm : Va.ung m < 0 := hzm ▸ h0
        have CF := Lib.hid (vfail_any p (.slice ba n cap) (at' + 1) ((left : Int) - 1) 0 13 13 rfl W7 HV7.out)
        rw [if_pos rfl] at CF
        clear hzm
        have HM := Lib.hid hm
        clear hm
        go_wp2_with fail
        refine (CF.out).mono ?_
        rintro e w6 ⟨rfl, hg6, hr6⟩
        have T6 := HT7.out.kept hr6 hnr
        have Q6 := HQ7.out.kept hr6 hne
        clear t0 t1 t2 t3 tlt y1 yf ylt q0 q1 q2 q3 qf qlt
        have v0 := T6.cell 0
        have v1 := T6.cell 1
        have v2 := T6.cell 2
        have v3 := T6.cell 3
        have vlt := T6.lt
        have q0 := Q6.cell 0
        have q1 := Q6.cell 1
        have q2 := Q6.cell 2
        have q3 := Q6.cell 3
        have qf := fun o => Q6.free o
        have qlt := Q6.lt
        have c1 := hg6.cell 1
        have cf := fun o => hg6.free o
        have hlt6 := hg6.lt
        have HG6 := Lib.hid (grown_set (grown_trans HG7.out hr6) 1 (.int .i64 (nx : Int)))
        have HV6 := Lib.hid (hg6.set 1 (.int .i64 (nx : Int)))
        have HQ6 := Lib.hid (Q6.kept (grown_set (grown_refl w6 (some p)) 1 (.int .i64 (nx : Int))) hne)
        clear hg6 hr6 T6 Q6
        go_wp2
        have QF := (((HQ6.out.set 0 (.int .u8 5)).set 1 (.int .i64 z)).set 2 (.string ⟨#[]⟩)).set 3 (.slice none 0 0)
        have HV6b : Gv _ p (.slice ba n cap) nx ((left : Int) - 1) 13 := HV6.out
        have GF := ret_gv0 HV6b HG6.out hpw (Nat.le_refl w.heap.size) (.int .u8 5) (.int .i64 z) (.string ⟨#[]⟩) (.slice none 0 0)
        (try simp only [Exit.inBlock, Exit.then])
        refine bodyPost_ret (results_cell_row rfl _ _ w.heap.size 25 _ (0, 0) _ rfl QF Tryd.underlying25 rfl (by kernel_rfl)) rfl ?_
        have hRe : R = .error 13 := by rw [HRR.out]; simp [HM.out]
        rw [hRe]
        exact ⟨5, z, ⟨#[]⟩, none, 0, 0, nx, _, rfl, (by decide), GF.1, GF.2⟩
      · have hm : ¬ Va.ung m < 0 := hzm ▸ h0
        have HM := Lib.hid hm
        clear hm hzm
        go_wp2
        have HGA := grown_set HG7.out 1 (.int .i64 (nx : Int))
        have HVA : Gv (W7.setCell ⟨p, 1, none⟩ (.int .i64 (nx : Int))) p (.slice ba n cap) nx ((left : Int) - 1) 0 := HV7.out.set 1 (.int .i64 (nx : Int))
        have HQA := HQ7.out.kept (grown_set (grown_refl W7 (some p)) 1 (.int .i64 (nx : Int))) hne
        have QF := (((HQA.set 0 (.int .u8 5)).set 1 (.int .i64 z)).set 2 (.string ⟨#[]⟩)).set 3 (.slice none 0 0)
        have GF := ret_gv0 HVA HGA hpw (Nat.le_refl w.heap.size) (.int .u8 5) (.int .i64 z) (.string ⟨#[]⟩) (.slice none 0 0)
        (try simp only [Exit.inBlock, Exit.then])
        refine bodyPost_ret (results_cell_row rfl _ _ w.heap.size 25 _ (0, 0) _ rfl QF Tryd.underlying25 rfl (by kernel_rfl)) rfl ?_
        have hRe : R = .ok (.mk 5 z Va.em [], nx, left - 1) := by rw [HRR.out, HZ.out, HNX.out]; simp [HM.out]
        rw [hRe]
        have hl1 : ((left - 1 : Nat) : Int) = (left : Int) - 1 := by omega
        refine ⟨_, rfl, RV.mk' (ok := fun b => w.heap.size ≤ b) (k := 5) (l := []) (ba := none) (cap := 0) (s := Va.em) (by decide) HZI.out (by decide) ⟨by simp, by simp [maxLen], fun _ => rfl, fun i hi => by simp at hi⟩, ?_, GF.2⟩
        rw [hl1]
        exact GF.1
    · have he2 : ((er : Int) != 0) = true := by rw [bne_iff_ne]; omega
      have he3 : ((er : Int) == 0) = false := bneI (by omega)
      have CF := Lib.hid (vfail_any p (.slice ba n cap) (at' + 1) ((left : Int) - 1) 0 er er rfl W7 HV7.out)
      rw [if_pos rfl] at CF
      go_wp2_with fail
      refine (CF.out).mono ?_
      rintro e w6 ⟨rfl, hg6, hr6⟩
      have T6 := HT7.out.kept hr6 hnr
      have Q6 := HQ7.out.kept hr6 hne
      clear t0 t1 t2 t3 tlt y1 yf ylt q0 q1 q2 q3 qf qlt
      have v0 := T6.cell 0
      have v1 := T6.cell 1
      have v2 := T6.cell 2
      have v3 := T6.cell 3
      have vlt := T6.lt
      have q0 := Q6.cell 0
      have q1 := Q6.cell 1
      have q2 := Q6.cell 2
      have q3 := Q6.cell 3
      have qf := fun o => Q6.free o
      have qlt := Q6.lt
      have c1 := hg6.cell 1
      have cf := fun o => hg6.free o
      have hlt6 := hg6.lt
      have HG6 := Lib.hid (grown_set (grown_trans HG7.out hr6) 1 (.int .i64 (nx : Int)))
      have HV6 := Lib.hid (hg6.set 1 (.int .i64 (nx : Int)))
      have HQ6 := Lib.hid (Q6.kept (grown_set (grown_refl w6 (some p)) 1 (.int .i64 (nx : Int))) hne)
      clear hg6 hr6 T6 Q6
      go_wp2
      have QF := (((HQ6.out.set 0 (.int .u8 5)).set 1 (.int .i64 z)).set 2 (.string ⟨#[]⟩)).set 3 (.slice none 0 0)
      have HV6b : Gv _ p (.slice ba n cap) nx ((left : Int) - 1) er := HV6.out
      have GF := ret_gv0 HV6b HG6.out hpw (Nat.le_refl w.heap.size) (.int .u8 5) (.int .i64 z) (.string ⟨#[]⟩) (.slice none 0 0)
      (try simp only [Exit.inBlock, Exit.then])
      refine bodyPost_ret (results_cell_row rfl _ _ w.heap.size 25 _ (0, 0) _ rfl QF Tryd.underlying25 rfl (by kernel_rfl)) rfl ?_
      have hRe : R = .error er := by rw [HRR.out]; simp [he]
      rw [hRe]
      exact ⟨5, z, ⟨#[]⟩, none, 0, 0, nx, _, rfl, he, GF.1, GF.2⟩
end Go.Proofs.YtgamhgeiceakeaaDoor
