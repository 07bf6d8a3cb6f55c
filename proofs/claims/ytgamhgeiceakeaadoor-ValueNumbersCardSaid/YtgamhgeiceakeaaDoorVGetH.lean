/- package value: the getter's value, by contract: tuples, their parts' contract given. -/
import Derived.Test.YtgamhgeiceakeaaDoorVGetG
set_option linter.unusedVariables false
set_option linter.unusedSimpArgs false
namespace Go.Proofs.YtgamhgeiceakeaaDoor
open Go.RowKit
open Va (V)
/-- a tuple of the parts -/
def tupled : Except Nat (List V × Nat × Nat) → Va.Rs
  | .error e => .error e
  | .ok (l, a2, l2) => .ok (.mk 4 0 Va.em l, a2, l2)
set_option maxHeartbeats 3200000 in
set_option maxRecDepth 100000 in
theorem value_tuple (p : Nat) (ba : Option Addr) (n cap : Nat) (l : List UInt8) (at' left lv : Nat) (w : World) (hg : Gv w p (.slice ba n cap) at' left 0) (hn : l.length = n) (hr : Rd w ba l) (hp : l ≠ [] → ∀ b o, ba = some (⟨b, o, none⟩ : Addr) → b ≠ p) (ha : at' < n) (hmx : n ≤ 1099511627776) (hl0 : 1 ≤ left) (hlv0 : 1 ≤ lv) (hl : left ≤ 256) (hlv : lv ≤ 16)
    (CI : ∀ (a lf : Nat) (W : World), Gv W p (.slice ba n cap) a lf 0 → w.grownBy W (some p) → a ≤ n → lf ≤ 256 → Calls Tryd.prog 32 #[.pointer (some ⟨p, 0, none⟩), .int .i64 ((lv : Int) - 1)] W (VaPost p (.slice ba n cap) (Va.gv l (lv - 1) a lf) W))
    (m c er : Nat) (hgu : By.gu (l.drop (at' + 1)) = (m, c, er)) (RES : Except Nat (List V × Nat × Nat)) (hRES : RES = Va.gvN (Va.gv l (lv - 1)) m (at' + 1 + c) (left - 1) []) (R : Va.Rs)
    (hx : (l[at']'(hn ▸ ha)).toNat = 4 ∧ R = if er ≠ 0 then .error er else if 256 < m then .error 13 else tupled RES) :
    Calls Tryd.prog 32 #[.pointer (some ⟨p, 0, none⟩), .int .i64 lv] w (VaPost p (.slice ba n cap) R w) := by
  obtain ⟨nx, hnx⟩ : ∃ nx : Nat, nx = if er = 0 then at' + 1 + c else 0 := ⟨_, rfl⟩
  obtain ⟨F, hF⟩ : ∃ F : Nat → Nat → Va.Rs, F = Va.gv l (lv - 1) := ⟨_, rfl⟩
  have hRES2 : RES = Va.gvN F m (at' + 1 + c) (left - 1) [] := by rw [hF]; exact hRES
  rw [← hF] at CI
  clear hRES
  obtain ⟨mm, hmm⟩ : ∃ mm : Nat, mm = if er = 0 then m else 0 := ⟨_, rfl⟩
  have CU : Hid (∀ W, Rd W ba l → Calls Tryd.prog 47 #[.slice ba n cap, .int .i64 ((at' : Int) + 1)] W fun e W' => e = .returned (.tuple #[.int .u64 mm, .int .i64 nx, .int .i64 er]) ∧ W = W') := Lib.hid fun W h => (getUint_any ba n cap l (at' + 1) W hn h (by omega) hmx).mono fun e W' hp => by
    unfold GuPost at hp
    rw [hgu] at hp
    obtain ⟨he, hw⟩ := hp
    exact ⟨by rw [he, hmm, hnx], hw⟩
  have HIN : Hid (er = 0 → at' + 1 + c ≤ n) := Lib.hid (fun h => by
    subst h
    have := (Va.gu_inv _ _ _ hgu).2.1
    rw [List.length_drop] at this; omega)
  have CI' : Hid (∀ (a lf : Nat) (W : World), Gv W p (.slice ba n cap) a lf 0 → w.grownBy W (some p) → a ≤ n → lf ≤ 256 → Calls Tryd.prog 32 #[.pointer (some ⟨p, 0, none⟩), .int .i64 ((lv : Int) - 1)] W (PartPost p (.slice ba n cap) (F a lf) W)) := Lib.hid fun a lf W h1 h2 h3 h4 => (CI a lf W h1 h2 h3 h4).mono fun _ _ h => part_of h
  have HTOLD : Hid (∀ (a lf : Nat), a ≤ n → Va.Told l (lv - 1) a lf (F a lf)) := Lib.hid fun a lf h => by rw [hF]; exact Va.gv_told l (lv - 1) a lf (by omega)
  have HNX := Lib.hid hnx
  have HMM := Lib.hid hmm
  have HRES := Lib.hid hRES2
  clear hgu hnx hmm hRES2 CI hF
  replace hx := Lib.hid hx
  have hsz : (w.setCell ⟨p, 2, none⟩ (.int .i64 ((left : Int) - 1))).heap.size = w.heap.size := by simp
  have B1 : Gv ((w.setCell ⟨p, 2, none⟩ (.int .i64 ((left : Int) - 1))).alloc (.cells #[.int .u8 0, .int .i64 0, .string ⟨#[]⟩, .slice none 0 0] 25)) p (.slice ba n cap) at' ((left : Int) - 1) 0 := (hg.set 2 _).below ((Below.refl _ _).alloc (Nat.le_refl _) _)
  have Q1 := Blk.new (w.setCell ⟨p, 2, none⟩ (.int .i64 ((left : Int) - 1))) #[.int .u8 0, .int .i64 0, .string ⟨#[]⟩, .slice none 0 0] 25
  rw [hsz] at Q1
  have G1 : w.grownBy ((w.setCell ⟨p, 2, none⟩ (.int .i64 ((left : Int) - 1))).alloc (.cells #[.int .u8 0, .int .i64 0, .string ⟨#[]⟩, .slice none 0 0] 25)) (some p) := grown_below (grown_set (grown_refl _ _) _ _) ((Below.refl _ _).alloc (Nat.le_refl _) _)
  have hpw : p < w.heap.size := hg.lt
  clear hsz
  have c2 := hg.cell 2
  have hf := fun o => hg.free o
  have hlt := hg.lt
  clear hg
  go_enter Tryd.func32, Tryd.ntmps32
  go_upto_region 2 with (fail)
  clear c2 hf hlt
  generalize (w.setCell ⟨p, 2, none⟩ (.int .i64 ((left : Int) - 1))).alloc (.cells #[.int .u8 0, .int .i64 0, .string ⟨#[]⟩, .slice none 0 0] 25) = W1 at B1 Q1 G1 ⊢
  have hne : some w.heap.size ≠ some p := fun e => by have := Option.some.inj e; omega
  have CO := Lib.hid (one_yes p ba n cap l at' ((left : Int) - 1) W1 B1 hn (rd_grown hr G1 hp) hp ha hmx)
  have b2 := B1.cell 2
  have hlt1 := B1.lt
  have HQ1 := Lib.hid Q1
  have HG1 := Lib.hid G1
  have hz : ((lv : Int) == 0) = false := bneI (by omega)
  have hpos : (1 : Int) ≤ (left : Int) := by omega
  have HR := Lib.hid (fun W (g : w.grownBy W (some p)) => rd_grown hr g hp)
  generalize l[at']'(hn ▸ ha) = x at CO hx
  have hx8 : x.toNat < 256 := x.toNat_lt
  generalize hxk : x.toNat = k at CO hx hx8
  clear B1 Q1 G1 hr
  go_wp2_with fail
  refine (CO.out).mono ?_
  rintro e w3 ⟨rfl, hg3, hr3⟩
  have HGV := Lib.hid hg3
  have Q3 := HQ1.out.kept hr3 hne
  have HG3 := Lib.hid (grown_trans HG1.out hr3)
  have hs3 : w.heap.size ≤ w3.heap.size := HG3.out.size
  have HQ3 := Lib.hid Q3
  have c3 := hg3.cell 3
  have c1 := hg3.cell 1
  have hlt3 := hg3.lt
  clear hg3 hr3 CO Q3 b2 hlt1
  go_wp2_with fail
  have T4 := Blk.new w3 #[.int .u8 k, .int .i64 0, .string ⟨#[]⟩, .slice none 0 0] 25
  have hal : Below w3.heap.size w3 (w3.alloc (.cells #[.int .u8 k, .int .i64 0, .string ⟨#[]⟩, .slice none 0 0] 25)) := (Below.refl _ _).alloc (Nat.le_refl _) _
  have GV4 : Gv _ p (.slice ba n cap) (at' + 1) ((left : Int) - 1) 0 := HGV.out.below hal
  have Q4 := HQ3.out.below hal
  have G4 := grown_below HG3.out hal
  have hr0 : w.heap.size < w3.heap.size := HQ3.out.lt
  clear HGV HQ3 HG3 c3 c1 hlt3 hal hs3
  generalize w3.alloc (.cells #[.int .u8 k, .int .i64 0, .string ⟨#[]⟩, .slice none 0 0] 25) = W4 at T4 GV4 Q4 G4 ⊢
  generalize w3.heap.size = r0 at T4 hr0 ⊢
  have d1 := GV4.cell 1
  have hlt4 := GV4.lt
  have HF := Lib.hid (fun k => (⟨T4.below (belowN (Below.refl W4.heap.size W4) k), GV4.below (belowN (Below.refl W4.heap.size W4) k), Q4.below (belowN (Below.refl W4.heap.size W4) k), grown_trans G4 (drewN_grown W4 k _)⟩ : _ ∧ _ ∧ _ ∧ _))
  clear T4 GV4 Q4 G4
  go_quiet (fail)
  obtain ⟨T5, GV5, Q5, G5⟩ := HF.out nq
  clear HF d1 hlt4
  generalize W4.drewN nq = W5 at T5 GV5 Q5 G5 ⊢
  have t0 := T5.cell 0
  have t1 := T5.cell 1
  have t2 := T5.cell 2
  have t3 := T5.cell 3
  have tlt := T5.lt
  have HT5 := Lib.hid T5
  have HV5 := Lib.hid GV5
  have HQ5 := Lib.hid Q5
  have HG5 := Lib.hid G5
  have hnr : some r0 ≠ some p := fun e => by have := Option.some.inj e; omega
  clear T5 GV5 Q5 G5
  obtain ⟨hK, hR⟩ := hx.out
  clear hx
  have HRR := Lib.hid hR
  clear hR
  have HR5 := Lib.hid (HR.out W5 HG5.out)
  have y0 := HV5.out.cell 0
  have y1 := HV5.out.cell 1
  have hlt5 := HV5.out.lt
  subst hK
  go_wp2_with fail
  refine wp_region_T_drew (fun w' => w'.cell? ⟨p, 0, none⟩ = some (.slice ba n cap) ∧ w'.cell? ⟨p, 1, none⟩ = some (.int .i64 ((at' : Int) + 1))) 16 (by kernel_rfl) ⟨y0, y1⟩ (fun hS => ?_)
  refine wpAnyT_take 0 rfl (by kernel_rfl) (by kernel_rfl) (by decide) (by kernel_rfl) (by kernel_rfl) (fun _ _ _ h => h) hS (by kernel_rfl) (v := ?_) ?_ ?_
  rotate_left
  · intro w' hSw; (try dsimp only at hSw); go_simp; (try with_reducible rfl)
  simp only [Act.put, List.setIfInBounds_toArray, List.set_cons_zero, List.set_cons_succ]
  refine wpAnyT_take 1 rfl (by kernel_rfl) (by kernel_rfl) (by decide) (by kernel_rfl) (by kernel_rfl) (fun _ _ _ h => h) hS (by kernel_rfl) (v := ?_) ?_ ?_
  rotate_left
  · intro w' hSw; (try dsimp only at hSw); go_simp; (try with_reducible rfl)
  simp only [Act.put, List.setIfInBounds_toArray, List.set_cons_zero, List.set_cons_succ]
  refine wpAnyT_take 2 rfl (by kernel_rfl) (by kernel_rfl) (by decide) (by kernel_rfl) (by kernel_rfl) (fun _ _ _ h => h) hS (by kernel_rfl) (v := ?_) ?_ ?_
  rotate_left
  · intro w' hSw; (try dsimp only at hSw); go_simp; (try with_reducible rfl)
  simp only [Act.put, List.setIfInBounds_toArray, List.set_cons_zero, List.set_cons_succ]
  refine wpAnyT_take 3 rfl (by kernel_rfl) (by kernel_rfl) (by decide) (by kernel_rfl) (by kernel_rfl) (fun _ _ _ h => h) hS (by kernel_rfl) (v := ?_) ?_ ?_
  rotate_left
  · intro w' hSw; (try dsimp only at hSw); go_simp; (try with_reducible rfl)
  simp only [Act.put, List.setIfInBounds_toArray, List.set_cons_zero, List.set_cons_succ]
  refine wpAnyT_take 4 rfl (by kernel_rfl) (by kernel_rfl) (by decide) (by kernel_rfl) (by kernel_rfl) (fun _ _ _ h => h) hS (by kernel_rfl) (v := ?_) ?_ ?_
  rotate_left
  · intro w' hSw; (try dsimp only at hSw); go_simp; (try with_reducible rfl)
  simp only [Act.put, List.setIfInBounds_toArray, List.set_cons_zero, List.set_cons_succ]
  refine wpAnyT_take 5 rfl (by kernel_rfl) (by kernel_rfl) (by decide) (by kernel_rfl) (by kernel_rfl) (fun _ _ _ h => h) hS (by kernel_rfl) (v := ?_) ?_ ?_
  rotate_left
  · intro w' hSw; (try dsimp only at hSw); go_simp; (try with_reducible rfl)
  simp only [Act.put, List.setIfInBounds_toArray, List.set_cons_zero, List.set_cons_succ]
  refine wpAnyT_take 6 rfl (by kernel_rfl) (by kernel_rfl) (by decide) (by kernel_rfl) (by kernel_rfl) (fun _ _ _ h => h) hS (by kernel_rfl) (v := ?_) ?_ ?_
  rotate_left
  · intro w' hSw; (try dsimp only at hSw); go_simp; (try with_reducible rfl)
  simp only [Act.put, List.setIfInBounds_toArray, List.set_cons_zero, List.set_cons_succ]
  refine wpAnyT_take 7 rfl (by kernel_rfl) (by kernel_rfl) (by decide) (by kernel_rfl) (by kernel_rfl) (fun _ _ _ h => h) hS (by kernel_rfl) (v := ?_) ?_ ?_
  rotate_left
  · intro w' hSw; (try dsimp only at hSw); go_simp; (try with_reducible rfl)
  simp only [Act.put, List.setIfInBounds_toArray, List.set_cons_zero, List.set_cons_succ]
  refine wpAnyT_one 8 (by kernel_rfl) rfl (by kernel_rfl) (fun K hK => ?_)
  go_simp
  refine (CU.out _ (HR5.out.below ((Below.refl _ _).drew))).mono ?_
  rintro e w6 ⟨rfl, rfl⟩
  refine hK _ _ (fun _ => hS) ?_
  clear hK K
  refine wpAnyT_take 9 rfl (by kernel_rfl) (by kernel_rfl) (by decide) (by kernel_rfl) (by kernel_rfl) (fun _ _ _ h => h) hS (by kernel_rfl) (v := ?_) ?_ ?_
  rotate_left
  · intro w' hSw; (try dsimp only at hSw); go_simp; (try with_reducible rfl)
  simp only [Act.put, List.setIfInBounds_toArray, List.set_cons_zero, List.set_cons_succ]
  refine wpAnyT_take 10 rfl (by kernel_rfl) (by kernel_rfl) (by decide) (by kernel_rfl) (by kernel_rfl) (fun _ _ _ h => h) hS (by kernel_rfl) (v := ?_) ?_ ?_
  rotate_left
  · intro w' hSw; (try dsimp only at hSw); go_simp; (try with_reducible rfl)
  simp only [Act.put, List.setIfInBounds_toArray, List.set_cons_zero, List.set_cons_succ]
  refine wpAnyT_take 11 rfl (by kernel_rfl) (by kernel_rfl) (by decide) (by kernel_rfl) (by kernel_rfl) (fun _ _ _ h => h) hS (by kernel_rfl) (v := ?_) ?_ ?_
  rotate_left
  · intro w' hSw; (try dsimp only at hSw); go_simp; (try with_reducible rfl)
  simp only [Act.put, List.setIfInBounds_toArray, List.set_cons_zero, List.set_cons_succ]
  refine wpAnyT_take 12 rfl (by kernel_rfl) (by kernel_rfl) (by decide) (by kernel_rfl) (by kernel_rfl) (fun _ _ _ h => h) hS (by kernel_rfl) (v := ?_) ?_ ?_
  rotate_left
  · intro w' hSw; (try dsimp only at hSw); go_simp; (try with_reducible rfl)
  simp only [Act.put, List.setIfInBounds_toArray, List.set_cons_zero, List.set_cons_succ]
  refine wpAnyT_one 13 (by kernel_rfl) rfl (by kernel_rfl) (fun K hK => ?_)
  go_simp
  refine hK _ _ (fun _ => hS) ?_
  clear hK K
  refine wpAnyT_one 14 (by kernel_rfl) rfl (by kernel_rfl) (fun K hK => ?_)
  go_simp
  refine hK _ _ (fun _ => hS) ?_
  clear hK K
  refine wpAnyT_one 15 (by kernel_rfl) rfl (by kernel_rfl) (fun K hK => ?_)
  go_simp
  refine hK _ _ (fun _ => hS) ?_
  clear hK K
  refine wpAnyT_done (by kernel_rfl) ?_
  have hdr : Below W5.heap.size W5 W5.drew := (Below.refl W5.heap.size W5).drew
  have HT6 := Lib.hid (HT5.out.below hdr)
  have HV6 := Lib.hid (HV5.out.below hdr)
  have HQ6 := Lib.hid (HQ5.out.below hdr)
  have HG6 := Lib.hid (grown_below HG5.out hdr)
  clear hS y0 y1 hlt5 t0 t1 t2 t3 tlt HR5 CU hdr HT5 HV5 HQ5 HG5
  generalize W5.drew = W6 at HT6 HV6 HQ6 HG6 ⊢
  have t0 := HT6.out.cell 0
  have t1 := HT6.out.cell 1
  have t2 := HT6.out.cell 2
  have t3 := HT6.out.cell 3
  have tlt := HT6.out.lt
  have y1 := HV6.out.cell 1
  have yf := fun o => HV6.out.free o
  have ylt := HV6.out.lt
  have q0 := HQ6.out.cell 0
  have q1 := HQ6.out.cell 1
  have q2 := HQ6.out.cell 2
  have q3 := HQ6.out.cell 3
  have qf := fun o => HQ6.out.free o
  have qlt := HQ6.out.lt
  by_cases he : er = 0
  · subst he
    obtain rfl : mm = m := by rw [HMM.out, if_pos rfl]
    by_cases hm : 256 < mm
    · skip
      have CF := Lib.hid (vfail_any p (.slice ba n cap) (at' + 1) ((left : Int) - 1) 0 13 13 rfl W6 HV6.out)
      rw [if_pos rfl] at CF
      go_wp2_with fail
      refine (CF.out).mono ?_
      rintro e w8 ⟨rfl, hg6, hr6⟩
      have T8 := HT6.out.kept hr6 hnr
      have Q8 := HQ6.out.kept hr6 hne
      clear t0 t1 t2 t3 tlt y1 yf ylt q0 q1 q2 q3 qf qlt
      have v0 := T8.cell 0
      have v1 := T8.cell 1
      have v2 := T8.cell 2
      have v3 := T8.cell 3
      have vlt := T8.lt
      have q0 := Q8.cell 0
      have q1 := Q8.cell 1
      have q2 := Q8.cell 2
      have q3 := Q8.cell 3
      have qf := fun o => Q8.free o
      have qlt := Q8.lt
      have c1 := hg6.cell 1
      have cf := fun o => hg6.free o
      have hlt6 := hg6.lt
      have HG8 := Lib.hid (grown_set (grown_trans HG6.out hr6) 1 (.int .i64 (nx : Int)))
      have HV8 : Hid (Gv (w8.setCell ⟨p, 1, none⟩ (.int .i64 (nx : Int))) p (.slice ba n cap) nx ((left : Int) - 1) 13) := Lib.hid (hg6.set 1 (.int .i64 (nx : Int)))
      have HQ8 := Lib.hid (Q8.kept (grown_set (grown_refl w8 (some p)) 1 (.int .i64 (nx : Int))) hne)
      clear hg6 hr6 T8 Q8
      go_wp2
      have QF := (((HQ8.out.set 0 (.int .u8 4)).set 1 (.int .i64 0)).set 2 (.string ⟨#[]⟩)).set 3 (.slice none 0 0)
      have GF := ret_gv0 HV8.out HG8.out hpw (Nat.le_refl w.heap.size) (.int .u8 4) (.int .i64 0) (.string ⟨#[]⟩) (.slice none 0 0)
      (try simp only [Exit.inBlock, Exit.then])
      refine bodyPost_ret (results_cell_row rfl _ _ w.heap.size 25 _ (0, 0) _ rfl QF Tryd.underlying25 rfl (by kernel_rfl)) rfl ?_
      have hRe : R = .error 13 := by rw [HRR.out]; simp [hm]
      rw [hRe]
      exact ⟨4, 0, ⟨#[]⟩, none, 0, 0, nx, _, rfl, (by decide), GF.1, GF.2⟩
    · have hm' : ¬ (256 : Int) < (mm : Int) := by omega
      have hc1 : nx = at' + 1 + c := by rw [HNX.out, if_pos rfl]
      have HC1 := Lib.hid hc1
      clear hc1
      go_wp2_with fail
      have V7 : Gv (W6.setCell ⟨p, 1, none⟩ (.int .i64 (nx : Int))) p (.slice ba n cap) nx ((left : Int) - 1) 0 := HV6.out.set 1 _
      have T7 := HT6.out.kept (grown_set (grown_refl W6 (some p)) 1 (.int .i64 (nx : Int))) hnr
      have Q7 := HQ6.out.kept (grown_set (grown_refl W6 (some p)) 1 (.int .i64 (nx : Int))) hne
      have G7 := grown_set HG6.out 1 (.int .i64 (nx : Int))
      have S7 : TuS w p r0 (.slice ba n cap) mm nx ((left : Int) - 1) 0 (.slice none 0 0) [] _ := ⟨V7, T7, Q7, G7, World.ownsRow_nil _ _ _ _, (fun x hx => by cases hx), (by simp; omega)⟩
      have R7 : TuR RES n F r0 mm nx ((left : Int) - 1) 0 (.slice none 0 0) [] (W6.setCell ⟨p, 1, none⟩ (.int .i64 (nx : Int))) := Or.inl ⟨rfl, left - 1, [], by omega, by omega, (by have := HIN.out (by trivial); have := HC1.out; omega), (by rw [HRES.out, ← HC1.out]), ⟨rfl, fun i h => by simp at h⟩⟩
      clear t0 t1 t2 t3 tlt y1 yf ylt q0 q1 q2 q3 qf qlt V7 T7 Q7 G7 HV6 HT6 HQ6 HG6
      generalize W6.setCell ⟨p, 1, none⟩ (.int .i64 (nx : Int)) = W7 at S7 R7 ⊢
      have HS7 := Lib.hid S7
      have HR7 := Lib.hid R7
      clear S7 R7
      go_loopw [9] (fun nv wr => ∃ (k a : Nat) (lf : Int) (er : Nat) (sv : Value) (xs : List Value), nv = .int .u64 k ∧ TuS w p r0 (.slice ba n cap) k a lf er sv xs wr ∧ TuR RES n F r0 k a lf er sv xs wr) (fun nv _ => (intOf nv).toNat)
      case atStart => exact ⟨mm, nx, _, 0, _, [], rfl, HS7.out, HR7.out⟩
      case round =>
        obtain ⟨k, a, lf, er, sv, xs, rfl, hs, hrr⟩ := hrel
        obtain ⟨g, cg, rfl⟩ : ∃ g cg, sv = Value.slice g xs.length cg := by
          rcases hs.own.2 with ⟨e, h0⟩ | ⟨g, cap, cur, q1, _⟩
          · exact ⟨none, 0, by rw [e, h0]⟩
          · exact ⟨_, cap, q1⟩
        have c3 := hs.g.cell 3
        have clt := hs.g.lt
        have t0 := hs.t.cell 0
        have t1 := hs.t.cell 1
        have t2 := hs.t.cell 2
        have t3 := hs.t.cell 3
        have tf := fun o => hs.t.free o
        have tlt := hs.t.lt
        by_cases hgo : 0 < k ∧ er = 0
        · obtain ⟨hk, rfl⟩ := hgo
          obtain ⟨lfn, acc, rfl, hl2, ha2, hgv, hpr⟩ : ∃ (lfn : Nat) (acc : List V), lf = (lfn : Nat) ∧ lfn ≤ 256 ∧ a ≤ n ∧ Va.gvN F k a lfn acc = RES ∧ Prs r0 wr (.slice g xs.length cg) acc xs := by
            rcases hrr with ⟨_, h⟩ | ⟨h, _⟩
            · exact h
            · exact absurd rfl h
          have hdr : Below wr.heap.size wr wr.drew := (Below.refl wr.heap.size wr).drew
          have CIr := Lib.hid (CI'.out a lfn wr.drew (hs.g.below hdr) (grown_below hs.gr hdr) ha2 hl2)
          have hk1 : k - 1 + 1 = k := by omega
          have HS := Lib.hid (show TuS w p r0 (.slice ba n cap) (k - 1 + 1) a lfn 0 (.slice g xs.length cg) xs wr.drew by rw [hk1]; exact hs.past hdr)
          have HP := Lib.hid (hpr.past hdr)
          have HGV := Lib.hid hgv
          have HTO := Lib.hid (HTOLD.out a lfn ha2)
          have hpos : (0 : Int) < (k : Int) := by omega
          have hxl : xs.length < 256 := by have := hs.len; omega
          have hku : (k : Int) ≤ 256 := by have := hs.len; omega
          clear hs hrr hgv hpr hk1 hdr
          go_wp2_with fail
          have hwr : IntKind.i64.wrap ((lv : Int) - 1) = (lv : Int) - 1 := IntWalk.i64_in _ (by omega)
          refine wp_region_T_drew (fun w' => w'.cell? ⟨r0, 3, none⟩ = some (.slice g xs.length cg)) 9 (by kernel_rfl) t3 (fun hS => ?_)
          refine wpAnyT_take 0 rfl (by kernel_rfl) (by kernel_rfl) (by decide) (by kernel_rfl) (by kernel_rfl) (fun _ _ _ h => h) hS (by kernel_rfl) (v := ?_) ?_ ?_
          rotate_left
          · intro w' hSw; (try dsimp only at hSw); go_simp; (try with_reducible rfl)
          simp only [Act.put, List.setIfInBounds_toArray, List.set_cons_zero, List.set_cons_succ]
          refine wpAnyT_take 1 rfl (by kernel_rfl) (by kernel_rfl) (by decide) (by kernel_rfl) (by kernel_rfl) (fun _ _ _ h => h) hS (by kernel_rfl) (v := ?_) ?_ ?_
          rotate_left
          · intro w' hSw; (try dsimp only at hSw); go_simp; (try with_reducible rfl)
          simp only [Act.put, List.setIfInBounds_toArray, List.set_cons_zero, List.set_cons_succ]
          refine wpAnyT_take 2 rfl (by kernel_rfl) (by kernel_rfl) (by decide) (by kernel_rfl) (by kernel_rfl) (fun _ _ _ h => h) hS (by kernel_rfl) (v := ?_) ?_ ?_
          rotate_left
          · intro w' hSw; (try dsimp only at hSw); go_simp; (try with_reducible rfl)
          simp only [Act.put, List.setIfInBounds_toArray, List.set_cons_zero, List.set_cons_succ]
          refine wpAnyT_take 3 rfl (by kernel_rfl) (by kernel_rfl) (by decide) (by kernel_rfl) (by kernel_rfl) (fun _ _ _ h => h) hS (by kernel_rfl) (v := ?_) ?_ ?_
          rotate_left
          · intro w' hSw; (try dsimp only at hSw); go_simp; (try with_reducible rfl)
          simp only [Act.put, List.setIfInBounds_toArray, List.set_cons_zero, List.set_cons_succ]
          refine wpAnyT_take 4 rfl (by kernel_rfl) (by kernel_rfl) (by decide) (by kernel_rfl) (by kernel_rfl) (fun _ _ _ h => h) hS (by kernel_rfl) (v := ?_) ?_ ?_
          rotate_left
          · intro w' hSw; (try dsimp only at hSw); go_simp; (try with_reducible rfl)
          simp only [Act.put, List.setIfInBounds_toArray, List.set_cons_zero, List.set_cons_succ]
          refine wpAnyT_one 5 (by kernel_rfl) rfl (by kernel_rfl) (fun K hK => ?_)
          go_simp
          (try rw [hwr])
          clear hwr
          with_reducible refine (CIr.out).mono ?_
          rintro e w5 ⟨kk, nn, s5, b5, m5, c5, a5, lf5, er5, rfl, hg5, hr5, hres⟩
          have T5 := HS.out.t.kept hr5 hnr
          have hS := T5.cell 3
          have O5 : w5.ownsRow (r0 + 1) 25 4 (.slice g xs.length cg) xs.length (vcs xs) := World.ownsRow.kept HS.out.own hr5 (by
            cases hv : Value.ownBlock (.slice g xs.length cg) with
            | none => exact Or.inl rfl
            | some j => exact Or.inr (fun e => by cases e; have := (HS.out.own.lt _ hv).1; omega))
          have HG5' := Lib.hid hg5
          have HR5' := Lib.hid hr5
          have HRES5 := Lib.hid hres
          have hsz5 : r0 + 1 ≤ w5.heap.size := T5.lt
          have HT5' := Lib.hid T5
          clear hg5 hr5 hres T5
          refine hK _ _ (fun _ => hS) ?_
          clear hK K
          refine wpAnyT_one 6 (by kernel_rfl) rfl (by kernel_rfl) (fun K hK => ?_)
          go_simp
          have hS := (HT5'.out.below ((Below.refl _ _).alloc (Nat.le_refl _) (.cells #[.int .u8 kk, .int .i64 nn, .string s5, .slice b5 m5 c5] 25))).cell 3
          refine hK _ _ (fun _ => hS) ?_
          clear hK K
          refine wpAnyT_one 7 (by kernel_rfl) rfl (by kernel_rfl) (fun K hK => ?_)
          obtain ⟨i0, hi0, hz0, hz1, hz2⟩ := info_parts Tryd.info_value
          refine op_append_gw _ (.tmp 142) (.tmp 147) 23 rfl (r0 + 1) 25 i0 _ 4 56 Tryd.underlying23 hi0 hz0 hz1 hz2 rfl (by decide) (.slice g xs.length cg) xs.length (vcs xs) rfl (O5.alloc _) ⟨w5.heap.size, 0, none⟩ 1 1 [.int .u8 kk, .int .i64 nn, .string s5, .slice b5 m5 c5] rfl rfl ?_ ?_ ?_ ?_ ?_ ?_
          · intro j u hj
            exact cells_new _ #[.int .u8 kk, .int .i64 nn, .string s5, .slice b5 m5 c5] _ _ rfl j u (by simpa using hj)
          · intro u hu; simp only [List.mem_cons, List.not_mem_nil, or_false] at hu; rcases hu with rfl | rfl | rfl | rfl <;> rfl
          · unfold maxLen; omega
          · omega
          · simp; omega
          intro v6 w6 hown6 hg6 hn6
          obtain ⟨g6, cap6, rfl⟩ : ∃ g6 cap6, v6 = Value.slice (some ⟨g6, 0, none⟩) (xs.length + 1) cap6 := by
            rcases hown6.2 with ⟨_, h0⟩ | ⟨g6, cap6, _, e6, _⟩
            · omega
            · exact ⟨g6, cap6, e6⟩
          have HST := Lib.hid (tu_step hr0 hpw HS.out HG5'.out HR5'.out hg6 hown6)
          have HRT := Lib.hid (tur_step hk HGV.out hl2 HTO.out hn HRES5.out (fun v hx => prs_step hr0 hpw HS.out HR5'.out hg6 hx HP.out))
          have T6 := Blk.kept (HT5'.out.below ((Below.refl _ _).alloc (Nat.le_refl _) (.cells #[.int .u8 kk, .int .i64 nn, .string s5, .slice b5 m5 c5] 25))) hg6.grown (fun e => by have := (O5.lt _ e.symm).1; omega)
          have hS := T6.cell 3
          have z3 := T6.cell 3
          have zf := fun o => T6.free o
          have zlt := T6.lt
          clear hown6 hg6 hn6 T6 hi0 hz0 hz1 hz2
          refine hK _ _ (fun _ => hS) ?_
          clear hK K
          refine wpAnyT_pure 8 rfl (by kernel_rfl) (by decide) (by kernel_rfl) (by kernel_rfl) (fun _ _ _ h => h) hS (by kernel_rfl) (v := ?_) ?_ ?_
          rotate_left
          · intro w'; go_simp; (try with_reducible rfl)
          simp only [Act.put, List.setIfInBounds_toArray, List.set_cons_zero, List.set_cons_succ]
          refine wpAnyT_one 9 (by kernel_rfl) rfl (by kernel_rfl) (fun K hK => ?_)
          go_simp
          refine hK _ _ (fun h => absurd rfl h) ?_
          clear hK K
          refine wpAnyT_done (by kernel_rfl) ?_
          clear hS z3 zf zlt t0 t1 t2 t3 tf tlt c3 clt O5
          go_wp2
          go_roundw
          case rel => exact ⟨k - 1, a5, lf5, er5, _, _, (by show Value.int .u64 ((k : Int) - 1) = Value.int .u64 ((k - 1 : Nat) : Int); congr 1; omega), HST.out, HRT.out⟩
          case measure => simp [intOf]; omega
        · have HS := Lib.hid hs
          have HRR2 := Lib.hid hrr
          have q0 := hs.q.cell 0
          have q1 := hs.q.cell 1
          have q2 := hs.q.cell 2
          have q3 := hs.q.cell 3
          have qf := fun o => hs.q.free o
          have qlt := hs.q.lt
          have c1 := hs.g.cell 1
          have cf := fun o => hs.g.free o
          clear hs hrr
          by_cases hk : k = 0
          · subst hk
            have HE := Lib.hid (tu_end hr0 (fun _ => rfl) HS.out HRR2.out)
            go_wp2
            have QF := ((((HS.out.q.kept (grown_set (grown_refl wr (some p)) 1 (.int .i64 (a : Int))) hne).set 0 (.int .u8 4)).set 1 (.int .i64 0)).set 2 (.string ⟨#[]⟩)).set 3 (.slice g xs.length cg)
            have GF := ret_gv0 (HS.out.g.set 1 (.int .i64 (a : Int))) (grown_set HS.out.gr 1 (.int .i64 (a : Int))) hpw (Nat.le_refl w.heap.size) (.int .u8 4) (.int .i64 0) (.string ⟨#[]⟩) (.slice g xs.length cg)
            (try simp only [Exit.inBlock, Exit.then])
            refine bodyPost_ret (results_cell_row rfl _ _ w.heap.size 25 _ (0, 0) _ rfl QF Tryd.underlying25 rfl (by kernel_rfl)) rfl ?_
            rcases HE.out with ⟨he, h1⟩ | ⟨he, acc, lfn, g', cap', h1, hlf, hsv, hrl⟩
            · have hRe : R = .error er := by rw [HRR.out, h1]; simp [hm, tupled]
              rw [hRe]
              exact ⟨4, 0, ⟨#[]⟩, g, xs.length, cg, a, lf, rfl, he, GF.1, GF.2⟩
            · have hRe : R = .ok (.mk 4 0 Va.em acc, a, lfn) := by rw [HRR.out, h1]; simp [hm, tupled]
              rw [hRe]
              subst he
              subst hlf
              injection hsv with e1 e2 e3
              subst e1
              subst e3
              rw [e2] at GF ⊢
              exact ⟨_, rfl, RV.mk' (ok := fun b => w.heap.size ≤ b) (k := 4) (l := acc) (s := Va.em) (by decide) (by unfold Va.I64; omega) (by decide) (rl_ret hrl hpw hr0 _ _ _ _ _), GF.1, GF.2⟩
          · have hk' : (0 : Int) < (k : Int) := by omega
            have her : er ≠ 0 := fun e => hgo ⟨by omega, e⟩
            have he3 : ((er : Int) == 0) = false := bneI (by omega)
            have HE := Lib.hid (tu_end hr0 (fun e => absurd e her) HS.out HRR2.out)
            go_wp2
            have QF := ((((HS.out.q.kept (grown_set (grown_refl wr (some p)) 1 (.int .i64 (a : Int))) hne).set 0 (.int .u8 4)).set 1 (.int .i64 0)).set 2 (.string ⟨#[]⟩)).set 3 (.slice g xs.length cg)
            have GF := ret_gv0 (HS.out.g.set 1 (.int .i64 (a : Int))) (grown_set HS.out.gr 1 (.int .i64 (a : Int))) hpw (Nat.le_refl w.heap.size) (.int .u8 4) (.int .i64 0) (.string ⟨#[]⟩) (.slice g xs.length cg)
            (try simp only [Exit.inBlock, Exit.then])
            refine bodyPost_ret (results_cell_row rfl _ _ w.heap.size 25 _ (0, 0) _ rfl QF Tryd.underlying25 rfl (by kernel_rfl)) rfl ?_
            rcases HE.out with ⟨he, h1⟩ | ⟨he, acc, lfn, g', cap', h1, hlf, hsv, hrl⟩
            · have hRe : R = .error er := by rw [HRR.out, h1]; simp [hm, tupled]
              rw [hRe]
              exact ⟨4, 0, ⟨#[]⟩, g, xs.length, cg, a, lf, rfl, he, GF.1, GF.2⟩
            · have hRe : R = .ok (.mk 4 0 Va.em acc, a, lfn) := by rw [HRR.out, h1]; simp [hm, tupled]
              rw [hRe]
              subst he
              subst hlf
              injection hsv with e1 e2 e3
              subst e1
              subst e3
              rw [e2] at GF ⊢
              exact ⟨_, rfl, RV.mk' (ok := fun b => w.heap.size ≤ b) (k := 4) (l := acc) (s := Va.em) (by decide) (by unfold Va.I64; omega) (by decide) (rl_ret hrl hpw hr0 _ _ _ _ _), GF.1, GF.2⟩
  · have he2 : ((er : Int) != 0) = true := by rw [bne_iff_ne]; omega
    have he3 : ((er : Int) == 0) = false := bneI (by omega)
    have CF := Lib.hid (vfail_any p (.slice ba n cap) (at' + 1) ((left : Int) - 1) 0 er er rfl W6 HV6.out)
    rw [if_pos rfl] at CF
    go_wp2_with fail
    refine (CF.out).mono ?_
    rintro e w8 ⟨rfl, hg6, hr6⟩
    have T8 := HT6.out.kept hr6 hnr
    have Q8 := HQ6.out.kept hr6 hne
    clear t0 t1 t2 t3 tlt y1 yf ylt q0 q1 q2 q3 qf qlt
    have v0 := T8.cell 0
    have v1 := T8.cell 1
    have v2 := T8.cell 2
    have v3 := T8.cell 3
    have vlt := T8.lt
    have q0 := Q8.cell 0
    have q1 := Q8.cell 1
    have q2 := Q8.cell 2
    have q3 := Q8.cell 3
    have qf := fun o => Q8.free o
    have qlt := Q8.lt
    have c1 := hg6.cell 1
    have cf := fun o => hg6.free o
    have hlt6 := hg6.lt
    have HG8 := Lib.hid (grown_set (grown_trans HG6.out hr6) 1 (.int .i64 (nx : Int)))
    have HV8 : Hid (Gv (w8.setCell ⟨p, 1, none⟩ (.int .i64 (nx : Int))) p (.slice ba n cap) nx ((left : Int) - 1) er) := Lib.hid (hg6.set 1 (.int .i64 (nx : Int)))
    have HQ8 := Lib.hid (Q8.kept (grown_set (grown_refl w8 (some p)) 1 (.int .i64 (nx : Int))) hne)
    clear hg6 hr6 T8 Q8
    go_wp2
    have QF := (((HQ8.out.set 0 (.int .u8 4)).set 1 (.int .i64 0)).set 2 (.string ⟨#[]⟩)).set 3 (.slice none 0 0)
    have GF := ret_gv0 HV8.out HG8.out hpw (Nat.le_refl w.heap.size) (.int .u8 4) (.int .i64 0) (.string ⟨#[]⟩) (.slice none 0 0)
    (try simp only [Exit.inBlock, Exit.then])
    refine bodyPost_ret (results_cell_row rfl _ _ w.heap.size 25 _ (0, 0) _ rfl QF Tryd.underlying25 rfl (by kernel_rfl)) rfl ?_
    have hRe : R = .error er := by rw [HRR.out]; simp [he]
    rw [hRe]
    exact ⟨4, 0, ⟨#[]⟩, none, 0, 0, nx, _, rfl, he, GF.1, GF.2⟩
end Go.Proofs.YtgamhgeiceakeaaDoor
