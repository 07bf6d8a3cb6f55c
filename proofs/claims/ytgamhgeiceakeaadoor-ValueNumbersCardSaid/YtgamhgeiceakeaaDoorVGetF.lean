/- package value: the getter's value, by contract: bytes. -/
import Derived.Test.YtgamhgeiceakeaaDoorVGetE
set_option linter.unusedVariables false
set_option linter.unusedSimpArgs false
namespace Go.Proofs.YtgamhgeiceakeaaDoor
open Go.RowKit
open Va (V)
theorem conv_rd {w : World} {ba : Option Addr} {n cap : Nat} {l : List UInt8} (hn : l.length = n) (hr : Rd w ba l) (hb : ba = none → n = 0) :
    (convert 26 9 (.slice ba n cap)).run Tryd.prog w = .ok (.string ⟨l.toArray⟩) w := by
  subst hn
  cases ba with
  | none =>
    have h0 := hb rfl
    obtain rfl : l = [] := List.eq_nil_of_length_eq_zero h0
    exact run_convert_bytes_nil w 26 5 Tryd.underlying26 Tryd.underlying5 0 cap 9 Tryd.underlying9
  | some a =>
    refine run_convert_bytes_back w 26 9 5 a cap l Tryd.underlying26 Tryd.underlying5 Tryd.underlying9 fun j hj => ?_
    rcases hr with h | ⟨b, o, e, hlt, hc⟩
    · rw [h] at hj; simp at hj
    · cases e; rw [addPl]; exact hc j hj
theorem Ow.rd {w : World} {B : Nat} {v : Value} {l : List UInt8} (h : Ow w B v l) : ∃ ba cap, v = .slice ba l.length cap ∧ Rd w ba l ∧ (ba = none → l.length = 0) ∧ l.length ≤ cap := by
  rcases h.2 with ⟨rfl, h0⟩ | ⟨g, cap, cur, rfl, hb, hg, hcap, _⟩
  · exact ⟨none, 0, by rw [h0], Or.inl (List.eq_nil_of_length_eq_zero h0), fun _ => h0, by omega⟩
  · refine ⟨_, cap, rfl, Or.inr ⟨g, 0, rfl, (Array.getElem?_eq_some_iff.1 hg).1, fun i hi => ?_⟩, (fun e => by cases e), hcap⟩
    have := h.cells (g := g) rfl i (.int .u8 (l[i].toNat : Nat)) (by unfold u8s; simp [hi])
    rw [addPl] at this; exact this
theorem getBlob_len {n : Nat} (most : Nat) (l : List UInt8) (at' : Nat) (hmx : n ≤ 1099511627776) (hn : l.length = n) : (By.getBlob most (l.drop at')).1.length ≤ 1099511627776 := by
  unfold By.getBlob
  split
  · simp
  · split
    · simp
    · split
      · simp
      · simp only [List.length_take, List.length_drop]; omega
set_option maxHeartbeats 3200000 in
set_option maxRecDepth 100000 in
theorem value_blob (p : Nat) (ba : Option Addr) (n cap : Nat) (l : List UInt8) (at' left lv : Nat) (w : World) (hg : Gv w p (.slice ba n cap) at' left 0) (hn : l.length = n) (hr : Rd w ba l) (hp : l ≠ [] → ∀ b o, ba = some (⟨b, o, none⟩ : Addr) → b ≠ p) (ha : at' < n) (hmx : n ≤ 1099511627776) (hl0 : 1 ≤ left) (hlv0 : 1 ≤ lv) (hl : left ≤ 256) (hlv : lv ≤ 16)
    (hb0 : ba = none → n = 0) (hnc : n ≤ cap) (d : List UInt8) (c er : Nat) (hgb : By.getBlob 4096 (l.drop (at' + 1)) = (d, c, er)) (R : Va.Rs)
    (hx : (l[at']'(hn ▸ ha)).toNat = 3 ∧ R = if er ≠ 0 then .error er else .ok (.mk 3 0 ⟨d.toArray⟩ [], at' + 1 + c, left - 1)) :
    Calls Tryd.prog 32 #[.pointer (some ⟨p, 0, none⟩), .int .i64 lv] w (VaPost p (.slice ba n cap) R w) := by
  obtain ⟨nx, hnx⟩ : ∃ nx : Nat, nx = if er = 0 then at' + 1 + c else 0 := ⟨_, rfl⟩
  have hdl : d.length ≤ 1099511627776 := by
    have h1 : d = (By.getBlob 4096 (l.drop (at' + 1))).1 := by rw [hgb]
    rw [h1]
    exact getBlob_len 4096 l (at' + 1) hmx hn
  have CB : Hid (∀ W, Rd W ba l → Calls Tryd.prog 46 #[.slice ba n cap, .int .i64 ((at' : Int) + 1), .int .i64 4096] W fun e W' => ∃ b2 c2, e = .returned (.tuple #[.slice b2 d.length c2, .int .i64 nx, .int .i64 er]) ∧ (convert 26 9 (.slice b2 d.length c2)).run Tryd.prog W' = .ok (.string ⟨d.toArray⟩) W' ∧ Below W.heap.size W W') := Lib.hid fun W h => (getBlob_any ba n cap l (at' + 1) 4096 W hn h hb0 (by omega) hnc hmx (by decide)).mono fun e W' hp => by
    unfold GbPost at hp
    rw [hgb] at hp
    obtain ⟨v', he, ho, hb⟩ := hp
    obtain ⟨b2, c2, rfl, h1, h2, _⟩ := ho.rd
    exact ⟨b2, c2, by rw [he, hnx], conv_rd rfl h1 h2, hb⟩
  have hd : d.length ≤ maxLen := by unfold maxLen; omega
  have HD := Lib.hid hd
  have HNX := Lib.hid hnx
  clear hgb hnx hb0 hnc hd hdl
  replace hx := Lib.hid hx
  have hsz : (w.setCell ⟨p, 2, none⟩ (.int .i64 ((left : Int) - 1))).heap.size = w.heap.size := by simp
  have B1 : Gv ((w.setCell ⟨p, 2, none⟩ (.int .i64 ((left : Int) - 1))).alloc (.cells #[.int .u8 0, .int .i64 0, .string ⟨#[]⟩, .slice none 0 0] 25)) p (.slice ba n cap) at' ((left : Int) - 1) 0 := (hg.set 2 _).below ((Below.refl _ _).alloc (Nat.le_refl _) _)
  have Q1 := Blk.new (w.setCell ⟨p, 2, none⟩ (.int .i64 ((left : Int) - 1))) #[.int .u8 0, .int .i64 0, .string ⟨#[]⟩, .slice none 0 0] 25
  rw [hsz] at Q1
  have G1 : w.grownBy ((w.setCell ⟨p, 2, none⟩ (.int .i64 ((left : Int) - 1))).alloc (.cells #[.int .u8 0, .int .i64 0, .string ⟨#[]⟩, .slice none 0 0] 25)) (some p) := grown_below (grown_set (grown_refl _ _) _ _) ((Below.refl _ _).alloc (Nat.le_refl _) _)
  have hpw : p < w.heap.size := hg.lt
  clear hsz
  have c2 := hg.cell 2
  have hf := fun o => hg.free o
  have hlt := hg.lt
  clear hg
  go_enter Tryd.func32, Tryd.ntmps32
  go_upto_region 2 with (fail)
  clear c2 hf hlt
  generalize (w.setCell ⟨p, 2, none⟩ (.int .i64 ((left : Int) - 1))).alloc (.cells #[.int .u8 0, .int .i64 0, .string ⟨#[]⟩, .slice none 0 0] 25) = W1 at B1 Q1 G1 ⊢
  have hne : some w.heap.size ≠ some p := fun e => by have := Option.some.inj e; omega
  have CO := Lib.hid (one_yes p ba n cap l at' ((left : Int) - 1) W1 B1 hn (rd_grown hr G1 hp) hp ha hmx)
  have b2 := B1.cell 2
  have hlt1 := B1.lt
  have HQ1 := Lib.hid Q1
  have HG1 := Lib.hid G1
  have hz : ((lv : Int) == 0) = false := bneI (by omega)
  have hpos : (1 : Int) ≤ (left : Int) := by omega
  have HR := Lib.hid (fun W (g : w.grownBy W (some p)) => rd_grown hr g hp)
  generalize l[at']'(hn ▸ ha) = x at CO hx
  have hx8 : x.toNat < 256 := x.toNat_lt
  generalize hxk : x.toNat = k at CO hx hx8
  clear B1 Q1 G1 hr
  go_wp2_with fail
  refine (CO.out).mono ?_
  rintro e w3 ⟨rfl, hg3, hr3⟩
  have HGV := Lib.hid hg3
  have Q3 := HQ1.out.kept hr3 hne
  have HG3 := Lib.hid (grown_trans HG1.out hr3)
  have hs3 : w.heap.size ≤ w3.heap.size := HG3.out.size
  have HQ3 := Lib.hid Q3
  have c3 := hg3.cell 3
  have c1 := hg3.cell 1
  have hlt3 := hg3.lt
  clear hg3 hr3 CO Q3 b2 hlt1
  go_wp2_with fail
  have T4 := Blk.new w3 #[.int .u8 k, .int .i64 0, .string ⟨#[]⟩, .slice none 0 0] 25
  have hal : Below w3.heap.size w3 (w3.alloc (.cells #[.int .u8 k, .int .i64 0, .string ⟨#[]⟩, .slice none 0 0] 25)) := (Below.refl _ _).alloc (Nat.le_refl _) _
  have GV4 : Gv _ p (.slice ba n cap) (at' + 1) ((left : Int) - 1) 0 := HGV.out.below hal
  have Q4 := HQ3.out.below hal
  have G4 := grown_below HG3.out hal
  have hr0 : w.heap.size < w3.heap.size := HQ3.out.lt
  clear HGV HQ3 HG3 c3 c1 hlt3 hal hs3
  generalize w3.alloc (.cells #[.int .u8 k, .int .i64 0, .string ⟨#[]⟩, .slice none 0 0] 25) = W4 at T4 GV4 Q4 G4 ⊢
  generalize w3.heap.size = r0 at T4 hr0 ⊢
  have d1 := GV4.cell 1
  have hlt4 := GV4.lt
  have HF := Lib.hid (fun k => (⟨T4.below (belowN (Below.refl W4.heap.size W4) k), GV4.below (belowN (Below.refl W4.heap.size W4) k), Q4.below (belowN (Below.refl W4.heap.size W4) k), grown_trans G4 (drewN_grown W4 k _)⟩ : _ ∧ _ ∧ _ ∧ _))
  clear T4 GV4 Q4 G4
  go_quiet (fail)
  obtain ⟨T5, GV5, Q5, G5⟩ := HF.out nq
  clear HF d1 hlt4
  generalize W4.drewN nq = W5 at T5 GV5 Q5 G5 ⊢
  have t0 := T5.cell 0
  have t1 := T5.cell 1
  have t2 := T5.cell 2
  have t3 := T5.cell 3
  have tlt := T5.lt
  have HT5 := Lib.hid T5
  have HV5 := Lib.hid GV5
  have HQ5 := Lib.hid Q5
  have HG5 := Lib.hid G5
  have hnr : some r0 ≠ some p := fun e => by have := Option.some.inj e; omega
  clear T5 GV5 Q5 G5
  obtain ⟨hK, hR⟩ := hx.out
  clear hx
  have HRR := Lib.hid hR
  clear hR
  have HR5 := Lib.hid (HR.out W5 HG5.out)
  have y0 := HV5.out.cell 0
  have y1 := HV5.out.cell 1
  have hlt5 := HV5.out.lt
  subst hK
  go_wp2_with fail
  refine wp_region_T_drew (fun w' => w'.cell? ⟨p, 0, none⟩ = some (.slice ba n cap) ∧ w'.cell? ⟨p, 1, none⟩ = some (.int .i64 ((at' : Int) + 1))) 16 (by kernel_rfl) ⟨y0, y1⟩ (fun hS => ?_)
  refine wpAnyT_take 0 rfl (by kernel_rfl) (by kernel_rfl) (by decide) (by kernel_rfl) (by kernel_rfl) (fun _ _ _ h => h) hS (by kernel_rfl) (v := ?_) ?_ ?_
  rotate_left
  · intro w' hSw; (try dsimp only at hSw); go_simp; (try with_reducible rfl)
  simp only [Act.put, List.setIfInBounds_toArray, List.set_cons_zero, List.set_cons_succ]
  refine wpAnyT_take 1 rfl (by kernel_rfl) (by kernel_rfl) (by decide) (by kernel_rfl) (by kernel_rfl) (fun _ _ _ h => h) hS (by kernel_rfl) (v := ?_) ?_ ?_
  rotate_left
  · intro w' hSw; (try dsimp only at hSw); go_simp; (try with_reducible rfl)
  simp only [Act.put, List.setIfInBounds_toArray, List.set_cons_zero, List.set_cons_succ]
  refine wpAnyT_take 2 rfl (by kernel_rfl) (by kernel_rfl) (by decide) (by kernel_rfl) (by kernel_rfl) (fun _ _ _ h => h) hS (by kernel_rfl) (v := ?_) ?_ ?_
  rotate_left
  · intro w' hSw; (try dsimp only at hSw); go_simp; (try with_reducible rfl)
  simp only [Act.put, List.setIfInBounds_toArray, List.set_cons_zero, List.set_cons_succ]
  refine wpAnyT_take 3 rfl (by kernel_rfl) (by kernel_rfl) (by decide) (by kernel_rfl) (by kernel_rfl) (fun _ _ _ h => h) hS (by kernel_rfl) (v := ?_) ?_ ?_
  rotate_left
  · intro w' hSw; (try dsimp only at hSw); go_simp; (try with_reducible rfl)
  simp only [Act.put, List.setIfInBounds_toArray, List.set_cons_zero, List.set_cons_succ]
  refine wpAnyT_take 4 rfl (by kernel_rfl) (by kernel_rfl) (by decide) (by kernel_rfl) (by kernel_rfl) (fun _ _ _ h => h) hS (by kernel_rfl) (v := ?_) ?_ ?_
  rotate_left
  · intro w' hSw; (try dsimp only at hSw); go_simp; (try with_reducible rfl)
  simp only [Act.put, List.setIfInBounds_toArray, List.set_cons_zero, List.set_cons_succ]
  refine wpAnyT_take 5 rfl (by kernel_rfl) (by kernel_rfl) (by decide) (by kernel_rfl) (by kernel_rfl) (fun _ _ _ h => h) hS (by kernel_rfl) (v := ?_) ?_ ?_
  rotate_left
  · intro w' hSw; (try dsimp only at hSw); go_simp; (try with_reducible rfl)
  simp only [Act.put, List.setIfInBounds_toArray, List.set_cons_zero, List.set_cons_succ]
  refine wpAnyT_take 6 rfl (by kernel_rfl) (by kernel_rfl) (by decide) (by kernel_rfl) (by kernel_rfl) (fun _ _ _ h => h) hS (by kernel_rfl) (v := ?_) ?_ ?_
  rotate_left
  · intro w' hSw; (try dsimp only at hSw); go_simp; (try with_reducible rfl)
  simp only [Act.put, List.setIfInBounds_toArray, List.set_cons_zero, List.set_cons_succ]
  refine wpAnyT_take 7 rfl (by kernel_rfl) (by kernel_rfl) (by decide) (by kernel_rfl) (by kernel_rfl) (fun _ _ _ h => h) hS (by kernel_rfl) (v := ?_) ?_ ?_
  rotate_left
  · intro w' hSw; (try dsimp only at hSw); go_simp; (try with_reducible rfl)
  simp only [Act.put, List.setIfInBounds_toArray, List.set_cons_zero, List.set_cons_succ]
  refine wpAnyT_one 8 (by kernel_rfl) rfl (by kernel_rfl) (fun K hK => ?_)
  go_simp
  refine (CB.out _ (HR5.out.below ((Below.refl _ _).drew))).mono ?_
  rintro e w6 ⟨b2, c2, rfl, hcv, hb6⟩
  have hb7 : Below W5.heap.size W5 w6 := ((Below.refl W5.heap.size W5).drew).trans hb6
  have HCV := Lib.hid hcv
  have V6 := HV5.out.below hb7
  have T6 := HT5.out.below hb7
  have Q6 := HQ5.out.below hb7
  have G6 := grown_below HG5.out hb7
  have hS : _ ∧ _ := ⟨V6.cell 0, V6.cell 1⟩
  have HV6 := Lib.hid V6
  have HT6 := Lib.hid T6
  have HQ6 := Lib.hid Q6
  have HG6 := Lib.hid G6
  clear V6 T6 Q6 G6 hb7 hb6 hcv
  refine hK _ _ (fun _ => hS) ?_
  clear hK K
  refine wpAnyT_take 9 rfl (by kernel_rfl) (by kernel_rfl) (by decide) (by kernel_rfl) (by kernel_rfl) (fun _ _ _ h => h) hS (by kernel_rfl) (v := ?_) ?_ ?_
  rotate_left
  · intro w' hSw; (try dsimp only at hSw); go_simp; (try with_reducible rfl)
  simp only [Act.put, List.setIfInBounds_toArray, List.set_cons_zero, List.set_cons_succ]
  refine wpAnyT_take 10 rfl (by kernel_rfl) (by kernel_rfl) (by decide) (by kernel_rfl) (by kernel_rfl) (fun _ _ _ h => h) hS (by kernel_rfl) (v := ?_) ?_ ?_
  rotate_left
  · intro w' hSw; (try dsimp only at hSw); go_simp; (try with_reducible rfl)
  simp only [Act.put, List.setIfInBounds_toArray, List.set_cons_zero, List.set_cons_succ]
  refine wpAnyT_take 11 rfl (by kernel_rfl) (by kernel_rfl) (by decide) (by kernel_rfl) (by kernel_rfl) (fun _ _ _ h => h) hS (by kernel_rfl) (v := ?_) ?_ ?_
  rotate_left
  · intro w' hSw; (try dsimp only at hSw); go_simp; (try with_reducible rfl)
  simp only [Act.put, List.setIfInBounds_toArray, List.set_cons_zero, List.set_cons_succ]
  refine wpAnyT_take 12 rfl (by kernel_rfl) (by kernel_rfl) (by decide) (by kernel_rfl) (by kernel_rfl) (fun _ _ _ h => h) hS (by kernel_rfl) (v := ?_) ?_ ?_
  rotate_left
  · intro w' hSw; (try dsimp only at hSw); go_simp; (try with_reducible rfl)
  simp only [Act.put, List.setIfInBounds_toArray, List.set_cons_zero, List.set_cons_succ]
  refine wpAnyT_one 13 (by kernel_rfl) rfl (by kernel_rfl) (fun K hK => ?_)
  go_simp
  refine hK _ _ (fun _ => hS) ?_
  clear hK K
  refine wpAnyT_one 14 (by kernel_rfl) rfl (by kernel_rfl) (fun K hK => ?_)
  go_simp
  refine hK _ _ (fun _ => hS) ?_
  clear hK K
  refine wpAnyT_one 15 (by kernel_rfl) rfl (by kernel_rfl) (fun K hK => ?_)
  go_simp
  refine hK _ _ (fun _ => hS) ?_
  clear hK K
  refine wpAnyT_done (by kernel_rfl) ?_
  clear hS y0 y1 hlt5 t0 t1 t2 t3 tlt HR5 CB
  have t0 := HT6.out.cell 0
  have t1 := HT6.out.cell 1
  have t2 := HT6.out.cell 2
  have t3 := HT6.out.cell 3
  have tf := fun o => HT6.out.free o
  have tlt := HT6.out.lt
  have y1 := HV6.out.cell 1
  have yf := fun o => HV6.out.free o
  have ylt := HV6.out.lt
  have q0 := HQ6.out.cell 0
  have q1 := HQ6.out.cell 1
  have q2 := HQ6.out.cell 2
  have q3 := HQ6.out.cell 3
  have qf := fun o => HQ6.out.free o
  have qlt := HQ6.out.lt
  have kcv := HCV.out
  by_cases he : er = 0
  · subst he
    have G8 := Lib.hid (grown_set (grown_fresh HG6.out hr0 2 (.string ⟨d.toArray⟩)) 1 (.int .i64 (nx : Int)))
    have V7 : Gv (w6.setCell ⟨r0, 2, none⟩ (.string ⟨d.toArray⟩)) p (.slice ba n cap) (at' + 1) ((left : Int) - 1) 0 := Blk.kept HV6.out (grown_set (grown_refl w6 (some r0)) 2 (.string ⟨d.toArray⟩)) (fun e => hnr e.symm)
    have V8 : Hid (Gv ((w6.setCell ⟨r0, 2, none⟩ (.string ⟨d.toArray⟩)).setCell ⟨p, 1, none⟩ (.int .i64 (nx : Int))) p (.slice ba n cap) nx ((left : Int) - 1) 0) := Lib.hid (V7.set 1 (.int .i64 (nx : Int)))
    have Q8 := Lib.hid ((HQ6.out.kept (grown_set (grown_refl w6 (some r0)) 2 (.string ⟨d.toArray⟩)) (fun e => by have := Option.some.inj e; omega)).kept (grown_set (grown_refl (w6.setCell ⟨r0, 2, none⟩ (.string ⟨d.toArray⟩)) (some p)) 1 (.int .i64 (nx : Int))) hne)
    clear V7
    go_wp2
    have QF := (((Q8.out.set 0 (.int .u8 3)).set 1 (.int .i64 0)).set 2 (.string ⟨d.toArray⟩)).set 3 (.slice none 0 0)
    have GF := ret_gv0 V8.out G8.out hpw (Nat.le_refl w.heap.size) (.int .u8 3) (.int .i64 0) (.string ⟨d.toArray⟩) (.slice none 0 0)
    (try simp only [Exit.inBlock, Exit.then])
    refine bodyPost_ret (results_cell_row rfl _ _ w.heap.size 25 _ (0, 0) _ rfl QF Tryd.underlying25 rfl (by kernel_rfl)) rfl ?_
    have hRe : R = .ok (.mk 3 0 ⟨d.toArray⟩ [], nx, left - 1) := by rw [HRR.out, HNX.out]; simp
    rw [hRe]
    have hl1 : ((left - 1 : Nat) : Int) = (left : Int) - 1 := by omega
    refine ⟨_, rfl, RV.mk' (ok := fun b => w.heap.size ≤ b) (k := 3) (l := []) (ba := none) (cap := 0) (s := ⟨d.toArray⟩) (by decide) (by unfold Va.I64; omega) HD.out ⟨by simp, by simp [maxLen], fun _ => rfl, fun i hi => by simp at hi⟩, ?_, GF.2⟩
    rw [hl1]
    exact GF.1
  · have he2 : ((er : Int) != 0) = true := by rw [bne_iff_ne]; omega
    have G7 := grown_fresh HG6.out hr0 2 (.string ⟨d.toArray⟩)
    have V7 : Gv (w6.setCell ⟨r0, 2, none⟩ (.string ⟨d.toArray⟩)) p (.slice ba n cap) (at' + 1) ((left : Int) - 1) 0 := Blk.kept HV6.out (grown_set (grown_refl w6 (some r0)) 2 (.string ⟨d.toArray⟩)) (fun e => hnr e.symm)
    have Q7 := HQ6.out.kept (grown_set (grown_refl w6 (some r0)) 2 (.string ⟨d.toArray⟩)) (fun e => by have := Option.some.inj e; omega)
    have T7 := HT6.out.set 2 (.string ⟨d.toArray⟩)
    have CF := Lib.hid (vfail_any p (.slice ba n cap) (at' + 1) ((left : Int) - 1) 0 er er rfl _ V7)
    rw [if_pos rfl] at CF
    have HG7 := Lib.hid G7
    have HQ7 := Lib.hid Q7
    have HT7 := Lib.hid T7
    clear G7 V7 Q7 T7
    go_wp2_with fail
    refine (CF.out).mono ?_
    rintro e w8 ⟨rfl, hg6, hr6⟩
    have T8 := HT7.out.kept hr6 hnr
    have Q8 := HQ7.out.kept hr6 hne
    clear t0 t1 t2 t3 tf tlt y1 yf ylt q0 q1 q2 q3 qf qlt kcv
    have v0 := T8.cell 0
    have v1 := T8.cell 1
    have v2 := T8.cell 2
    have v3 := T8.cell 3
    have vlt := T8.lt
    have q0 := Q8.cell 0
    have q1 := Q8.cell 1
    have q2 := Q8.cell 2
    have q3 := Q8.cell 3
    have qf := fun o => Q8.free o
    have qlt := Q8.lt
    have c1 := hg6.cell 1
    have cf := fun o => hg6.free o
    have hlt6 := hg6.lt
    have HG8 := Lib.hid (grown_set (grown_trans HG7.out hr6) 1 (.int .i64 (nx : Int)))
    have HV8 : Hid (Gv (w8.setCell ⟨p, 1, none⟩ (.int .i64 (nx : Int))) p (.slice ba n cap) nx ((left : Int) - 1) er) := Lib.hid (hg6.set 1 (.int .i64 (nx : Int)))
    have HQ8 := Lib.hid (Q8.kept (grown_set (grown_refl w8 (some p)) 1 (.int .i64 (nx : Int))) hne)
    clear hg6 hr6 T8 Q8
    go_wp2
    have QF := (((HQ8.out.set 0 (.int .u8 3)).set 1 (.int .i64 0)).set 2 (.string ⟨d.toArray⟩)).set 3 (.slice none 0 0)
    have GF := ret_gv0 HV8.out HG8.out hpw (Nat.le_refl w.heap.size) (.int .u8 3) (.int .i64 0) (.string ⟨d.toArray⟩) (.slice none 0 0)
    (try simp only [Exit.inBlock, Exit.then])
    refine bodyPost_ret (results_cell_row rfl _ _ w.heap.size 25 _ (0, 0) _ rfl QF Tryd.underlying25 rfl (by kernel_rfl)) rfl ?_
    have hRe : R = .error er := by rw [HRR.out]; simp [he]
    rw [hRe]
    exact ⟨3, 0, ⟨d.toArray⟩, none, 0, 0, nx, _, rfl, he, GF.1, GF.2⟩
end Go.Proofs.YtgamhgeiceakeaaDoor
