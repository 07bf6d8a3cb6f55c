/- package value: the getter's value, by contract: truths. -/
import Derived.Test.YtgamhgeiceakeaaDoorVGetD
set_option linter.unusedVariables false
set_option linter.unusedSimpArgs false
namespace Go.Proofs.YtgamhgeiceakeaaDoor
open Go.RowKit
open Va (V)
set_option maxHeartbeats 3200000 in
set_option maxRecDepth 100000 in
theorem value_bool_end (p : Nat) (ba : Option Addr) (n cap : Nat) (l : List UInt8) (at' left lv : Nat) (w : World) (hg : Gv w p (.slice ba n cap) at' left 0) (hn : l.length = n) (hr : Rd w ba l) (hp : l ≠ [] → ∀ b o, ba = some (⟨b, o, none⟩ : Addr) → b ≠ p) (ha : at' < n) (hmx : n ≤ 1099511627776) (hl0 : 1 ≤ left) (hlv0 : 1 ≤ lv) (hl : left ≤ 256) (hlv : lv ≤ 16)
    (hx : (l[at']'(hn ▸ ha)).toNat = 2) (hend : at' + 1 = n) :
    Calls Tryd.prog 32 #[.pointer (some ⟨p, 0, none⟩), .int .i64 lv] w (VaPost p (.slice ba n cap) (.error 11) w) := by
  have HEND := Lib.hid hend
  clear hend
  replace hx := Lib.hid hx
  have hsz : (w.setCell ⟨p, 2, none⟩ (.int .i64 ((left : Int) - 1))).heap.size = w.heap.size := by simp
  have B1 : Gv ((w.setCell ⟨p, 2, none⟩ (.int .i64 ((left : Int) - 1))).alloc (.cells #[.int .u8 0, .int .i64 0, .string ⟨#[]⟩, .slice none 0 0] 25)) p (.slice ba n cap) at' ((left : Int) - 1) 0 := (hg.set 2 _).below ((Below.refl _ _).alloc (Nat.le_refl _) _)
  have Q1 := Blk.new (w.setCell ⟨p, 2, none⟩ (.int .i64 ((left : Int) - 1))) #[.int .u8 0, .int .i64 0, .string ⟨#[]⟩, .slice none 0 0] 25
  rw [hsz] at Q1
  have G1 : w.grownBy ((w.setCell ⟨p, 2, none⟩ (.int .i64 ((left : Int) - 1))).alloc (.cells #[.int .u8 0, .int .i64 0, .string ⟨#[]⟩, .slice none 0 0] 25)) (some p) := grown_below (grown_set (grown_refl _ _) _ _) ((Below.refl _ _).alloc (Nat.le_refl _) _)
  have hpw : p < w.heap.size := hg.lt
  clear hsz
  have c2 := hg.cell 2
  have hf := fun o => hg.free o
  have hlt := hg.lt
  clear hg
  go_enter Tryd.func32, Tryd.ntmps32
  go_upto_region 2 with (fail)
  clear c2 hf hlt
  generalize (w.setCell ⟨p, 2, none⟩ (.int .i64 ((left : Int) - 1))).alloc (.cells #[.int .u8 0, .int .i64 0, .string ⟨#[]⟩, .slice none 0 0] 25) = W1 at B1 Q1 G1 ⊢
  have hne : some w.heap.size ≠ some p := fun e => by have := Option.some.inj e; omega
  have CO := Lib.hid (one_yes p ba n cap l at' ((left : Int) - 1) W1 B1 hn (rd_grown hr G1 hp) hp ha hmx)
  have b2 := B1.cell 2
  have hlt1 := B1.lt
  have HQ1 := Lib.hid Q1
  have HG1 := Lib.hid G1
  have hz : ((lv : Int) == 0) = false := bneI (by omega)
  have hpos : (1 : Int) ≤ (left : Int) := by omega
  have HR := Lib.hid (fun W (g : w.grownBy W (some p)) => rd_grown hr g hp)
  generalize l[at']'(hn ▸ ha) = x at CO hx
  have hx8 : x.toNat < 256 := x.toNat_lt
  generalize hxk : x.toNat = k at CO hx hx8
  clear B1 Q1 G1 hr
  go_wp2_with fail
  refine (CO.out).mono ?_
  rintro e w3 ⟨rfl, hg3, hr3⟩
  have HGV := Lib.hid hg3
  have Q3 := HQ1.out.kept hr3 hne
  have HG3 := Lib.hid (grown_trans HG1.out hr3)
  have hs3 : w.heap.size ≤ w3.heap.size := HG3.out.size
  have HQ3 := Lib.hid Q3
  have c3 := hg3.cell 3
  have c1 := hg3.cell 1
  have hlt3 := hg3.lt
  clear hg3 hr3 CO Q3 b2 hlt1
  go_wp2_with fail
  have T4 := Blk.new w3 #[.int .u8 k, .int .i64 0, .string ⟨#[]⟩, .slice none 0 0] 25
  have hal : Below w3.heap.size w3 (w3.alloc (.cells #[.int .u8 k, .int .i64 0, .string ⟨#[]⟩, .slice none 0 0] 25)) := (Below.refl _ _).alloc (Nat.le_refl _) _
  have GV4 : Gv _ p (.slice ba n cap) (at' + 1) ((left : Int) - 1) 0 := HGV.out.below hal
  have Q4 := HQ3.out.below hal
  have G4 := grown_below HG3.out hal
  have hr0 : w.heap.size < w3.heap.size := HQ3.out.lt
  clear HGV HQ3 HG3 c3 c1 hlt3 hal hs3
  generalize w3.alloc (.cells #[.int .u8 k, .int .i64 0, .string ⟨#[]⟩, .slice none 0 0] 25) = W4 at T4 GV4 Q4 G4 ⊢
  generalize w3.heap.size = r0 at T4 hr0 ⊢
  have d1 := GV4.cell 1
  have hlt4 := GV4.lt
  have HF := Lib.hid (fun k => (⟨T4.below (belowN (Below.refl W4.heap.size W4) k), GV4.below (belowN (Below.refl W4.heap.size W4) k), Q4.below (belowN (Below.refl W4.heap.size W4) k), grown_trans G4 (drewN_grown W4 k _)⟩ : _ ∧ _ ∧ _ ∧ _))
  clear T4 GV4 Q4 G4
  go_quiet (fail)
  obtain ⟨T5, GV5, Q5, G5⟩ := HF.out nq
  clear HF d1 hlt4
  generalize W4.drewN nq = W5 at T5 GV5 Q5 G5 ⊢
  have t0 := T5.cell 0
  have t1 := T5.cell 1
  have t2 := T5.cell 2
  have t3 := T5.cell 3
  have tlt := T5.lt
  have HT5 := Lib.hid T5
  have HV5 := Lib.hid GV5
  have HQ5 := Lib.hid Q5
  have HG5 := Lib.hid G5
  have hnr : some r0 ≠ some p := fun e => by have := Option.some.inj e; omega
  clear T5 GV5 Q5 G5
  obtain rfl := hx.out
  clear hx
  have CO := Lib.hid (one_end p ba n cap ((left : Int) - 1) W5 (HEND.out ▸ HV5.out))
  go_wp2_with fail
  refine (CO.out).mono ?_
  rintro e w6 ⟨rfl, hg6, hr6⟩
  have T6 := HT5.out.kept hr6 hnr
  have Q6 := HQ5.out.kept hr6 hne
  clear t0 t1 t2 t3 tlt CO
  have v0 := T6.cell 0
  have v1 := T6.cell 1
  have v2 := T6.cell 2
  have v3 := T6.cell 3
  have vf := fun o => T6.free o
  have vlt := T6.lt
  have q0 := Q6.cell 0
  have q1 := Q6.cell 1
  have q2 := Q6.cell 2
  have q3 := Q6.cell 3
  have qf := fun o => Q6.free o
  have qlt := Q6.lt
  have c1 := hg6.cell 1
  have cf := fun o => hg6.free o
  have hlt6 := hg6.lt
  have G8 := Lib.hid (grown_set (grown_fresh (grown_trans HG5.out hr6) hr0 1 (.int .i64 0)) 1 (.int .i64 (n : Int)))
  have V7 : Gv (w6.setCell ⟨r0, 1, none⟩ (.int .i64 0)) p (.slice ba n cap) n ((left : Int) - 1) 11 := Blk.kept hg6 (grown_set (grown_refl w6 (some r0)) 1 (.int .i64 0)) (fun e => hnr e.symm)
  have V8 : Hid (Gv ((w6.setCell ⟨r0, 1, none⟩ (.int .i64 0)).setCell ⟨p, 1, none⟩ (.int .i64 (n : Int))) p (.slice ba n cap) n ((left : Int) - 1) 11) := Lib.hid (V7.set 1 (.int .i64 (n : Int)))
  have Q8 := Lib.hid ((Q6.kept (grown_set (grown_refl w6 (some r0)) 1 (.int .i64 0)) (fun e => by have := Option.some.inj e; omega)).kept (grown_set (grown_refl (w6.setCell ⟨r0, 1, none⟩ (.int .i64 0)) (some p)) 1 (.int .i64 (n : Int))) hne)
  clear hg6 hr6 T6 Q6 V7
  go_wp2
  have QF := (((Q8.out.set 0 (.int .u8 2)).set 1 (.int .i64 0)).set 2 (.string ⟨#[]⟩)).set 3 (.slice none 0 0)
  have GF := ret_gv0 V8.out G8.out hpw (Nat.le_refl w.heap.size) (.int .u8 2) (.int .i64 0) (.string ⟨#[]⟩) (.slice none 0 0)
  (try simp only [Exit.inBlock, Exit.then])
  refine bodyPost_ret (results_cell_row rfl _ _ w.heap.size 25 _ (0, 0) _ rfl QF Tryd.underlying25 rfl (by kernel_rfl)) rfl ?_
  exact ⟨2, 0, ⟨#[]⟩, none, 0, 0, n, _, rfl, by decide, GF.1, GF.2⟩
set_option maxHeartbeats 3200000 in
set_option maxRecDepth 100000 in
theorem value_bool_ok (p : Nat) (ba : Option Addr) (n cap : Nat) (l : List UInt8) (at' left lv : Nat) (w : World) (hg : Gv w p (.slice ba n cap) at' left 0) (hn : l.length = n) (hr : Rd w ba l) (hp : l ≠ [] → ∀ b o, ba = some (⟨b, o, none⟩ : Addr) → b ≠ p) (ha : at' < n) (hmx : n ≤ 1099511627776) (hl0 : 1 ≤ left) (hlv0 : 1 ≤ lv) (hl : left ≤ 256) (hlv : lv ≤ 16)
    (hx : (l[at']'(hn ▸ ha)).toNat = 2) (hend : at' + 1 < n) (hy : (l[at' + 1]'(hn ▸ hend)).toNat ≤ 1) :
    Calls Tryd.prog 32 #[.pointer (some ⟨p, 0, none⟩), .int .i64 lv] w (VaPost p (.slice ba n cap) (.ok (.mk 2 ((l[at' + 1]'(hn ▸ hend)).toNat : Nat) Va.em [], at' + 2, left - 1)) w) := by
  have C1 := Lib.hid (fun W (g : Gv W p (.slice ba n cap) (at' + 1) ((left : Int) - 1) 0) (r : Rd W ba l) => one_yes p ba n cap l (at' + 1) ((left : Int) - 1) W g hn r hp hend hmx)
  generalize (l[at' + 1]'(hn ▸ hend)).toNat = y at C1 hy ⊢
  replace hx := Lib.hid hx
  have hsz : (w.setCell ⟨p, 2, none⟩ (.int .i64 ((left : Int) - 1))).heap.size = w.heap.size := by simp
  have B1 : Gv ((w.setCell ⟨p, 2, none⟩ (.int .i64 ((left : Int) - 1))).alloc (.cells #[.int .u8 0, .int .i64 0, .string ⟨#[]⟩, .slice none 0 0] 25)) p (.slice ba n cap) at' ((left : Int) - 1) 0 := (hg.set 2 _).below ((Below.refl _ _).alloc (Nat.le_refl _) _)
  have Q1 := Blk.new (w.setCell ⟨p, 2, none⟩ (.int .i64 ((left : Int) - 1))) #[.int .u8 0, .int .i64 0, .string ⟨#[]⟩, .slice none 0 0] 25
  rw [hsz] at Q1
  have G1 : w.grownBy ((w.setCell ⟨p, 2, none⟩ (.int .i64 ((left : Int) - 1))).alloc (.cells #[.int .u8 0, .int .i64 0, .string ⟨#[]⟩, .slice none 0 0] 25)) (some p) := grown_below (grown_set (grown_refl _ _) _ _) ((Below.refl _ _).alloc (Nat.le_refl _) _)
  have hpw : p < w.heap.size := hg.lt
  clear hsz
  have c2 := hg.cell 2
  have hf := fun o => hg.free o
  have hlt := hg.lt
  clear hg
  go_enter Tryd.func32, Tryd.ntmps32
  go_upto_region 2 with (fail)
  clear c2 hf hlt
  generalize (w.setCell ⟨p, 2, none⟩ (.int .i64 ((left : Int) - 1))).alloc (.cells #[.int .u8 0, .int .i64 0, .string ⟨#[]⟩, .slice none 0 0] 25) = W1 at B1 Q1 G1 ⊢
  have hne : some w.heap.size ≠ some p := fun e => by have := Option.some.inj e; omega
  have CO := Lib.hid (one_yes p ba n cap l at' ((left : Int) - 1) W1 B1 hn (rd_grown hr G1 hp) hp ha hmx)
  have b2 := B1.cell 2
  have hlt1 := B1.lt
  have HQ1 := Lib.hid Q1
  have HG1 := Lib.hid G1
  have hz : ((lv : Int) == 0) = false := bneI (by omega)
  have hpos : (1 : Int) ≤ (left : Int) := by omega
  have HR := Lib.hid (fun W (g : w.grownBy W (some p)) => rd_grown hr g hp)
  generalize l[at']'(hn ▸ ha) = x at CO hx
  have hx8 : x.toNat < 256 := x.toNat_lt
  generalize hxk : x.toNat = k at CO hx hx8
  clear B1 Q1 G1 hr
  go_wp2_with fail
  refine (CO.out).mono ?_
  rintro e w3 ⟨rfl, hg3, hr3⟩
  have HGV := Lib.hid hg3
  have Q3 := HQ1.out.kept hr3 hne
  have HG3 := Lib.hid (grown_trans HG1.out hr3)
  have hs3 : w.heap.size ≤ w3.heap.size := HG3.out.size
  have HQ3 := Lib.hid Q3
  have c3 := hg3.cell 3
  have c1 := hg3.cell 1
  have hlt3 := hg3.lt
  clear hg3 hr3 CO Q3 b2 hlt1
  go_wp2_with fail
  have T4 := Blk.new w3 #[.int .u8 k, .int .i64 0, .string ⟨#[]⟩, .slice none 0 0] 25
  have hal : Below w3.heap.size w3 (w3.alloc (.cells #[.int .u8 k, .int .i64 0, .string ⟨#[]⟩, .slice none 0 0] 25)) := (Below.refl _ _).alloc (Nat.le_refl _) _
  have GV4 : Gv _ p (.slice ba n cap) (at' + 1) ((left : Int) - 1) 0 := HGV.out.below hal
  have Q4 := HQ3.out.below hal
  have G4 := grown_below HG3.out hal
  have hr0 : w.heap.size < w3.heap.size := HQ3.out.lt
  clear HGV HQ3 HG3 c3 c1 hlt3 hal hs3
  generalize w3.alloc (.cells #[.int .u8 k, .int .i64 0, .string ⟨#[]⟩, .slice none 0 0] 25) = W4 at T4 GV4 Q4 G4 ⊢
  generalize w3.heap.size = r0 at T4 hr0 ⊢
  have d1 := GV4.cell 1
  have hlt4 := GV4.lt
  have HF := Lib.hid (fun k => (⟨T4.below (belowN (Below.refl W4.heap.size W4) k), GV4.below (belowN (Below.refl W4.heap.size W4) k), Q4.below (belowN (Below.refl W4.heap.size W4) k), grown_trans G4 (drewN_grown W4 k _)⟩ : _ ∧ _ ∧ _ ∧ _))
  clear T4 GV4 Q4 G4
  go_quiet (fail)
  obtain ⟨T5, GV5, Q5, G5⟩ := HF.out nq
  clear HF d1 hlt4
  generalize W4.drewN nq = W5 at T5 GV5 Q5 G5 ⊢
  have t0 := T5.cell 0
  have t1 := T5.cell 1
  have t2 := T5.cell 2
  have t3 := T5.cell 3
  have tlt := T5.lt
  have HT5 := Lib.hid T5
  have HV5 := Lib.hid GV5
  have HQ5 := Lib.hid Q5
  have HG5 := Lib.hid G5
  have hnr : some r0 ≠ some p := fun e => by have := Option.some.inj e; omega
  clear T5 GV5 Q5 G5
  obtain rfl := hx.out
  clear hx
  have CO := Lib.hid (C1.out W5 HV5.out (HR.out W5 HG5.out))
  clear C1
  go_wp2_with fail
  refine (CO.out).mono ?_
  rintro e w6 ⟨rfl, hg6, hr6⟩
  have T6 := HT5.out.kept hr6 hnr
  have Q6 := HQ5.out.kept hr6 hne
  clear t0 t1 t2 t3 tlt CO
  have v0 := T6.cell 0
  have v1 := T6.cell 1
  have v2 := T6.cell 2
  have v3 := T6.cell 3
  have vf := fun o => T6.free o
  have vlt := T6.lt
  have q0 := Q6.cell 0
  have q1 := Q6.cell 1
  have q2 := Q6.cell 2
  have q3 := Q6.cell 3
  have qf := fun o => Q6.free o
  have qlt := Q6.lt
  have c1 := hg6.cell 1
  have cf := fun o => hg6.free o
  have hlt6 := hg6.lt
  have G8 := Lib.hid (grown_set (grown_fresh (grown_trans HG5.out hr6) hr0 1 (.int .i64 (y : Int))) 1 (.int .i64 ((at' : Int) + 1 + 1)))
  have V7 : Gv (w6.setCell ⟨r0, 1, none⟩ (.int .i64 (y : Int))) p (.slice ba n cap) (at' + 1 + 1) ((left : Int) - 1) 0 := Blk.kept hg6 (grown_set (grown_refl w6 (some r0)) 1 (.int .i64 (y : Int))) (fun e => hnr e.symm)
  have V8 : Hid (Gv ((w6.setCell ⟨r0, 1, none⟩ (.int .i64 (y : Int))).setCell ⟨p, 1, none⟩ (.int .i64 ((at' : Int) + 1 + 1))) p (.slice ba n cap) (at' + 2) ((left : Int) - 1) 0) := Lib.hid (V7.set 1 (.int .i64 ((at' : Int) + 1 + 1)))
  have Q8 := Lib.hid ((Q6.kept (grown_set (grown_refl w6 (some r0)) 1 (.int .i64 (y : Int))) (fun e => by have := Option.some.inj e; omega)).kept (grown_set (grown_refl (w6.setCell ⟨r0, 1, none⟩ (.int .i64 (y : Int))) (some p)) 1 (.int .i64 ((at' : Int) + 1 + 1))) hne)
  clear hg6 hr6 T6 Q6 V7
  go_wp2
  have QF := (((Q8.out.set 0 (.int .u8 2)).set 1 (.int .i64 (y : Int))).set 2 (.string ⟨#[]⟩)).set 3 (.slice none 0 0)
  have GF := ret_gv0 V8.out G8.out hpw (Nat.le_refl w.heap.size) (.int .u8 2) (.int .i64 (y : Int)) (.string ⟨#[]⟩) (.slice none 0 0)
  (try simp only [Exit.inBlock, Exit.then])
  refine bodyPost_ret (results_cell_row rfl _ _ w.heap.size 25 _ (0, 0) _ rfl QF Tryd.underlying25 rfl (by kernel_rfl)) rfl ?_
  have hl1 : ((left - 1 : Nat) : Int) = (left : Int) - 1 := by omega
  refine ⟨_, rfl, RV.mk' (ok := fun b => w.heap.size ≤ b) (k := 2) (l := []) (ba := none) (cap := 0) (s := Va.em) (by decide) (by unfold Va.I64; omega) (by decide) ⟨by simp, by simp [maxLen], fun _ => rfl, fun i hi => by simp at hi⟩, ?_, GF.2⟩
  rw [hl1]
  exact GF.1
set_option maxHeartbeats 3200000 in
set_option maxRecDepth 100000 in
theorem value_bool_bad (p : Nat) (ba : Option Addr) (n cap : Nat) (l : List UInt8) (at' left lv : Nat) (w : World) (hg : Gv w p (.slice ba n cap) at' left 0) (hn : l.length = n) (hr : Rd w ba l) (hp : l ≠ [] → ∀ b o, ba = some (⟨b, o, none⟩ : Addr) → b ≠ p) (ha : at' < n) (hmx : n ≤ 1099511627776) (hl0 : 1 ≤ left) (hlv0 : 1 ≤ lv) (hl : left ≤ 256) (hlv : lv ≤ 16)
    (hx : (l[at']'(hn ▸ ha)).toNat = 2) (hend : at' + 1 < n) (hy : 1 < (l[at' + 1]'(hn ▸ hend)).toNat) :
    Calls Tryd.prog 32 #[.pointer (some ⟨p, 0, none⟩), .int .i64 lv] w (VaPost p (.slice ba n cap) (.error 10) w) := by
  have C1 := Lib.hid (fun W (g : Gv W p (.slice ba n cap) (at' + 1) ((left : Int) - 1) 0) (r : Rd W ba l) => one_yes p ba n cap l (at' + 1) ((left : Int) - 1) W g hn r hp hend hmx)
  have hy8 : (l[at' + 1]'(hn ▸ hend)).toNat < 256 := UInt8.toNat_lt _
  generalize (l[at' + 1]'(hn ▸ hend)).toNat = y at C1 hy hy8
  replace hx := Lib.hid hx
  have hsz : (w.setCell ⟨p, 2, none⟩ (.int .i64 ((left : Int) - 1))).heap.size = w.heap.size := by simp
  have B1 : Gv ((w.setCell ⟨p, 2, none⟩ (.int .i64 ((left : Int) - 1))).alloc (.cells #[.int .u8 0, .int .i64 0, .string ⟨#[]⟩, .slice none 0 0] 25)) p (.slice ba n cap) at' ((left : Int) - 1) 0 := (hg.set 2 _).below ((Below.refl _ _).alloc (Nat.le_refl _) _)
  have Q1 := Blk.new (w.setCell ⟨p, 2, none⟩ (.int .i64 ((left : Int) - 1))) #[.int .u8 0, .int .i64 0, .string ⟨#[]⟩, .slice none 0 0] 25
  rw [hsz] at Q1
  have G1 : w.grownBy ((w.setCell ⟨p, 2, none⟩ (.int .i64 ((left : Int) - 1))).alloc (.cells #[.int .u8 0, .int .i64 0, .string ⟨#[]⟩, .slice none 0 0] 25)) (some p) := grown_below (grown_set (grown_refl _ _) _ _) ((Below.refl _ _).alloc (Nat.le_refl _) _)
  have hpw : p < w.heap.size := hg.lt
  clear hsz
  have c2 := hg.cell 2
  have hf := fun o => hg.free o
  have hlt := hg.lt
  clear hg
  go_enter Tryd.func32, Tryd.ntmps32
  go_upto_region 2 with (fail)
  clear c2 hf hlt
  generalize (w.setCell ⟨p, 2, none⟩ (.int .i64 ((left : Int) - 1))).alloc (.cells #[.int .u8 0, .int .i64 0, .string ⟨#[]⟩, .slice none 0 0] 25) = W1 at B1 Q1 G1 ⊢
  have hne : some w.heap.size ≠ some p := fun e => by have := Option.some.inj e; omega
  have CO := Lib.hid (one_yes p ba n cap l at' ((left : Int) - 1) W1 B1 hn (rd_grown hr G1 hp) hp ha hmx)
  have b2 := B1.cell 2
  have hlt1 := B1.lt
  have HQ1 := Lib.hid Q1
  have HG1 := Lib.hid G1
  have hz : ((lv : Int) == 0) = false := bneI (by omega)
  have hpos : (1 : Int) ≤ (left : Int) := by omega
  have HR := Lib.hid (fun W (g : w.grownBy W (some p)) => rd_grown hr g hp)
  generalize l[at']'(hn ▸ ha) = x at CO hx
  have hx8 : x.toNat < 256 := x.toNat_lt
  generalize hxk : x.toNat = k at CO hx hx8
  clear B1 Q1 G1 hr
  go_wp2_with fail
  refine (CO.out).mono ?_
  rintro e w3 ⟨rfl, hg3, hr3⟩
  have HGV := Lib.hid hg3
  have Q3 := HQ1.out.kept hr3 hne
  have HG3 := Lib.hid (grown_trans HG1.out hr3)
  have hs3 : w.heap.size ≤ w3.heap.size := HG3.out.size
  have HQ3 := Lib.hid Q3
  have c3 := hg3.cell 3
  have c1 := hg3.cell 1
  have hlt3 := hg3.lt
  clear hg3 hr3 CO Q3 b2 hlt1
  go_wp2_with fail
  have T4 := Blk.new w3 #[.int .u8 k, .int .i64 0, .string ⟨#[]⟩, .slice none 0 0] 25
  have hal : Below w3.heap.size w3 (w3.alloc (.cells #[.int .u8 k, .int .i64 0, .string ⟨#[]⟩, .slice none 0 0] 25)) := (Below.refl _ _).alloc (Nat.le_refl _) _
  have GV4 : Gv _ p (.slice ba n cap) (at' + 1) ((left : Int) - 1) 0 := HGV.out.below hal
  have Q4 := HQ3.out.below hal
  have G4 := grown_below HG3.out hal
  have hr0 : w.heap.size < w3.heap.size := HQ3.out.lt
  clear HGV HQ3 HG3 c3 c1 hlt3 hal hs3
  generalize w3.alloc (.cells #[.int .u8 k, .int .i64 0, .string ⟨#[]⟩, .slice none 0 0] 25) = W4 at T4 GV4 Q4 G4 ⊢
  generalize w3.heap.size = r0 at T4 hr0 ⊢
  have d1 := GV4.cell 1
  have hlt4 := GV4.lt
  have HF := Lib.hid (fun k => (⟨T4.below (belowN (Below.refl W4.heap.size W4) k), GV4.below (belowN (Below.refl W4.heap.size W4) k), Q4.below (belowN (Below.refl W4.heap.size W4) k), grown_trans G4 (drewN_grown W4 k _)⟩ : _ ∧ _ ∧ _ ∧ _))
  clear T4 GV4 Q4 G4
  go_quiet (fail)
  obtain ⟨T5, GV5, Q5, G5⟩ := HF.out nq
  clear HF d1 hlt4
  generalize W4.drewN nq = W5 at T5 GV5 Q5 G5 ⊢
  have t0 := T5.cell 0
  have t1 := T5.cell 1
  have t2 := T5.cell 2
  have t3 := T5.cell 3
  have tlt := T5.lt
  have HT5 := Lib.hid T5
  have HV5 := Lib.hid GV5
  have HQ5 := Lib.hid Q5
  have HG5 := Lib.hid G5
  have hnr : some r0 ≠ some p := fun e => by have := Option.some.inj e; omega
  clear T5 GV5 Q5 G5
  obtain rfl := hx.out
  clear hx
  have CO := Lib.hid (C1.out W5 HV5.out (HR.out W5 HG5.out))
  clear C1
  go_wp2_with fail
  refine (CO.out).mono ?_
  rintro e w6 ⟨rfl, hg6, hr6⟩
  have T6 := HT5.out.kept hr6 hnr
  have Q6 := HQ5.out.kept hr6 hne
  clear t0 t1 t2 t3 tlt CO
  have v0 := T6.cell 0
  have v1 := T6.cell 1
  have v2 := T6.cell 2
  have v3 := T6.cell 3
  have vf := fun o => T6.free o
  have vlt := T6.lt
  have q0 := Q6.cell 0
  have q1 := Q6.cell 1
  have q2 := Q6.cell 2
  have q3 := Q6.cell 3
  have qf := fun o => Q6.free o
  have qlt := Q6.lt
  have c1 := hg6.cell 1
  have cf := fun o => hg6.free o
  have hlt6 := hg6.lt
  have G7 := grown_fresh (grown_trans HG5.out hr6) hr0 1 (.int .i64 (y : Int))
  have V7 : Gv (w6.setCell ⟨r0, 1, none⟩ (.int .i64 (y : Int))) p (.slice ba n cap) (at' + 1 + 1) ((left : Int) - 1) 0 := Blk.kept hg6 (grown_set (grown_refl w6 (some r0)) 1 (.int .i64 (y : Int))) (fun e => hnr e.symm)
  have Q7 := Q6.kept (grown_set (grown_refl w6 (some r0)) 1 (.int .i64 (y : Int))) (fun e => by have := Option.some.inj e; omega)
  have T7 := T6.set 1 (.int .i64 (y : Int))
  have CF := Lib.hid (vfail_any p (.slice ba n cap) (at' + 1 + 1) ((left : Int) - 1) 0 10 10 rfl _ V7)
  rw [if_pos rfl] at CF
  have HG7 := Lib.hid G7
  have HQ7 := Lib.hid Q7
  have HT7 := Lib.hid T7
  clear G7 V7 Q7 T7 hg6 hr6 T6 Q6
  go_wp2_with fail
  refine (CF.out).mono ?_
  rintro e w8 ⟨rfl, hg6, hr6⟩
  have T6 := HT7.out.kept hr6 hnr
  have Q6 := HQ7.out.kept hr6 hne
  clear v0 v1 v2 v3 vf vlt q0 q1 q2 q3 qf qlt c1 cf hlt6
  have v0 := T6.cell 0
  have v1 := T6.cell 1
  have v2 := T6.cell 2
  have v3 := T6.cell 3
  have vlt := T6.lt
  have q0 := Q6.cell 0
  have q1 := Q6.cell 1
  have q2 := Q6.cell 2
  have q3 := Q6.cell 3
  have qf := fun o => Q6.free o
  have qlt := Q6.lt
  have c1 := hg6.cell 1
  have cf := fun o => hg6.free o
  have hlt6 := hg6.lt
  have HG6 := Lib.hid (grown_set (grown_trans HG7.out hr6) 1 (.int .i64 ((at' : Int) + 1 + 1)))
  have HV6 : Hid (Gv (w8.setCell ⟨p, 1, none⟩ (.int .i64 ((at' : Int) + 1 + 1))) p (.slice ba n cap) (at' + 1 + 1) ((left : Int) - 1) 10) := Lib.hid (hg6.set 1 (.int .i64 ((at' : Int) + 1 + 1)))
  have HQ6 := Lib.hid (Q6.kept (grown_set (grown_refl w8 (some p)) 1 (.int .i64 ((at' : Int) + 1 + 1))) hne)
  clear hg6 hr6 T6 Q6
  go_wp2
  have QF := (((HQ6.out.set 0 (.int .u8 2)).set 1 (.int .i64 (y : Int))).set 2 (.string ⟨#[]⟩)).set 3 (.slice none 0 0)
  have GF := ret_gv0 HV6.out HG6.out hpw (Nat.le_refl w.heap.size) (.int .u8 2) (.int .i64 (y : Int)) (.string ⟨#[]⟩) (.slice none 0 0)
  (try simp only [Exit.inBlock, Exit.then])
  refine bodyPost_ret (results_cell_row rfl _ _ w.heap.size 25 _ (0, 0) _ rfl QF Tryd.underlying25 rfl (by kernel_rfl)) rfl ?_
  exact ⟨2, y, ⟨#[]⟩, none, 0, 0, at' + 1 + 1, _, rfl, by decide, GF.1, GF.2⟩
end Go.Proofs.YtgamhgeiceakeaaDoor
