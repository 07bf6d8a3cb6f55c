/- package value: the getter's value, by contract: bytes' end, a kind that is none. -/
import Derived.Test.YtgamhgeiceakeaaDoorVGetB
set_option linter.unusedVariables false
set_option linter.unusedSimpArgs false
namespace Go.Proofs.YtgamhgeiceakeaaDoor
open Go.RowKit
open Va (V)
set_option maxHeartbeats 1600000 in
set_option maxRecDepth 100000 in
theorem value_end (p : Nat) (ba : Option Addr) (n cap : Nat) (left lv : Nat) (w : World) (hg : Gv w p (.slice ba n cap) n left 0) (hl0 : 1 ≤ left) (hlv0 : 1 ≤ lv) (hl : left ≤ 256) (hlv : lv ≤ 16) :
    Calls Tryd.prog 32 #[.pointer (some ⟨p, 0, none⟩), .int .i64 lv] w (VaPost p (.slice ba n cap) (.error 11) w) := by
  have hsz : (w.setCell ⟨p, 2, none⟩ (.int .i64 ((left : Int) - 1))).heap.size = w.heap.size := by simp
  have B1 : Gv ((w.setCell ⟨p, 2, none⟩ (.int .i64 ((left : Int) - 1))).alloc (.cells #[.int .u8 0, .int .i64 0, .string ⟨#[]⟩, .slice none 0 0] 25)) p (.slice ba n cap) n ((left : Int) - 1) 0 := (hg.set 2 _).below ((Below.refl _ _).alloc (Nat.le_refl _) _)
  have Q1 := Blk.new (w.setCell ⟨p, 2, none⟩ (.int .i64 ((left : Int) - 1))) #[.int .u8 0, .int .i64 0, .string ⟨#[]⟩, .slice none 0 0] 25
  rw [hsz] at Q1
  have G1 : w.grownBy ((w.setCell ⟨p, 2, none⟩ (.int .i64 ((left : Int) - 1))).alloc (.cells #[.int .u8 0, .int .i64 0, .string ⟨#[]⟩, .slice none 0 0] 25)) (some p) := grown_below (grown_set (grown_refl _ _) _ _) ((Below.refl _ _).alloc (Nat.le_refl _) _)
  have hpw : p < w.heap.size := hg.lt
  clear hsz
  have c2 := hg.cell 2
  have hf := fun o => hg.free o
  have hlt := hg.lt
  clear hg
  go_enter Tryd.func32, Tryd.ntmps32
  go_upto_region 2 with (fail)
  clear c2 hf hlt
  generalize (w.setCell ⟨p, 2, none⟩ (.int .i64 ((left : Int) - 1))).alloc (.cells #[.int .u8 0, .int .i64 0, .string ⟨#[]⟩, .slice none 0 0] 25) = W1 at B1 Q1 G1 ⊢
  have hne : some w.heap.size ≠ some p := fun e => by have := Option.some.inj e; omega
  have CO := Lib.hid (one_end p ba n cap ((left : Int) - 1) W1 B1)
  have b2 := B1.cell 2
  have hlt1 := B1.lt
  have HQ1 := Lib.hid Q1
  have HG1 := Lib.hid G1
  have hz : ((lv : Int) == 0) = false := bneI (by omega)
  have hpos : (1 : Int) ≤ (left : Int) := by omega
  clear B1 Q1 G1
  go_wp2_with fail
  refine (CO.out).mono ?_
  rintro e w3 ⟨rfl, hg3, hr3⟩
  have HGV := Lib.hid hg3
  have c3 := hg3.cell 3
  have hlt3 := hg3.lt
  have Q3 := HQ1.out.kept hr3 hne
  have HQ3 := Lib.hid Q3
  have HG3 := Lib.hid (grown_trans HG1.out hr3)
  have q0 := Q3.cell 0
  have q1 := Q3.cell 1
  have q2 := Q3.cell 2
  have q3 := Q3.cell 3
  have qf := fun o => Q3.free o
  have qlt := Q3.lt
  clear hg3 hr3 CO Q3 b2 hlt1
  go_wp2
  have QF : Blk (((((w3.setCell ⟨w.heap.size, 0, none⟩ (.int .u8 0)).setCell ⟨w.heap.size, 1, none⟩ (.int .i64 0)).setCell ⟨w.heap.size, 2, none⟩ (.string ⟨#[]⟩)).setCell ⟨w.heap.size, 3, none⟩ (.slice none 0 0)).alloc (.cells #[.int .u8 0, .int .i64 0, .string ⟨#[]⟩, .slice none 0 0] 25)) w.heap.size #[.int .u8 0, .int .i64 0, .string ⟨#[]⟩, .slice none 0 0] 25 :=
    Blk.below ((((HQ3.out.set 0 (.int .u8 0)).set 1 (.int .i64 0)).set 2 (.string ⟨#[]⟩)).set 3 (.slice none 0 0)) ((Below.refl _ _).alloc (Nat.le_refl _) _)
  have GF := ret_gv HGV.out HG3.out hpw (Nat.le_refl w.heap.size) (.int .u8 0) (.int .i64 0) (.string ⟨#[]⟩) (.slice none 0 0) (.cells #[.int .u8 0, .int .i64 0, .string ⟨#[]⟩, .slice none 0 0] 25)
  (try simp only [Exit.inBlock, Exit.then])
  refine bodyPost_ret (results_cell_row rfl _ _ w.heap.size 25 _ (0, 0) _ rfl QF Tryd.underlying25 rfl (by kernel_rfl)) rfl ?_
  exact ⟨0, 0, ⟨#[]⟩, none, 0, 0, n, _, rfl, by decide, GF.1, GF.2⟩
theorem ret_gv0 {w w3 : World} {p q at' er : Nat} {bs : Value} {left : Int} (hg : Gv w3 p bs at' left er) (hr : w.grownBy w3 (some p)) (hp : p < w.heap.size) (hq : w.heap.size ≤ q) (a b c d : Value) :
    Gv ((((w3.setCell ⟨q, 0, none⟩ a).setCell ⟨q, 1, none⟩ b).setCell ⟨q, 2, none⟩ c).setCell ⟨q, 3, none⟩ d) p bs at' left er ∧ w.grownBy ((((w3.setCell ⟨q, 0, none⟩ a).setCell ⟨q, 1, none⟩ b).setCell ⟨q, 2, none⟩ c).setCell ⟨q, 3, none⟩ d) (some p) := by
  have hb : ∀ k, k ≠ q → (((((w3.setCell ⟨q, 0, none⟩ a).setCell ⟨q, 1, none⟩ b).setCell ⟨q, 2, none⟩ c).setCell ⟨q, 3, none⟩ d)).heap[k]? = w3.heap[k]? := fun k hk => by
    rw [Below.heap_setCell _ _ _ _ (fun e => hk (by simpa using e)), Below.heap_setCell _ _ _ _ (fun e => hk (by simpa using e)), Below.heap_setCell _ _ _ _ (fun e => hk (by simpa using e)), Below.heap_setCell _ _ _ _ (fun e => hk (by simpa using e))]
  have hg1 : Gv (((((w3.setCell ⟨q, 0, none⟩ a).setCell ⟨q, 1, none⟩ b).setCell ⟨q, 2, none⟩ c).setCell ⟨q, 3, none⟩ d)) p bs at' left er := by
    unfold Gv Blk; rw [hb p (by omega)]; exact hg
  have hr1 : w.grownBy (((((w3.setCell ⟨q, 0, none⟩ a).setCell ⟨q, 1, none⟩ b).setCell ⟨q, 2, none⟩ c).setCell ⟨q, 3, none⟩ d)) (some p) := ⟨hr.os, hr.tape, hr.output, by simp; exact hr.size, fun k hk hne => by rw [hb k (by omega), hr.block k hk hne]⟩
  exact ⟨hg1, hr1⟩
theorem rd_grown {w W : World} {ba : Option Addr} {l : List UInt8} {p : Nat} (hr : Rd w ba l) (g : w.grownBy W (some p)) (hp : l ≠ [] → ∀ b o, ba = some (⟨b, o, none⟩ : Addr) → b ≠ p) : Rd W ba l := by
  by_cases hl : l = []
  · exact Or.inl hl
  · exact hr.kept g (hp hl)
set_option maxHeartbeats 1600000 in
set_option maxRecDepth 100000 in
theorem value_kind (p : Nat) (ba : Option Addr) (n cap : Nat) (l : List UInt8) (at' left lv : Nat) (w : World) (hg : Gv w p (.slice ba n cap) at' left 0) (hn : l.length = n) (hr : Rd w ba l) (hp : l ≠ [] → ∀ b o, ba = some (⟨b, o, none⟩ : Addr) → b ≠ p) (ha : at' < n) (hmx : n ≤ 1099511627776) (hl0 : 1 ≤ left) (hlv0 : 1 ≤ lv) (hl : left ≤ 256) (hlv : lv ≤ 16)
    (hx : ¬ ((l[at']'(hn ▸ ha)).toNat = 1 ∨ (l[at']'(hn ▸ ha)).toNat = 2 ∨ (l[at']'(hn ▸ ha)).toNat = 3 ∨ (l[at']'(hn ▸ ha)).toNat = 4 ∨ (l[at']'(hn ▸ ha)).toNat = 5)) :
    Calls Tryd.prog 32 #[.pointer (some ⟨p, 0, none⟩), .int .i64 lv] w (VaPost p (.slice ba n cap) (.error 10) w) := by
  have hsz : (w.setCell ⟨p, 2, none⟩ (.int .i64 ((left : Int) - 1))).heap.size = w.heap.size := by simp
  have B1 : Gv ((w.setCell ⟨p, 2, none⟩ (.int .i64 ((left : Int) - 1))).alloc (.cells #[.int .u8 0, .int .i64 0, .string ⟨#[]⟩, .slice none 0 0] 25)) p (.slice ba n cap) at' ((left : Int) - 1) 0 := (hg.set 2 _).below ((Below.refl _ _).alloc (Nat.le_refl _) _)
  have Q1 := Blk.new (w.setCell ⟨p, 2, none⟩ (.int .i64 ((left : Int) - 1))) #[.int .u8 0, .int .i64 0, .string ⟨#[]⟩, .slice none 0 0] 25
  rw [hsz] at Q1
  have G1 : w.grownBy ((w.setCell ⟨p, 2, none⟩ (.int .i64 ((left : Int) - 1))).alloc (.cells #[.int .u8 0, .int .i64 0, .string ⟨#[]⟩, .slice none 0 0] 25)) (some p) := grown_below (grown_set (grown_refl _ _) _ _) ((Below.refl _ _).alloc (Nat.le_refl _) _)
  have hpw : p < w.heap.size := hg.lt
  clear hsz
  have c2 := hg.cell 2
  have hf := fun o => hg.free o
  have hlt := hg.lt
  clear hg
  go_enter Tryd.func32, Tryd.ntmps32
  go_upto_region 2 with (fail)
  clear c2 hf hlt
  generalize (w.setCell ⟨p, 2, none⟩ (.int .i64 ((left : Int) - 1))).alloc (.cells #[.int .u8 0, .int .i64 0, .string ⟨#[]⟩, .slice none 0 0] 25) = W1 at B1 Q1 G1 ⊢
  have hne : some w.heap.size ≠ some p := fun e => by have := Option.some.inj e; omega
  have CO := Lib.hid (one_yes p ba n cap l at' ((left : Int) - 1) W1 B1 hn (rd_grown hr G1 hp) hp ha hmx)
  have b2 := B1.cell 2
  have hlt1 := B1.lt
  have HQ1 := Lib.hid Q1
  have HG1 := Lib.hid G1
  have hz : ((lv : Int) == 0) = false := bneI (by omega)
  have hpos : (1 : Int) ≤ (left : Int) := by omega
  have HR := Lib.hid (fun W (g : w.grownBy W (some p)) => rd_grown hr g hp)
  generalize l[at']'(hn ▸ ha) = x at CO hx
  have hx8 : x.toNat < 256 := x.toNat_lt
  generalize hxk : x.toNat = k at CO hx hx8
  clear B1 Q1 G1 hr
  go_wp2_with fail
  refine (CO.out).mono ?_
  rintro e w3 ⟨rfl, hg3, hr3⟩
  have HGV := Lib.hid hg3
  have Q3 := HQ1.out.kept hr3 hne
  have HG3 := Lib.hid (grown_trans HG1.out hr3)
  have hs3 : w.heap.size ≤ w3.heap.size := HG3.out.size
  have HQ3 := Lib.hid Q3
  have c3 := hg3.cell 3
  have c1 := hg3.cell 1
  have hlt3 := hg3.lt
  clear hg3 hr3 CO Q3 b2 hlt1
  go_wp2_with fail
  have T4 := Blk.new w3 #[.int .u8 k, .int .i64 0, .string ⟨#[]⟩, .slice none 0 0] 25
  have hal : Below w3.heap.size w3 (w3.alloc (.cells #[.int .u8 k, .int .i64 0, .string ⟨#[]⟩, .slice none 0 0] 25)) := (Below.refl _ _).alloc (Nat.le_refl _) _
  have GV4 : Gv _ p (.slice ba n cap) (at' + 1) ((left : Int) - 1) 0 := HGV.out.below hal
  have Q4 := HQ3.out.below hal
  have G4 := grown_below HG3.out hal
  have hr0 : w.heap.size < w3.heap.size := HQ3.out.lt
  clear HGV HQ3 HG3 c3 c1 hlt3 hal hs3
  generalize w3.alloc (.cells #[.int .u8 k, .int .i64 0, .string ⟨#[]⟩, .slice none 0 0] 25) = W4 at T4 GV4 Q4 G4 ⊢
  generalize w3.heap.size = r0 at T4 hr0 ⊢
  have d1 := GV4.cell 1
  have hlt4 := GV4.lt
  have HF := Lib.hid (fun k => (⟨T4.below (belowN (Below.refl W4.heap.size W4) k), GV4.below (belowN (Below.refl W4.heap.size W4) k), Q4.below (belowN (Below.refl W4.heap.size W4) k), grown_trans G4 (drewN_grown W4 k _)⟩ : _ ∧ _ ∧ _ ∧ _))
  clear T4 GV4 Q4 G4
  go_quiet (fail)
  obtain ⟨T5, GV5, Q5, G5⟩ := HF.out nq
  clear HF d1 hlt4
  generalize W4.drewN nq = W5 at T5 GV5 Q5 G5 ⊢
  have t0 := T5.cell 0
  have t1 := T5.cell 1
  have t2 := T5.cell 2
  have t3 := T5.cell 3
  have tlt := T5.lt
  have HT5 := Lib.hid T5
  have HV5 := Lib.hid GV5
  have HQ5 := Lib.hid Q5
  have HG5 := Lib.hid G5
  have hnr : some r0 ≠ some p := fun e => by have := Option.some.inj e; omega
  clear T5 GV5 Q5 G5
  have CF := Lib.hid (vfail_any p (.slice ba n cap) (at' + 1) ((left : Int) - 1) 0 10 10 rfl W5 HV5.out)
  have z1 : ((k : Int) == 1) = false := bneI (by omega)
  have z2 : ((k : Int) == 2) = false := bneI (by omega)
  have z3 : ((k : Int) == 3) = false := bneI (by omega)
  have z4 : ((k : Int) == 4) = false := bneI (by omega)
  have z5 : ((k : Int) == 5) = false := bneI (by omega)
  go_wp2_with fail
  refine (CF.out).mono ?_
  rintro e w6 ⟨rfl, hg6, hr6⟩
  have T6 := HT5.out.kept hr6 hnr
  have Q6 := HQ5.out.kept hr6 hne
  have v0 := T6.cell 0
  have v1 := T6.cell 1
  have v2 := T6.cell 2
  have v3 := T6.cell 3
  have vlt := T6.lt
  have q0 := Q6.cell 0
  have q1 := Q6.cell 1
  have q2 := Q6.cell 2
  have q3 := Q6.cell 3
  have qf := fun o => Q6.free o
  have qlt := Q6.lt
  have c1 := hg6.cell 1
  have cf := fun o => hg6.free o
  have hlt6 := hg6.lt
  clear t0 t1 t2 t3 tlt
  have HQ6 := Lib.hid Q6
  have HG6 := Lib.hid (grown_set (grown_trans HG5.out hr6) 1 (.int .i64 ((at' : Int) + 1)))
  have HV6 : Hid (Gv (w6.setCell ⟨p, 1, none⟩ (.int .i64 ((at' : Int) + 1))) p (.slice ba n cap) (at' + 1) ((left : Int) - 1) 10) := Lib.hid (hg6.set 1 (.int .i64 ((at' : Int) + 1)))
  have HQ7 : Hid (Blk (w6.setCell ⟨p, 1, none⟩ (.int .i64 ((at' : Int) + 1))) w.heap.size #[.int .u8 0, .int .i64 0, .string ⟨#[]⟩, .slice none 0 0] 25) := Lib.hid (Q6.kept (grown_set (grown_refl w6 (some p)) _ _) hne)
  clear hg6 hr6 T6 Q6
  go_wp2
  have QF := (((HQ7.out.set 0 (.int .u8 k)).set 1 (.int .i64 0)).set 2 (.string ⟨#[]⟩)).set 3 (.slice none 0 0)
  have GF := ret_gv0 HV6.out HG6.out hpw (Nat.le_refl w.heap.size) (.int .u8 k) (.int .i64 0) (.string ⟨#[]⟩) (.slice none 0 0)
  (try simp only [Exit.inBlock, Exit.then])
  refine bodyPost_ret (results_cell_row rfl _ _ w.heap.size 25 _ (0, 0) _ rfl QF Tryd.underlying25 rfl (by kernel_rfl)) rfl ?_
  exact ⟨k, 0, ⟨#[]⟩, none, 0, 0, at' + 1, _, rfl, by decide, GF.1, GF.2⟩
end Go.Proofs.YtgamhgeiceakeaaDoor
