/- package value: the getter's value, by contract: where it is refused at once. -/
import Derived.Test.YtgamhgeiceakeaaDoorVGetA
set_option linter.unusedVariables false
set_option linter.unusedSimpArgs false
namespace Go.Proofs.YtgamhgeiceakeaaDoor
open Go.RowKit
open Va (V)
def VaPost (p : Nat) (bs : Value) (r : Va.Rs) (w : World) (e : Ending) (w' : World) : Prop := match r with
  | .ok (v, at2, left2) => ∃ x, e = .returned x ∧ RV (fun b => w.heap.size ≤ b) w' v x ∧ Gv w' p bs at2 left2 0 ∧ w.grownBy w' (some p)
  | .error er => ∃ k n s ba m c at2 left2, e = .returned (.agg #[.int .u8 k, .int .i64 n, .string s, .slice ba m c]) ∧ er ≠ 0 ∧ Gv w' p bs at2 left2 er ∧ w.grownBy w' (some p)
/-- what the last stores leave -/
theorem ret_gv {w w3 : World} {p q at' er : Nat} {bs : Value} {left : Int} (hg : Gv w3 p bs at' left er) (hr : w.grownBy w3 (some p)) (hp : p < w.heap.size) (hq : w.heap.size ≤ q) (a b c d : Value) (o : Obj) :
    Gv (((((w3.setCell ⟨q, 0, none⟩ a).setCell ⟨q, 1, none⟩ b).setCell ⟨q, 2, none⟩ c).setCell ⟨q, 3, none⟩ d).alloc o) p bs at' left er ∧ w.grownBy (((((w3.setCell ⟨q, 0, none⟩ a).setCell ⟨q, 1, none⟩ b).setCell ⟨q, 2, none⟩ c).setCell ⟨q, 3, none⟩ d).alloc o) (some p) := by
  have hb : ∀ k, k ≠ q → (((((w3.setCell ⟨q, 0, none⟩ a).setCell ⟨q, 1, none⟩ b).setCell ⟨q, 2, none⟩ c).setCell ⟨q, 3, none⟩ d)).heap[k]? = w3.heap[k]? := fun k hk => by
    rw [Below.heap_setCell _ _ _ _ (fun e => hk (by simpa using e)), Below.heap_setCell _ _ _ _ (fun e => hk (by simpa using e)), Below.heap_setCell _ _ _ _ (fun e => hk (by simpa using e)), Below.heap_setCell _ _ _ _ (fun e => hk (by simpa using e))]
  have hg1 : Gv (((((w3.setCell ⟨q, 0, none⟩ a).setCell ⟨q, 1, none⟩ b).setCell ⟨q, 2, none⟩ c).setCell ⟨q, 3, none⟩ d)) p bs at' left er := by
    unfold Gv Blk; rw [hb p (by omega)]; exact hg
  have hr1 : w.grownBy (((((w3.setCell ⟨q, 0, none⟩ a).setCell ⟨q, 1, none⟩ b).setCell ⟨q, 2, none⟩ c).setCell ⟨q, 3, none⟩ d)) (some p) := ⟨hr.os, hr.tape, hr.output, by simp; exact hr.size, fun k hk hne => by rw [hb k (by omega), hr.block k hk hne]⟩
  exact ⟨hg1.below ((Below.refl _ _).alloc (Nat.le_refl _) _), grown_below hr1 ((Below.refl _ _).alloc (Nat.le_refl _) _)⟩
set_option maxHeartbeats 1600000 in
set_option maxRecDepth 100000 in
theorem value_short (p : Nat) (ba : Option Addr) (n cap : Nat) (at' left lv : Nat) (w : World) (hg : Gv w p (.slice ba n cap) at' left 0) (h : left = 0 ∨ lv = 0) (hl : left ≤ 256) (hlv : lv ≤ 16) :
    Calls Tryd.prog 32 #[.pointer (some ⟨p, 0, none⟩), .int .i64 lv] w (VaPost p (.slice ba n cap) (.error 13) w) := by
  have hsz : (w.setCell ⟨p, 2, none⟩ (.int .i64 ((left : Int) - 1))).heap.size = w.heap.size := by simp
  have B1 : Gv ((w.setCell ⟨p, 2, none⟩ (.int .i64 ((left : Int) - 1))).alloc (.cells #[.int .u8 0, .int .i64 0, .string ⟨#[]⟩, .slice none 0 0] 25)) p (.slice ba n cap) at' ((left : Int) - 1) 0 := (hg.set 2 _).below ((Below.refl _ _).alloc (Nat.le_refl _) _)
  have Q1 := Blk.new (w.setCell ⟨p, 2, none⟩ (.int .i64 ((left : Int) - 1))) #[.int .u8 0, .int .i64 0, .string ⟨#[]⟩, .slice none 0 0] 25
  rw [hsz] at Q1
  have G1 : w.grownBy ((w.setCell ⟨p, 2, none⟩ (.int .i64 ((left : Int) - 1))).alloc (.cells #[.int .u8 0, .int .i64 0, .string ⟨#[]⟩, .slice none 0 0] 25)) (some p) := grown_below (grown_set (grown_refl _ _) _ _) ((Below.refl _ _).alloc (Nat.le_refl _) _)
  have hpw : p < w.heap.size := hg.lt
  clear hsz
  have c2 := hg.cell 2
  have hf := fun o => hg.free o
  have hlt := hg.lt
  clear hg
  go_enter Tryd.func32, Tryd.ntmps32
  go_upto_region 2 with (fail)
  clear c2 hf hlt
  generalize (w.setCell ⟨p, 2, none⟩ (.int .i64 ((left : Int) - 1))).alloc (.cells #[.int .u8 0, .int .i64 0, .string ⟨#[]⟩, .slice none 0 0] 25) = W1 at B1 Q1 G1 ⊢
  have hne : some w.heap.size ≠ some p := fun e => by have := Option.some.inj e; omega
  have CF := Lib.hid (vfail_any p (.slice ba n cap) at' ((left : Int) - 1) 0 13 13 rfl W1 B1)
  have b2 := B1.cell 2
  have hlt1 := B1.lt
  have HQ1 := Lib.hid Q1
  have HG1 := Lib.hid G1
  have hcond : (left : Int) < 1 ∨ (lv : Int) = 0 := by omega
  clear B1 Q1 G1
  by_cases h0 : left = 0
  · subst h0
    go_wp2_with fail
    refine (CF.out).mono ?_
    rintro e w2 ⟨rfl, hg2, hr2⟩
    have CO := Lib.hid (one_no p (.slice ba n cap) at' _ _ w2 hg2 (by simp))
    have HQ2 := Lib.hid (HQ1.out.kept hr2 hne)
    have HG2 := Lib.hid (grown_trans HG1.out hr2)
    clear hg2 hr2 b2 hlt1 CF
    go_wp2_with fail
    refine (CO.out).mono ?_
    rintro e w3 ⟨rfl, hg3, hr3⟩
    have HGV := Lib.hid hg3
    have c3 := hg3.cell 3
    have hlt3 := hg3.lt
    have Q3 := HQ2.out.kept hr3 hne
    have HQ3 := Lib.hid Q3
    have HG3 := Lib.hid (grown_trans HG2.out hr3)
    have q0 := Q3.cell 0
    have q1 := Q3.cell 1
    have q2 := Q3.cell 2
    have q3 := Q3.cell 3
    have qf := fun o => Q3.free o
    have qlt := Q3.lt
    clear hg3 hr3 CO Q3
    go_wp2
    have hsz3 : ((((w3.setCell ⟨w.heap.size, 0, none⟩ (.int .u8 0)).setCell ⟨w.heap.size, 1, none⟩ (.int .i64 0)).setCell ⟨w.heap.size, 2, none⟩ (.string ⟨#[]⟩)).setCell ⟨w.heap.size, 3, none⟩ (.slice none 0 0)).heap.size = w3.heap.size := by simp
    have QF : Blk (((((w3.setCell ⟨w.heap.size, 0, none⟩ (.int .u8 0)).setCell ⟨w.heap.size, 1, none⟩ (.int .i64 0)).setCell ⟨w.heap.size, 2, none⟩ (.string ⟨#[]⟩)).setCell ⟨w.heap.size, 3, none⟩ (.slice none 0 0)).alloc (.cells #[.int .u8 0, .int .i64 0, .string ⟨#[]⟩, .slice none 0 0] 25)) w.heap.size #[.int .u8 0, .int .i64 0, .string ⟨#[]⟩, .slice none 0 0] 25 :=
      Blk.below ((((HQ3.out.set 0 (.int .u8 0)).set 1 (.int .i64 0)).set 2 (.string ⟨#[]⟩)).set 3 (.slice none 0 0)) ((Below.refl _ _).alloc (Nat.le_refl _) _)
    have GF := ret_gv HGV.out HG3.out hpw (Nat.le_refl w.heap.size) (.int .u8 0) (.int .i64 0) (.string ⟨#[]⟩) (.slice none 0 0) (.cells #[.int .u8 0, .int .i64 0, .string ⟨#[]⟩, .slice none 0 0] 25)
    (try simp only [Exit.inBlock, Exit.then])
    refine bodyPost_ret (results_cell_row rfl _ _ w.heap.size 25 _ (0, 0) _ rfl QF Tryd.underlying25 rfl (by kernel_rfl)) rfl ?_
    exact ⟨0, 0, ⟨#[]⟩, none, 0, 0, at', _, rfl, by decide, GF.1, GF.2⟩
  · obtain rfl : lv = 0 := by omega
    have hpos : (1 : Int) ≤ (left : Int) := by omega
    go_wp2_with fail
    refine (CF.out).mono ?_
    rintro e w2 ⟨rfl, hg2, hr2⟩
    have CO := Lib.hid (one_no p (.slice ba n cap) at' _ _ w2 hg2 (by simp))
    have HQ2 := Lib.hid (HQ1.out.kept hr2 hne)
    have HG2 := Lib.hid (grown_trans HG1.out hr2)
    clear hg2 hr2 b2 hlt1 CF
    go_wp2_with fail
    refine (CO.out).mono ?_
    rintro e w3 ⟨rfl, hg3, hr3⟩
    have HGV := Lib.hid hg3
    have c3 := hg3.cell 3
    have hlt3 := hg3.lt
    have Q3 := HQ2.out.kept hr3 hne
    have HQ3 := Lib.hid Q3
    have HG3 := Lib.hid (grown_trans HG2.out hr3)
    have q0 := Q3.cell 0
    have q1 := Q3.cell 1
    have q2 := Q3.cell 2
    have q3 := Q3.cell 3
    have qf := fun o => Q3.free o
    have qlt := Q3.lt
    clear hg3 hr3 CO Q3
    go_wp2
    have hsz3 : ((((w3.setCell ⟨w.heap.size, 0, none⟩ (.int .u8 0)).setCell ⟨w.heap.size, 1, none⟩ (.int .i64 0)).setCell ⟨w.heap.size, 2, none⟩ (.string ⟨#[]⟩)).setCell ⟨w.heap.size, 3, none⟩ (.slice none 0 0)).heap.size = w3.heap.size := by simp
    have QF : Blk (((((w3.setCell ⟨w.heap.size, 0, none⟩ (.int .u8 0)).setCell ⟨w.heap.size, 1, none⟩ (.int .i64 0)).setCell ⟨w.heap.size, 2, none⟩ (.string ⟨#[]⟩)).setCell ⟨w.heap.size, 3, none⟩ (.slice none 0 0)).alloc (.cells #[.int .u8 0, .int .i64 0, .string ⟨#[]⟩, .slice none 0 0] 25)) w.heap.size #[.int .u8 0, .int .i64 0, .string ⟨#[]⟩, .slice none 0 0] 25 :=
      Blk.below ((((HQ3.out.set 0 (.int .u8 0)).set 1 (.int .i64 0)).set 2 (.string ⟨#[]⟩)).set 3 (.slice none 0 0)) ((Below.refl _ _).alloc (Nat.le_refl _) _)
    have GF := ret_gv HGV.out HG3.out hpw (Nat.le_refl w.heap.size) (.int .u8 0) (.int .i64 0) (.string ⟨#[]⟩) (.slice none 0 0) (.cells #[.int .u8 0, .int .i64 0, .string ⟨#[]⟩, .slice none 0 0] 25)
    (try simp only [Exit.inBlock, Exit.then])
    refine bodyPost_ret (results_cell_row rfl _ _ w.heap.size 25 _ (0, 0) _ rfl QF Tryd.underlying25 rfl (by kernel_rfl)) rfl ?_
    exact ⟨0, 0, ⟨#[]⟩, none, 0, 0, at', _, rfl, by decide, GF.1, GF.2⟩
end Go.Proofs.YtgamhgeiceakeaaDoor
