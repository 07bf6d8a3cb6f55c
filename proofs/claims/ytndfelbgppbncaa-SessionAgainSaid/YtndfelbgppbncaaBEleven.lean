/- package frame: opened, end, by contract. -/
import Derived.Test.YtndfelbgppbncaaBTen
set_option linter.unusedVariables false
namespace Go.Proofs.Ytndfelbgppbncaa
open Go.RowKit
def EndPost (p : Nat) (v : Value) (at' er : Nat) (w : World) (e : Ending) (w' : World) : Prop := e = .returned (.int .i64 er) ∧ Gt w' p v at' er ∧ w.grownBy w' (some p)
def gend (n at' er : Nat) : Nat := if er = 0 ∧ at' < n then 10 else er
set_option maxHeartbeats 1600000 in
set_option maxRecDepth 100000 in
theorem gend_any (p : Nat) (ba : Option Addr) (n cap at' er : Nat) (w : World) (hg : Gt w p (.slice ba n cap) at' er) :
    Calls Try.prog 66 #[.pointer (some ⟨p, 0, none⟩)] w (EndPost p (.slice ba n cap) at' (gend n at' er) w) := by
  have HG := Lib.hid hg
  have c0 := hg.cell 0
  have c1 := hg.cell 1
  have c2 := hg.cell 2
  have hlt := hg.lt
  have hf := fun o => hg.free o
  unfold gend
  clear hg
  by_cases h : er = 0
  · subst h
    by_cases h2 : at' < n
    · rw [if_pos ⟨rfl, h2⟩]
      go_enter Try.func66, Try.ntmps66
      go_wp2_with fail
      go_quiet (fail)
      have hfin : Gt ((w.drewN nq).setCell ⟨p, 2, none⟩ (.int .i64 10)) p (.slice ba n cap) at' 10 := (HG.out.below (belowN (Below.refl _ _) nq)).set 2 _
      have hgr : w.grownBy ((w.drewN nq).setCell ⟨p, 2, none⟩ (.int .i64 10)) (some p) := grown_set (grown_below (grown_refl _ _) (belowN (Below.refl _ _) nq)) _ _
      have HF := Lib.hid hfin
      have HR := Lib.hid hgr
      clear hfin hgr
      go_wp2
      go_ret
      exact ⟨rfl, HF.out, HR.out⟩
    · rw [if_neg (fun h => h2 h.2)]
      have h2' : decide ((at' : Int) < (n : Int)) = false := by simp; omega
      go_enter Try.func66, Try.ntmps66
      go_wp2_with fail
      go_quiet (fail)
      go_wp2
      go_ret
      exact ⟨rfl, HG.out.below (belowN (Below.refl _ _) nq), grown_below (grown_refl _ _) (belowN (Below.refl _ _) nq)⟩
  · rw [if_neg (fun h' => h h'.1)]
    have h' : ((er : Int) == 0) = false := bneI (by omega)
    go_enter Try.func66, Try.ntmps66
    go_wp2_with fail
    go_quiet (fail)
    go_wp2
    go_ret
    exact ⟨rfl, HG.out.below (belowN (Below.refl _ _) nq), grown_below (grown_refl _ _) (belowN (Below.refl _ _) nq)⟩
def OpnPost (l : List UInt8) (er : Nat) (w : World) (e : Ending) (w' : World) : Prop := ∃ p v', e = .returned (.tuple #[.pointer (some ⟨p, 0, none⟩), .int .i64 er]) ∧ Gt w' p v' 0 0 ∧ Ow w' w.heap.size v' l ∧ (∀ k, v'.ownBlock = some k → k < p) ∧ w.heap.size ≤ p ∧ Below w.heap.size w w'
set_option maxHeartbeats 1600000 in
set_option maxRecDepth 100000 in
theorem opened_any (ba : Option Addr) (n cap most : Nat) (l : List UInt8) (w : World) (hn : l.length = n) (hr : Rd w ba l) (hb : ba = none → n = 0) (hl : n ≤ 1099511627776) (hc : n ≤ cap) (hm : n ≤ most) :
    Calls Try.prog 62 #[.slice ba n cap, .int .i64 most] w (OpnPost (By.opn l).1 (By.opn l).2 w) := by
  have cu := unseal_any ba n cap l w hn hr hb hl hc
  generalize By.opn l = r at cu ⊢
  obtain ⟨d, er⟩ := r
  simp only at cu ⊢
  have CU := Lib.hid cu
  have i1 : ¬ (most : Int) < (n : Int) := by omega
  clear cu hr hb hn
  go_enter Try.func62, Try.ntmps62
  go_wp2_with fail
  with_reducible refine (CU.out).mono ?_
  rintro e w1 ⟨v1, rfl, ho1, hb1⟩
  obtain ⟨b3, c3, rfl, _, _, _⟩ := ho1.rd
  have HO := Lib.hid ho1
  have HB := Lib.hid hb1
  clear ho1 hb1
  go_wp2
  go_ret2
  exact ⟨w1.heap.size, _, rfl, Blk.new _ _ _, HO.out.alloc _, (fun k hk => (HO.out.lt k hk).2), HB.out.size, HB.out.alloc HB.out.size _⟩
theorem opened_long (ba : Option Addr) (n cap most : Nat) (w : World) (hm : most < n) :
    Calls Try.prog 62 #[.slice ba n cap, .int .i64 most] w fun e w' => e = .returned (.tuple #[.pointer none, .int .i64 3]) ∧ w = w' := by
  have i1 : (most : Int) < (n : Int) := by omega
  go_enter Try.func62, Try.ntmps62
  go_wp2
  go_ret2
  exact ⟨rfl, rfl⟩
end Go.Proofs.Ytndfelbgppbncaa
