/- package frame: the getter's blob, end, opened, by contract. -/
import Derived.Test.YtndfelbgppbncaaBNine
set_option linter.unusedVariables false
namespace Go.Proofs.Ytndfelbgppbncaa
open Go.RowKit
theorem own_below {w w' : World} {B : Nat} {v : Value} {l : List UInt8} (h : Ow w B v l) (hb : Below w.heap.size w w') : Ow w' B v l :=
  World.ownsRow.kept (row := none) h ⟨hb.os, hb.tape, hb.output, hb.size, fun k hk _ => hb.block k hk⟩ (by cases v.ownBlock with | none => exact Or.inl rfl | some k => exact Or.inr (by simp))
theorem own_kept {w w' : World} {B : Nat} {v : Value} {l : List UInt8} {row : Option Nat} (h : Ow w B v l) (hg : w.grownBy w' row) (hne : ∀ k, v.ownBlock = some k → row ≠ some k) : Ow w' B v l :=
  World.ownsRow.kept h hg (by cases hv : v.ownBlock with | none => exact Or.inl rfl | some k => exact Or.inr (fun e => hne k hv e.symm))
/-- a getter's blob: it, the place behind, the error -/
def gblob (most : Nat) (l : List UInt8) (at' er : Nat) : List UInt8 × Nat × Nat := if er ≠ 0 then ([], at', er) else if (By.getBlob most (l.drop at')).2.2 = 0 then ((By.getBlob most (l.drop at')).1, at' + (By.getBlob most (l.drop at')).2.1, 0) else ([], at', (By.getBlob most (l.drop at')).2.2)
theorem getBlob_no (most : Nat) (l : List UInt8) (h : (By.getBlob most l).2.2 ≠ 0) : (By.getBlob most l).1 = [] := by
  unfold By.getBlob at h ⊢
  split
  · rfl
  · split
    · rfl
    · split
      · rfl
      · rename_i h1 h2 h3
        rw [if_neg h1, if_neg h2, if_neg h3] at h; exact absurd rfl h
def GbkPost (p : Nat) (v : Value) (d : List UInt8) (at' er : Nat) (w : World) (e : Ending) (w' : World) : Prop := ∃ v', e = .returned v' ∧ Ow w' w.heap.size v' d ∧ Gt w' p v at' er ∧ w.grownBy w' (some p)
set_option maxHeartbeats 1600000 in
set_option maxRecDepth 100000 in
theorem gblob_any (p : Nat) (ba : Option Addr) (n cap : Nat) (l : List UInt8) (at' er most : Nat) (w : World) (hg : Gt w p (.slice ba n cap) at' er) (hn : l.length = n) (hr : Rd w ba l) (hb : ba = none → n = 0) (ha : at' ≤ n) (hc : n ≤ cap) (hl : n ≤ 1099511627776) (hm : most ≤ 1099511627776) :
    Calls Try.prog 64 #[.pointer (some ⟨p, 0, none⟩), .int .i64 most] w (GbkPost p (.slice ba n cap) (gblob most l at' er).1 (gblob most l at' er).2.1 (gblob most l at' er).2.2 w) := by
  have HG := Lib.hid hg
  have c0 := hg.cell 0
  have c1 := hg.cell 1
  have c2 := hg.cell 2
  have hlt := hg.lt
  by_cases h : er = 0
  · subst h
    have cg := fun W (hW : Below w.heap.size w W) => getBlob_any ba n cap l at' most W hn (hr.below hW) hb ha hc hl hm
    have hno := getBlob_no most (l.drop at')
    unfold gblob
    rw [if_neg (by simp)]
    unfold GbPost at cg
    generalize By.getBlob most (l.drop at') = r at cg hno ⊢
    obtain ⟨d, c, e2⟩ := r
    simp only at cg hno ⊢
    have CG := Lib.hid cg
    have HNO := Lib.hid hno
    clear hg hr hn cg hb
    by_cases h2 : e2 = 0
    · subst h2
      clear hno
      simp only [if_true] at CG ⊢
      go_enter Try.func64, Try.ntmps64
      go_wp2_with fail
      go_region_with (go_at_call 80; refine (CG.out _ ((Below.refl _ _).drew)).mono ?_; rintro e w1 ⟨v1, rfl, ho1, hb1⟩)
      all_goals
        have HO1 := Lib.hid (ho1.mono (Nat.le_refl w.heap.size))
        have HB1 := Lib.hid ((Below.refl w.heap.size w).drew.trans (hb1.mono (Nat.le_refl w.heap.size)))
        clear ho1 hb1
        have HT := Lib.hid (fun x y hx hy => took_int p (.slice ba n cap) at' 0 (at' + c) 0 w1 (HG.out.below HB1.out) x y hx hy)
        go_wp2_with fail
        with_reducible refine (HT.out _ _ (by simp) (by simp)).mono ?_
        rintro e w2 ⟨rfl, hg2, hgr2⟩
        have HG2 : Hid (Gt w2 p (.slice ba n cap) (at' + c) 0) := Lib.hid (by simpa using hg2)
        have HR2 := Lib.hid (below_grown HB1.out hgr2)
        have HO2 := Lib.hid (own_kept HO1.out hgr2 (fun k hk e => by have := (HO1.out.lt k hk).1; cases e; omega))
        clear hg2 hgr2
        go_wp2
        go_ret
        exact ⟨_, rfl, HO2.out, HG2.out, HR2.out⟩
    · obtain rfl := hno h2
      clear hno
      simp only [if_neg h2] at CG ⊢
      go_enter Try.func64, Try.ntmps64
      go_wp2_with fail
      go_region_with (go_at_call 80; refine (CG.out _ ((Below.refl _ _).drew)).mono ?_; rintro e w1 ⟨v1, rfl, ho1, hb1⟩)
      all_goals
        have HO1 := Lib.hid (ho1.mono (Nat.le_refl w.heap.size))
        have HB1 := Lib.hid ((Below.refl w.heap.size w).drew.trans (hb1.mono (Nat.le_refl w.heap.size)))
        clear ho1 hb1
        have HT := Lib.hid (fun x y hx hy => took_int p (.slice ba n cap) at' 0 0 e2 w1 (HG.out.below HB1.out) x y hx hy)
        go_wp2_with fail
        with_reducible refine (HT.out _ _ (by simp) (by simp)).mono ?_
        rintro e w2 ⟨rfl, hg2, hgr2⟩
        have HG2 : Hid (Gt w2 p (.slice ba n cap) at' e2) := Lib.hid (by simpa [h2] using hg2)
        have HR2 := Lib.hid (below_grown HB1.out hgr2)
        have HO2 := Lib.hid (own_kept HO1.out hgr2 (fun k hk e => by have := (HO1.out.lt k hk).1; cases e; omega))
        clear hg2 hgr2
        go_wp2
        go_ret
        exact ⟨_, rfl, HO2.out, HG2.out, HR2.out⟩
  · have h' : ((er : Int) != 0) = true := by rw [bne_iff_ne]; omega
    unfold gblob
    rw [if_pos h]
    clear hg hr hn
    go_enter Try.func64, Try.ntmps64
    go_wp2
    go_ret
    exact ⟨_, rfl, Ow.nil _ _, HG.out, grown_refl _ _⟩
end Go.Proofs.Ytndfelbgppbncaa
