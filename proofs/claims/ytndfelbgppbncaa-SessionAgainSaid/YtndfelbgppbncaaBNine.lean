/- package frame: the getter, by contract. -/
import Derived.Test.YtndfelbgppbncaaBEight
import Derived.Laws.Rows
import Derived.Lib.BufferMore
import Derived.OneCell
set_option linter.unusedVariables false
namespace Go.Proofs.Ytndfelbgppbncaa
open Go.RowKit
/-- a block's cells -/
def Blk (w : World) (p : Nat) (cs : Array Value) (T : TypeId) : Prop := w.heap[p]? = some (.cells cs T (0, 0))
theorem Blk.cell {w : World} {p : Nat} {cs : Array Value} {T : TypeId} (h : Blk w p cs T) (o : Nat) : w.cell? ⟨p, o, none⟩ = cs[o]? := by
  unfold Blk at h; unfold World.cell?; simp only [h]; rfl
theorem Blk.free {w : World} {p : Nat} {cs : Array Value} {T : TypeId} (h : Blk w p cs T) (o : Nat) : w.frozen? ⟨p, o, none⟩ = false := by
  unfold Blk at h; unfold World.frozen?; simp only [h]; simp
theorem Blk.lt {w : World} {p : Nat} {cs : Array Value} {T : TypeId} (h : Blk w p cs T) : p < w.heap.size := (Array.getElem?_eq_some_iff.1 h).1
theorem Blk.set {w : World} {p : Nat} {cs : Array Value} {T : TypeId} (h : Blk w p cs T) (i : Nat) (u : Value) : Blk (w.setCell ⟨p, i, none⟩ u) p (cs.setIfInBounds i u) T := Go.Lib.heap_setCell_same h u
theorem Blk.below {w w' : World} {p : Nat} {cs : Array Value} {T : TypeId} (h : Blk w p cs T) (hb : Below w.heap.size w w') : Blk w' p cs T := by
  unfold Blk; rw [hb.block p h.lt]; exact h
theorem Blk.kept {w w' : World} {p : Nat} {cs : Array Value} {T : TypeId} {row : Option Nat} (h : Blk w p cs T) (hg : w.grownBy w' row) (hne : some p ≠ row) : Blk w' p cs T := by
  unfold Blk; rw [hg.block p h.lt hne]; exact h
theorem Blk.new (w : World) (cs : Array Value) (T : TypeId) : Blk (w.alloc (.cells cs T)) w.heap.size cs T := heap_alloc_new _ _
theorem grown_set {w w' : World} {p : Nat} (h : w.grownBy w' (some p)) (i : Nat) (u : Value) : w.grownBy (w'.setCell ⟨p, i, none⟩ u) (some p) :=
  ⟨h.os, h.tape, h.output, by simp; exact h.size, fun k hk hne => by rw [Below.heap_setCell _ _ _ _ (fun e => hne (by rw [e]))]; exact h.block k hk hne⟩
theorem grown_below {w w1 w2 : World} {r : Option Nat} (h : w.grownBy w1 r) (k : Below w1.heap.size w1 w2) : w.grownBy w2 r :=
  ⟨k.os.trans h.os, k.tape.trans h.tape, k.output.trans h.output, Nat.le_trans h.size k.size, fun i hi hne => by rw [k.block i (Nat.lt_of_lt_of_le hi h.size), h.block i hi hne]⟩
theorem grown_trans {w w1 w2 : World} {r : Option Nat} (h : w.grownBy w1 r) (k : w1.grownBy w2 r) : w.grownBy w2 r :=
  ⟨k.os.trans h.os, k.tape.trans h.tape, k.output.trans h.output, Nat.le_trans h.size k.size, fun i hi hne => by rw [k.block i (Nat.lt_of_lt_of_le hi h.size) hne, h.block i hi hne]⟩
theorem below_grown {w w1 w2 : World} {r : Option Nat} (h : Below w.heap.size w w1) (k : w1.grownBy w2 r) : w.grownBy w2 r :=
  ⟨k.os.trans h.os, k.tape.trans h.tape, k.output.trans h.output, Nat.le_trans h.size k.size, fun i hi hne => by rw [k.block i (Nat.lt_of_lt_of_le hi h.size) hne, h.block i hi]⟩
theorem Rd.kept {w w' : World} {ba : Option Addr} {l : List UInt8} {p : Nat} (h : Rd w ba l) (hg : w.grownBy w' (some p)) (hne : ∀ b o, ba = some (⟨b, o, none⟩ : Addr) → b ≠ p) : Rd w' ba l := by
  rcases h with h | ⟨b, o, e, hlt, hc⟩
  · exact Or.inl h
  · refine Or.inr ⟨b, o, e, Nat.lt_of_lt_of_le hlt hg.size, fun i hi => ?_⟩
    rw [World.cell?_of_block (w := w) (hg.block b hlt (fun q => hne b o e (by cases q; rfl)))]; exact hc i hi
/-- a getter: its bytes, place and error -/
def Gt (w : World) (p : Nat) (v : Value) (at' er : Nat) : Prop := Blk w p #[v, .int .i64 at', .int .i64 er] 106
def TookPost (p : Nat) (v : Value) (at' er : Nat) (w : World) (e : Ending) (w' : World) : Prop := e = .returned (.tuple #[]) ∧ Gt w' p v at' er ∧ w.grownBy w' (some p)
set_option maxHeartbeats 1600000 in
set_option maxRecDepth 100000 in
theorem took_any (p : Nat) (v : Value) (at' er nx e2 : Nat) (w : World) (hg : Gt w p v at' er) :
    Calls Try.prog 79 #[.pointer (some ⟨p, 0, none⟩), .int .i64 nx, .int .i64 e2] w (TookPost p v (if e2 = 0 then nx else at') e2 w) := by
  have HG := Lib.hid hg
  have c0 := hg.cell 0
  have c1 := hg.cell 1
  have c2 := hg.cell 2
  have hf := fun o => hg.free o
  have hlt := hg.lt
  clear hg
  by_cases h : e2 = 0
  · subst h
    go_enter Try.func79, Try.ntmps79
    go_wp2
    have hfin : Gt ((w.setCell ⟨p, 2, none⟩ (.int .i64 0)).setCell ⟨p, 1, none⟩ (.int .i64 nx)) p v nx 0 := ((HG.out.set 2 _).set 1 _)
    have hgr : w.grownBy ((w.setCell ⟨p, 2, none⟩ (.int .i64 0)).setCell ⟨p, 1, none⟩ (.int .i64 nx)) (some p) := grown_set (grown_set (grown_refl _ _) _ _) _ _
    go_end0
    exact ⟨rfl, hfin, hgr⟩
  · have h' : ((e2 : Int) == 0) = false := bneI (by omega)
    rw [if_neg h]
    go_enter Try.func79, Try.ntmps79
    go_wp2
    have hfin : Gt (w.setCell ⟨p, 2, none⟩ (.int .i64 e2)) p v at' e2 := HG.out.set 2 _
    have hgr : w.grownBy (w.setCell ⟨p, 2, none⟩ (.int .i64 e2)) (some p) := grown_set (grown_refl _ _) _ _
    go_end0
    exact ⟨rfl, hfin, hgr⟩
theorem took_int (p : Nat) (v : Value) (at' er nx e2 : Nat) (w : World) (hg : Gt w p v at' er) (x y : Int) (hx : x = (nx : Nat)) (hy : y = (e2 : Nat)) :
    Calls Try.prog 79 #[.pointer (some ⟨p, 0, none⟩), .int .i64 x, .int .i64 y] w (TookPost p v (if e2 = 0 then nx else at') e2 w) := by
  subst hx; subst hy; exact took_any p v at' er nx e2 w hg
/-- a getter's number: it, the place behind, the error -/
def gnum (l : List UInt8) (at' er : Nat) : Nat × Nat × Nat := if er ≠ 0 then (0, at', er) else if (By.gu (l.drop at')).2.2 = 0 then ((By.gu (l.drop at')).1, at' + (By.gu (l.drop at')).2.1, 0) else (0, at', (By.gu (l.drop at')).2.2)
theorem gnum_le (l : List UInt8) (at' er : Nat) (h : at' ≤ l.length) : (gnum l at' er).2.1 ≤ l.length := by
  unfold gnum
  split
  · exact h
  · split
    · rename_i h2
      have := By.gu_len _ h2
      rw [List.length_drop] at this
      show at' + _ ≤ _; omega
    · exact h
def GnPost (p : Nat) (v : Value) (x at' er : Nat) (w : World) (e : Ending) (w' : World) : Prop := e = .returned (.int .u64 x) ∧ Gt w' p v at' er ∧ w.grownBy w' (some p)
set_option maxHeartbeats 1600000 in
set_option maxRecDepth 100000 in
theorem guint_any (p : Nat) (ba : Option Addr) (n cap : Nat) (l : List UInt8) (at' er : Nat) (w : World) (hg : Gt w p (.slice ba n cap) at' er) (hn : l.length = n) (hr : Rd w ba l) (ha : at' ≤ n) (hl : n ≤ 1099511627776) :
    Calls Try.prog 63 #[.pointer (some ⟨p, 0, none⟩)] w (GnPost p (.slice ba n cap) (gnum l at' er).1 (gnum l at' er).2.1 (gnum l at' er).2.2 w) := by
  have HG := Lib.hid hg
  have c0 := hg.cell 0
  have c1 := hg.cell 1
  have c2 := hg.cell 2
  have hlt := hg.lt
  by_cases h : er = 0
  · subst h
    have cg := fun k => quiet_flip (getUint_any ba n cap l at' (w.drewN k) hn (hr.below (belowN (Below.refl _ _) k)) ha hl)
    unfold gnum
    rw [if_neg (by simp)]
    generalize By.gu (l.drop at') = r at cg ⊢
    obtain ⟨N, c, e2⟩ := r
    simp only at cg ⊢
    have CG := Lib.hid cg
    have hT := fun k nx => took_int p (.slice ba n cap) at' 0 nx e2 (w.drewN k) (hg.below (belowN (Below.refl _ _) k))
    have HT := Lib.hid hT
    clear hg hr hn cg hT
    by_cases h2 : e2 = 0
    · subst h2
      simp only [if_true] at CG HT ⊢
      go_enter Try.func63, Try.ntmps63
      go_wp2_with fail
      go_quiet ((go_at_call 78; exact Calls.quiet_of_same (CG.out _)))
      go_wp2_with fail
      with_reducible refine (HT.out nq (at' + c) _ _ (by omega) (by omega)).mono ?_
      rintro e w2 ⟨rfl, hg2, hgr2⟩
      have HG2 := Lib.hid hg2
      have HR2 := Lib.hid (below_grown (belowN (Below.refl w.heap.size w) nq) hgr2)
      clear hg2 hgr2
      go_wp2
      go_ret
      exact ⟨rfl, HG2.out, HR2.out⟩
    · simp only [if_neg h2] at CG HT ⊢
      go_enter Try.func63, Try.ntmps63
      go_wp2_with fail
      go_quiet ((go_at_call 78; exact Calls.quiet_of_same (CG.out _)))
      go_wp2_with fail
      with_reducible refine (HT.out nq 0 _ _ (by omega) (by omega)).mono ?_
      rintro e w2 ⟨rfl, hg2, hgr2⟩
      have HG2 := Lib.hid hg2
      have HR2 := Lib.hid (below_grown (belowN (Below.refl w.heap.size w) nq) hgr2)
      clear hg2 hgr2
      go_wp2
      go_ret
      exact ⟨rfl, HG2.out, HR2.out⟩
  · have h' : ((er : Int) != 0) = true := by rw [bne_iff_ne]; omega
    unfold gnum
    rw [if_pos h]
    clear hg hr hn
    go_enter Try.func63, Try.ntmps63
    go_wp2
    go_ret
    exact ⟨rfl, HG.out, grown_refl _ _⟩
end Go.Proofs.Ytndfelbgppbncaa
