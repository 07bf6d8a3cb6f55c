/- package value: the getter, by contract. -/
import Derived.Test.YtgamhgeiceakeaaDoorVPutb
set_option linter.unusedVariables false
set_option linter.unusedSimpArgs false
namespace Go.Proofs.YtgamhgeiceakeaaDoor
open Go.RowKit
open Va (V)
/-- a getter: its bytes, place, how many may come, error -/
def Gv (w : World) (p : Nat) (v : Value) (at' : Nat) (left : Int) (er : Nat) : Prop := Blk w p #[v, .int .i64 at', .int .i64 left, .int .i64 er] 58
def GvPost (p : Nat) (r v : Value) (at' : Nat) (left : Int) (er : Nat) (w : World) (e : Ending) (w' : World) : Prop := e = .returned r ∧ Gv w' p v at' left er ∧ w.grownBy w' (some p)
theorem drewN_grown (w : World) (k : Nat) (r : Option Nat) : w.grownBy (w.drewN k) r := by
  have h := belowN (Below.refl w.heap.size w) k
  exact ⟨h.os, h.tape, h.output, h.size, fun i hi _ => h.block i hi⟩
set_option maxHeartbeats 1600000 in
set_option maxRecDepth 100000 in
theorem vfail_any (p : Nat) (v : Value) (at' : Nat) (left : Int) (er : Nat) (e2 : Int) (e2n : Nat) (he2 : e2 = (e2n : Nat)) (w : World) (hg : Gv w p v at' left er) :
    Calls Tryd.prog 43 #[.pointer (some ⟨p, 0, none⟩), .int .i64 e2] w (GvPost p (.tuple #[]) v at' left (if er = 0 then e2n else er) w) := by
  subst he2
  have HG := Lib.hid hg
  have c3 := hg.cell 3
  have hf := fun o => hg.free o
  have hlt := hg.lt
  clear hg
  by_cases h : er = 0
  · subst h
    rw [if_pos rfl]
    have hfin : Gv (w.setCell ⟨p, 3, none⟩ (.int .i64 e2n)) p v at' left e2n := HG.out.set 3 _
    have hgr : w.grownBy (w.setCell ⟨p, 3, none⟩ (.int .i64 e2n)) (some p) := grown_set (grown_refl _ _) _ _
    have HF := Lib.hid hfin
    have HR := Lib.hid hgr
    clear hfin hgr
    go_enter Tryd.func43, Tryd.ntmps43
    go_wp2
    go_end0
    exact ⟨rfl, HF.out, HR.out⟩
  · rw [if_neg h]
    have h' : ((er : Int) == 0) = false := bneI (by omega)
    go_enter Tryd.func43, Tryd.ntmps43
    go_wp2
    go_end0
    exact ⟨rfl, HG.out, grown_refl _ _⟩
set_option maxHeartbeats 1600000 in
set_option maxRecDepth 100000 in
theorem one_no (p : Nat) (v : Value) (at' : Nat) (left : Int) (er : Nat) (w : World) (hg : Gv w p v at' left er) (h : er ≠ 0) :
    Calls Tryd.prog 44 #[.pointer (some ⟨p, 0, none⟩)] w (GvPost p (.int .u8 0) v at' left er w) := by
  have HG := Lib.hid (fun k => hg.below (belowN (Below.refl w.heap.size w) k))
  have c3 := hg.cell 3
  have hlt := hg.lt
  have h1 : ((er : Int) == 0) = false := bneI (by omega)
  have h2 : ((er : Int) != 0) = true := by rw [bne_iff_ne]; omega
  clear hg
  go_enter Tryd.func44, Tryd.ntmps44
  go_wp2_with fail
  go_quiet (fail)
  go_wp2
  go_ret
  exact ⟨rfl, HG.out _, drewN_grown _ _ _⟩
set_option maxHeartbeats 1600000 in
set_option maxRecDepth 100000 in
theorem one_end (p : Nat) (ba : Option Addr) (n cap : Nat) (left : Int) (w : World) (hg : Gv w p (.slice ba n cap) n left 0) :
    Calls Tryd.prog 44 #[.pointer (some ⟨p, 0, none⟩)] w (GvPost p (.int .u8 0) (.slice ba n cap) n left 11 w) := by
  have CF := Lib.hid (fun k => vfail_any p (.slice ba n cap) n left 0 11 11 rfl (w.drewN k) (hg.below (belowN (Below.refl w.heap.size w) k)))
  have c3 := hg.cell 3
  have c1 := hg.cell 1
  have c0 := hg.cell 0
  have hlt := hg.lt
  clear hg
  go_enter Tryd.func44, Tryd.ntmps44
  go_wp2_with fail
  go_quiet (fail)
  go_wp2_with fail
  refine (CF.out _).mono ?_
  rintro e w2 ⟨rfl, hg2, hr2⟩
  have d3 := hg2.cell 3
  have hlt2 := hg2.lt
  have HG2 := Lib.hid hg2
  have HR2 := Lib.hid (grown_trans (drewN_grown w nq (some p)) hr2)
  clear hg2 hr2
  go_wp2
  go_ret
  exact ⟨rfl, HG2.out, HR2.out⟩
set_option maxHeartbeats 1600000 in
set_option maxRecDepth 100000 in
theorem one_yes (p : Nat) (ba : Option Addr) (n cap : Nat) (l : List UInt8) (at' : Nat) (left : Int) (w : World) (hg : Gv w p (.slice ba n cap) at' left 0) (hn : l.length = n) (hr : Rd w ba l) (hp : l ≠ [] → ∀ b o, ba = some (⟨b, o, none⟩ : Addr) → b ≠ p) (ha : at' < n) (hmx : n ≤ 1099511627776) :
    Calls Tryd.prog 44 #[.pointer (some ⟨p, 0, none⟩)] w (GvPost p (.int .u8 ((l[at']'(hn ▸ ha)).toNat : Nat)) (.slice ba n cap) (at' + 1) left 0 w) := by
  obtain ⟨b, o, rfl, hb, hc⟩ : ∃ b o, ba = some (⟨b, o, none⟩ : Addr) ∧ b < w.heap.size ∧ ∀ i (h : i < l.length), w.cell? ⟨b, o + i, none⟩ = some (.int .u8 (l[i].toNat : Nat)) := by
    rcases hr with h | h
    · exfalso; rw [h] at hn; simp at hn; omega
    · exact h
  have hbp := hp (by rintro rfl; simp at hn; omega) b o rfl
  have hB : ∀ k : Nat, Blk (w.drewN k) p #[.slice (some ⟨b, o, none⟩) n cap, .int .i64 at', .int .i64 left, .int .i64 (0 : Nat)] 58 := fun k => Blk.below hg (belowN (Below.refl w.heap.size w) k)
  have HB := Lib.hid hB
  have hx := hc at' (hn ▸ ha)
  generalize l[at']'(hn ▸ ha) = x at hx ⊢
  have c3 := hg.cell 3
  have c1 := hg.cell 1
  have c0 := hg.cell 0
  have hf := fun o => hg.free o
  have hlt := hg.lt
  have hne : ((at' : Int) == (n : Int)) = false := bneI (by omega)
  clear hg hc hr hp hB
  go_enter Tryd.func44, Tryd.ntmps44
  go_wp2_with fail
  go_quiet (fail)
  go_wp2_with fail
  have B2 := (HB.out nq).set 1 (.int .i64 ((at' : Int) + 1))
  have x2 : ((w.drewN nq).setCell ⟨p, 1, none⟩ (.int .i64 ((at' : Int) + 1))).cell? ⟨b, o + at', none⟩ = some (.int .u8 (x.toNat : Nat)) := by
    have e : (w.drewN nq).cell? ⟨b, o + at', none⟩ = some (.int .u8 (x.toNat : Nat)) := by
      rw [(belowN (Below.refl w.heap.size w) nq).cell (p := ⟨b, o + at', none⟩) hb]; exact hx
    rw [← e]
    exact World.cell?_of_block (w := w.drewN nq) (Below.heap_setCell _ _ _ _ (fun e => hbp (show b = p by simpa using e)))
  have g2 : w.grownBy ((w.drewN nq).setCell ⟨p, 1, none⟩ (.int .i64 ((at' : Int) + 1))) (some p) := grown_set (drewN_grown w nq (some p)) _ _
  clear HB hx c0 c1 c3 hf hlt
  generalize (w.drewN nq).setCell ⟨p, 1, none⟩ (.int .i64 ((at' : Int) + 1)) = W2 at B2 x2 g2 ⊢
  have d0 := B2.cell 0
  have d1 := B2.cell 1
  have hlt2 := B2.lt
  have HB2 := Lib.hid (fun k => B2.below (belowN (Below.refl W2.heap.size W2) k))
  have HG2 := Lib.hid g2
  clear B2 g2
  have hb2 : b < W2.heap.size := by
    unfold World.cell? at x2
    split at x2
    · rename_i h; exact (Array.getElem?_eq_some_iff.1 h).1
    · cases x2
  go_quiet (fail)
  go_wp2
  go_ret
  exact ⟨rfl, HB2.out _, grown_trans HG2.out (drewN_grown _ _ _)⟩
end Go.Proofs.YtgamhgeiceakeaaDoor
