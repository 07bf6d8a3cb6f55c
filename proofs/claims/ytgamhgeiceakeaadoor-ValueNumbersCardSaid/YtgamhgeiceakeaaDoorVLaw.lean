/- What the laws of droverlaw02 share. -/
import Derived.Test.YtgamhgeiceakeaaDoorVAwC
import Derived.Test.YtgamhgeiceakeaaDoorVSpecg
set_option linter.unusedVariables false
set_option linter.unusedSimpArgs false
namespace Go.Proofs.YtgamhgeiceakeaaDoor
open Go.RowKit
open Va (V)
set_option maxHeartbeats 1600000 in
set_option maxRecDepth 100000 in
theorem right02_any (v : V) (ok : Nat → Prop) (x : Value) (w : World) (h : RV ok w v x) (r : Bool) (hr : (Va.smallV v 20 60 && Va.right v) = r) : Calls Tryd.prog 17 #[x] w (MkPost (.bool r) w) := by
  have CS := Lib.hid (fun W (hb : Below w.heap.size w W) => (show Calls Tryd.prog 9 #[x, .int .i64 20, .int .i64 60] W (MkPost (.bool (Va.smallV v 20 60)) W) from small_any v ok x W (h.past hb) 20 60 (by omega) (by omega) (by omega) (by omega)))
  have CR := Lib.hid (fun W (hb : Below w.heap.size w W) => right_any ok v x W (h.past hb))
  obtain ⟨k, n, s, l⟩ := v
  obtain ⟨ba, cap, rfl, -, -, -, hL⟩ := h.inv
  have hlc := hL.le
  have hB1 : Below w.heap.size w (w.alloc (.cells #[.int .u8 k, .int .i64 n, .string s, .slice ba l.length cap] 25)) := (Below.refl _ _).alloc (Nat.le_refl _) _
  have HF := Lib.hid (Blk.new w #[.int .u8 k, .int .i64 n, .string s, .slice ba l.length cap] 25)
  have C1 := Lib.hid (CS.out _ hB1)
  have HB1 := Lib.hid hB1
  clear hB1 h hL CS
  generalize V.mk k n s l = v at *
  subst hr
  cases hs : Va.smallV v 20 60 with
  | false =>
    rw [hs] at C1
    go_enter Tryd.func17, Tryd.ntmps17
    go_wp2_with fail
    with_reducible refine (C1.out).mono ?_
    rintro e w1 ⟨rfl, hb⟩
    have HB2 := Lib.hid (bto HB1.out hb)
    clear hb
    go_wp2
    go_ret
    exact ⟨rfl, HB2.out⟩
  | true =>
    rw [hs] at C1
    go_enter Tryd.func17, Tryd.ntmps17
    go_wp2_with fail
    with_reducible refine (C1.out).mono ?_
    rintro e w1 ⟨rfl, hb⟩
    have F1 := HF.out.below hb
    have e0 := F1.cell 0
    have e1 := F1.cell 1
    have e2 := F1.cell 2
    have e3 := F1.cell 3
    have hlt := F1.lt
    have HB2 := Lib.hid (bto HB1.out hb)
    have C2 := Lib.hid (CR.out w1 HB2.out)
    clear hb F1 C1
    go_wp2_with fail
    with_reducible refine (C2.out).mono ?_
    rintro e w2 ⟨rfl, hb⟩
    have HB3 := Lib.hid (bto HB2.out hb)
    clear hb
    go_wp2
    go_ret
    exact ⟨by simp, HB3.out⟩
theorem Same_lit (v u : V) (ok ok' : Nat → Prop) (x y : Value) (w : World) (r : Bool) (hr : (Va.cmpV v u 16 == 0) = r) (h : RV ok w v x) (h' : RV ok' w u y) : Calls Tryd.prog 20 #[x, y] w (MkPost (.bool r) w) :=
  (Same_any v u ok ok' x y w h h').mono fun e w' ⟨he, hb⟩ => ⟨by rw [he, hr], hb⟩
theorem sameBytes_lit (ba bb : Option Addr) (n m ca cb : Nat) (l r : List UInt8) (w : World) (b : Bool) (hb : (l == r) = b) (hn : l.length = n) (hr : Rd w ba l) (hba : ba = none → n = 0) (hn' : r.length = m) (hr' : Rd w bb r) (hb' : bb = none → m = 0) :
    Calls Tryd.prog 14 #[.slice ba n ca, .slice bb m cb] w fun e w' => e = .returned (.bool b) ∧ w = w' := by
  subst hb; exact sameBytes_any ba bb n m ca cb l r w hn hr hba hn' hr' hb'
theorem alike_lit (v u : V) (ok ok' : Nat → Prop) (x y : Value) (w : World) (r : Bool) (hr : Va.alkV v u = r) (h : RV ok w v x) (h' : RV ok' w u y) : Calls Tryd.prog 16 #[x, y] w (MkPost (.bool r) w) := by
  subst hr; exact alike_any v u ok ok' x y w h h'
def OwnPost (l : List UInt8) (w : World) (e : Ending) (w' : World) : Prop := ∃ g c, e = .returned (.slice g l.length c) ∧ Ow w' w.heap.size (.slice g l.length c) l ∧ Below w.heap.size w w'
set_option maxHeartbeats 800000 in
theorem copyBytes_any (ba : Option Addr) (n cap : Nat) (l : List UInt8) (w : World) (hn : l.length = n) (hr : Rd w ba l) (hb : ba = none → n = 0) (hl : n ≤ 1099511627776) :
    Calls Tryd.prog 15 #[.slice ba n cap] w (OwnPost l w) := by
  subst hn
  obtain ⟨i0, hi, hz0, hz1, hz2⟩ := info_parts Tryd.info_u8
  have HR := Lib.hid hr
  have HBA := Lib.hid hb
  clear hr hb
  go_enter Tryd.func15, Tryd.ntmps15
  go_wp2_with (at_builtin; refine wpList_append_rd _ rfl _ _ 26 rfl w.heap.size 5 i0 (.int .u8 0) 1 1 Tryd.underlying26 hi hz0 hz1 hz2 rfl (by decide) (.slice none 0 0) 0 [] rfl (World.ownsRow_nil _ _ _ _) ba l.length cap (u8s l) rfl ?c0 HBA.out ?c1 (u8s_one l) ?c3 ?c4 ?c5 ?_)
  case c0 => rw [u8s_len]; omega
  case c1 =>
    intro ad he j u hj
    have hjl : j < l.length := by have := (List.getElem?_eq_some_iff.1 hj).1; rw [u8s_len] at this; exact this
    rcases HR.out with h | ⟨b, o, e, hlt, hc⟩
    · rw [h] at hjl; simp at hjl
    · rw [he] at e; cases e
      rw [addPl, hc j hjl, ← hj]
      unfold u8s; simp [hjl]
  case c3 => unfold maxLen; omega
  case c4 => omega
  case c5 => simp
  intro v2 w2 ho2 hg2 hn2
  have hown2 : Ow w2 w.heap.size v2 l := by unfold Ow; simpa using ho2
  have hb2 : Below w.heap.size w w2 := (Below.refl _ w).grown hg2.grown (Nat.le_refl _) (by simp [Value.ownBlock])
  obtain ⟨b1, c1, rfl, _, _, _⟩ := hown2.rd
  have HO2 := Lib.hid hown2
  have HB2 := Lib.hid hb2
  clear ho2 hg2 hn2 hown2 hb2
  go_wp2
  go_ret
  exact ⟨b1, c1, rfl, HO2.out, HB2.out⟩
/-- two boxes that stay -/
structure Kp2 (w : World) (p q : Nat) (cs cs' : Array Value) (W : World) : Prop where
  bl : Below w.heap.size w W
  fa : Blk W p cs 25
  fb : Blk W q cs' 25
theorem Kp2.past {w W W' : World} {p q : Nat} {cs cs' : Array Value} (h : Kp2 w p q cs cs' W) (hb : Below W.heap.size W W') : Kp2 w p q cs cs' W' := ⟨bto h.bl hb, h.fa.below hb, h.fb.below hb⟩
theorem Kp2.more {w W : World} {p q : Nat} {cs cs' : Array Value} (h : Kp2 w p q cs cs' W) (o : Obj) : Kp2 w p q cs cs' (W.alloc o) := h.past ((Below.refl _ _).alloc (Nat.le_refl _) o)
theorem Kp2.row {w W W' : World} {p q n : Nat} {cs cs' : Array Value} {v v' : Value} {xs : List Value} (h : Kp2 w p q cs cs' W) (ho : W.ownsRow w.heap.size 5 1 v n xs) (hg : Gw W W' v v') : Kp2 w p q cs cs' W' :=
  ⟨Gw.less h.bl hg h.bl.size (fun i hi => (ho.lt i hi).1), h.fa.kept hg.grown (own_ne ho h.fa (by decide)), h.fb.kept hg.grown (own_ne ho h.fb (by decide))⟩
theorem Rd.row {w W W' : World} {ba : Option Addr} {l : List UInt8} {v v' : Value} {B n : Nat} {xs : List Value} (h : Rd W ba l) (ho : W.ownsRow B 5 1 v n xs) (hg : Gw W W' v v') (hne : l ≠ [] → ∀ b o, ba = some (⟨b, o, none⟩ : Addr) → some b ≠ v.ownBlock) : Rd W' ba l := by
  by_cases hl : l = []
  · exact Or.inl hl
  · rcases h with h | ⟨b, o, e, hlt, hc⟩
    · exact absurd h hl
    · refine Or.inr ⟨b, o, e, Nat.lt_of_lt_of_le hlt hg.grown.size, fun i hi => ?_⟩
      rw [World.cell?_of_block (w := W) (hg.grown.block b hlt (hne hl b o e))]; exact hc i hi
end Go.Proofs.YtgamhgeiceakeaaDoor
