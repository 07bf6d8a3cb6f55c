/- ValueBack, the walk. -/
import Derived.Test.YtgamhgeiceakeaaDoorVOrder
set_option linter.unusedVariables false
set_option linter.unusedSimpArgs false
namespace Go.Proofs.YtgamhgeiceakeaaDoor
open Go.RowKit
open Va (V)
structure Kp1 (w : World) (p : Nat) (cs : Array Value) (W : World) : Prop where
  bl : Below w.heap.size w W
  fa : Blk W p cs 25
theorem Kp1.past {w W W' : World} {p : Nat} {cs : Array Value} (h : Kp1 w p cs W) (hb : Below W.heap.size W W') : Kp1 w p cs W' := ⟨bto h.bl hb, h.fa.below hb⟩
theorem Kp1.more {w W : World} {p : Nat} {cs : Array Value} (h : Kp1 w p cs W) (o : Obj) : Kp1 w p cs (W.alloc o) := h.past ((Below.refl _ _).alloc (Nat.le_refl _) o)
theorem Kp1.row {w W W' : World} {p n : Nat} {cs : Array Value} {v v' : Value} {xs : List Value} (h : Kp1 w p cs W) (ho : W.ownsRow w.heap.size 5 1 v n xs) (hg : Gw W W' v v') : Kp1 w p cs W' :=
  ⟨Gw.less h.bl hg h.bl.size (fun i hi => (ho.lt i hi).1), h.fa.kept hg.grown (own_ne ho h.fa (by decide))⟩
theorem get_gen (ba : Option Addr) (n cap : Nat) (l : List UInt8) (at' at2 lf : Nat) (v : V) (w : World) (hn : l.length = n) (hr : Rd w ba l) (hmx : n ≤ 1099511627776) (hnil : ba = none → n = 0) (hnc : n ≤ cap) (ha : at' ≤ n) (hg : Va.get l at' = .ok (v, at2, lf)) :
    Calls Tryd.prog 11 #[.slice ba n cap, .int .i64 at'] w (GyPost v at2 w) := by
  have C0 := get_in n cap ba l at' w hn hr hmx hnil hnc ha
  rw [hg] at C0
  refine C0.mono fun e w' hp => ?_
  obtain ⟨x, he, hx, hb⟩ := hp
  obtain ⟨k, n, s, l⟩ := v
  obtain ⟨ba, c, rfl, _, _, _, hL⟩ := hx.inv
  exact ⟨ba, c, he, hx, hL.le, hb⟩
theorem get_bad_gen (ba : Option Addr) (n cap : Nat) (l : List UInt8) (at' er : Nat) (w : World) (hn : l.length = n) (hr : Rd w ba l) (hmx : n ≤ 1099511627776) (hnil : ba = none → n = 0) (hnc : n ≤ cap) (ha : at' ≤ n) (hg : Va.get l at' = .error er) :
    Calls Tryd.prog 11 #[.slice ba n cap, .int .i64 at'] w (GetPost (.error er) w) := by
  have C0 := get_in n cap ba l at' w hn hr hmx hnil hnc ha
  rw [hg] at C0; exact C0
def PoPost (B : Nat) (A : List UInt8) (u : Value) (w : World) (e : Ending) (w' : World) : Prop := ∃ b c, e = .returned (.tuple #[.slice (some ⟨b, 0, none⟩) A.length c, .int .i64 0]) ∧ Ow w' B (.slice (some ⟨b, 0, none⟩) A.length c) A ∧ Gw w w' u (.slice (some ⟨b, 0, none⟩) A.length c) ∧ A.length ≤ c
theorem put_own_yes (v : V) (ok : Nat → Prop) (x : Value) (W0 w : World) (h : RV ok W0 v x) (hw : Below W0.heap.size W0 w) (u : Value) (r : List UInt8) (ho : Ow w W0.heap.size u r) (hl : r.length ≤ 137438953472) (hr : Va.right v = true) (A : List UInt8) (hA : A = r ++ Va.enc v) :
    Calls Tryd.prog 12 #[u, x] w (PoPost W0.heap.size A u w) :=
  (Put_any ok v x W0 h w hw W0.heap.size (Nat.le_refl _) hw.size u r ho hl).mono fun e w' hp => by
    subst hA
    rcases hp with ⟨_, v', he, ho', hg, hn⟩ | ⟨h', _⟩
    · obtain ⟨b, c, rfl, _, h2, _⟩ := Ow.addr ho' (by intro e; exact enc_ne v (List.append_eq_nil_iff.1 e).2)
      exact ⟨b, c, he, ho', hg, h2⟩
    · rw [hr] at h'; cases h'
theorem put_own_no (v : V) (ok : Nat → Prop) (x : Value) (W0 w : World) (h : RV ok W0 v x) (hw : Below W0.heap.size W0 w) (u : Value) (r : List UInt8) (ho : Ow w W0.heap.size u r) (hl : r.length ≤ 137438953472) (hr : Va.right v = false) :
    Calls Tryd.prog 12 #[u, x] w (MkPost (.tuple #[.slice none 0 0, .int .i64 13]) w) :=
  (Put_any ok v x W0 h w hw W0.heap.size (Nat.le_refl _) hw.size u r ho hl).mono fun e w' hp => by
    rcases hp with ⟨h', _⟩ | ⟨_, he, hb⟩
    · rw [hr] at h'; cases h'
    · exact ⟨he, hb⟩
set_option maxHeartbeats 3200000 in
set_option maxRecDepth 100000 in
theorem back_no (v : V) (ok : Nat → Prop) (x : Value) (ba bb : Option Addr) (n cap m cb : Nat) (w : World) (hv : RV ok w v x) (ht : Tab w) (hn : n ≤ maxLen) (hm : m ≤ maxLen)
    (h : ¬ (Va.smallV v 20 60 = true ∧ n ≤ 1000 ∧ m ≤ 100)) :
    Calls Tryd.prog 3 #[x, .slice ba n cap, .slice bb m cb] w (BB true w) := by
  have CA := Lib.hid (fun W (hbl : Below w.heap.size w W) => small_lit v ok x W (hv.past hbl) _ rfl)
  have CW := Lib.hid (fun W (hbl : Below w.heap.size w W) => awake_any W (ht.past hbl))
  have HH := Lib.hid h
  generalize Va.smallV v 20 60 = ra at CA HH
  unfold maxLen at hn hm
  obtain ⟨ka, na, sa, la⟩ := v
  obtain ⟨aa, ca, rfl, -, -, -, hLa⟩ := hv.inv
  have hla := hLa.le
  have HK0 := Lib.hid (⟨(Below.refl _ _).alloc (Nat.le_refl _) _, Blk.new w _ _⟩ : Kp1 w w.heap.size #[.int .u8 ka, .int .i64 na, .string sa, .slice aa la.length ca] (w.alloc (.cells #[.int .u8 ka, .int .i64 na, .string sa, .slice aa la.length ca] 25)))
  clear hLa
  have e0 := HK0.out.fa.cell 0
  have e1 := HK0.out.fa.cell 1
  have e2 := HK0.out.fa.cell 2
  have e3 := HK0.out.fa.cell 3
  have elt := HK0.out.fa.lt
  clear h hv ht
  cases ra with
  | false =>
    go_enter Tryd.func3, Tryd.ntmps3
    go_wp2_with fail
    with_reducible refine (CA.out _ HK0.out.bl).mono ?_
    rintro e w1 ⟨rfl, hb⟩
    have HKw1 := Lib.hid ((HK0.out).past hb)
    clear e0 e1 e2 e3 elt
    have e0 := HKw1.out.fa.cell 0
    have e1 := HKw1.out.fa.cell 1
    have e2 := HKw1.out.fa.cell 2
    have e3 := HKw1.out.fa.cell 3
    have elt := HKw1.out.fa.lt
    clear hb
    go_wp2_with fail
    with_reducible refine (CW.out _ HKw1.out.bl).mono ?_
    rintro e wz ⟨rfl, hb⟩
    have HKwz := Lib.hid ((HKw1.out).past hb)
    clear e0 e1 e2 e3 elt
    have e0 := HKwz.out.fa.cell 0
    have e1 := HKwz.out.fa.cell 1
    have e2 := HKwz.out.fa.cell 2
    have e3 := HKwz.out.fa.cell 3
    have elt := HKwz.out.fa.lt
    clear hb
    go_wp2
    go_ret
    exact ⟨rfl, HKwz.out.bl⟩
  | true =>
    by_cases h1 : (1000 : Int) < (n : Int)
    · go_enter Tryd.func3, Tryd.ntmps3
      go_wp2_with fail
      with_reducible refine (CA.out _ HK0.out.bl).mono ?_
      rintro e w1 ⟨rfl, hb⟩
      have HKw1 := Lib.hid ((HK0.out).past hb)
      clear e0 e1 e2 e3 elt
      have e0 := HKw1.out.fa.cell 0
      have e1 := HKw1.out.fa.cell 1
      have e2 := HKw1.out.fa.cell 2
      have e3 := HKw1.out.fa.cell 3
      have elt := HKw1.out.fa.lt
      clear hb
      go_wp2_with fail
      with_reducible refine (CW.out _ HKw1.out.bl).mono ?_
      rintro e wz ⟨rfl, hb⟩
      have HKwz := Lib.hid ((HKw1.out).past hb)
      clear e0 e1 e2 e3 elt
      have e0 := HKwz.out.fa.cell 0
      have e1 := HKwz.out.fa.cell 1
      have e2 := HKwz.out.fa.cell 2
      have e3 := HKwz.out.fa.cell 3
      have elt := HKwz.out.fa.lt
      clear hb
      go_wp2
      go_ret
      exact ⟨rfl, HKwz.out.bl⟩
    · have h2 : (100 : Int) < (m : Int) := by
        have := HH.out
        simp only [true_and] at this
        omega
      go_enter Tryd.func3, Tryd.ntmps3
      go_wp2_with fail
      with_reducible refine (CA.out _ HK0.out.bl).mono ?_
      rintro e w1 ⟨rfl, hb⟩
      have HKw1 := Lib.hid ((HK0.out).past hb)
      clear e0 e1 e2 e3 elt
      have e0 := HKw1.out.fa.cell 0
      have e1 := HKw1.out.fa.cell 1
      have e2 := HKw1.out.fa.cell 2
      have e3 := HKw1.out.fa.cell 3
      have elt := HKw1.out.fa.lt
      clear hb
      go_wp2_with fail
      with_reducible refine (CW.out _ HKw1.out.bl).mono ?_
      rintro e wz ⟨rfl, hb⟩
      have HKwz := Lib.hid ((HKw1.out).past hb)
      clear e0 e1 e2 e3 elt
      have e0 := HKwz.out.fa.cell 0
      have e1 := HKwz.out.fa.cell 1
      have e2 := HKwz.out.fa.cell 2
      have e3 := HKwz.out.fa.cell 3
      have elt := HKwz.out.fa.lt
      clear hb
      go_wp2
      go_ret
      exact ⟨rfl, HKwz.out.bl⟩
end Go.Proofs.YtgamhgeiceakeaaDoor
