/- ValueOrder, the walk. -/
import Derived.Test.YtgamhgeiceakeaaDoorVLaw
import Derived.Test.YtgamhgeiceakeaaDoorVSpech
import Derived.Deep.DeepCutAuto
set_option linter.unusedVariables false
set_option linter.unusedSimpArgs false
namespace Go.Proofs.YtgamhgeiceakeaaDoor
open Go.RowKit
open Va (V)
structure Kp3 (w : World) (p q r : Nat) (cs cs' cs2 : Array Value) (W : World) : Prop where
  bl : Below w.heap.size w W
  fa : Blk W p cs 25
  fb : Blk W q cs' 25
  fc : Blk W r cs2 25
theorem Kp3.past {w W W' : World} {p q r : Nat} {cs cs' cs2 : Array Value} (h : Kp3 w p q r cs cs' cs2 W) (hb : Below W.heap.size W W') : Kp3 w p q r cs cs' cs2 W' := ⟨bto h.bl hb, h.fa.below hb, h.fb.below hb, h.fc.below hb⟩
theorem small_lit (v : V) (ok : Nat → Prop) (x : Value) (w : World) (h : RV ok w v x) (r : Bool) (hr : Va.smallV v 20 60 = r) : Calls Tryd.prog 9 #[x, .int .i64 20, .int .i64 60] w (MkPost (.bool r) w) := by
  subst hr; exact small_any v ok x w h 20 60 (by omega) (by omega) (by omega) (by omega)
theorem right_lit (v : V) (ok : Nat → Prop) (x : Value) (w : World) (h : RV ok w v x) (r : Bool) (hr : Va.right v = r) : Calls Tryd.prog 13 #[x] w (MkPost (.bool r) w) := by
  subst hr; exact right_any ok v x w h
set_option maxHeartbeats 3200000 in
set_option maxRecDepth 100000 in
theorem order_no (a b c : V) (ok ok' ok2 : Nat → Prop) (xa xb xc : Value) (w : World) (ha : RV ok w a xa) (hb : RV ok' w b xb) (hc : RV ok2 w c xc) (ht : Tab w)
    (h : ¬ (Va.smallV a 20 60 = true ∧ Va.smallV b 20 60 = true ∧ Va.smallV c 20 60 = true)) :
    Calls Tryd.prog 6 #[xa, xb, xc] w (BB true w) := by
  have CA := Lib.hid (fun W (hbl : Below w.heap.size w W) => small_lit a ok xa W (ha.past hbl) _ rfl)
  have CB := Lib.hid (fun W (hbl : Below w.heap.size w W) => small_lit b ok' xb W (hb.past hbl) _ rfl)
  have CC := Lib.hid (fun W (hbl : Below w.heap.size w W) => small_lit c ok2 xc W (hc.past hbl) _ rfl)
  have CW := Lib.hid (fun W (hbl : Below w.heap.size w W) => awake_any W (ht.past hbl))
  have HH := Lib.hid h
  generalize Va.smallV a 20 60 = ra at CA HH
  generalize Va.smallV b 20 60 = rb at CB HH
  generalize Va.smallV c 20 60 = rc at CC HH
  obtain ⟨ka, na, sa, la⟩ := a
  obtain ⟨aa, ca, rfl, -, -, -, hLa⟩ := ha.inv
  obtain ⟨kb, nb, sb, lb⟩ := b
  obtain ⟨ab, cb, rfl, -, -, -, hLb⟩ := hb.inv
  obtain ⟨kc, nc, sc, lc⟩ := c
  obtain ⟨ac, cc, rfl, -, -, -, hLc⟩ := hc.inv
  have hla := hLa.le
  have hlb := hLb.le
  have hlc := hLc.le
  have hw1 : w.heap.size < w.heap.size + 1 + 1 := by omega
  have hw2 : w.heap.size < w.heap.size + 1 + 1 + 1 := by omega
  have hw3 : w.heap.size + 1 < w.heap.size + 1 + 1 + 1 := by omega
  have F0 : Kp3 w w.heap.size (w.heap.size + 1) (w.heap.size + 1 + 1) #[.int .u8 ka, .int .i64 na, .string sa, .slice aa la.length ca] #[.int .u8 kb, .int .i64 nb, .string sb, .slice ab lb.length cb] #[.int .u8 kc, .int .i64 nc, .string sc, .slice ac lc.length cc] (((w.alloc (.cells #[.int .u8 ka, .int .i64 na, .string sa, .slice aa la.length ca] 25)).alloc (.cells #[.int .u8 kb, .int .i64 nb, .string sb, .slice ab lb.length cb] 25)).alloc (.cells #[.int .u8 kc, .int .i64 nc, .string sc, .slice ac lc.length cc] 25)) := by
    have k1 : (w.alloc (.cells #[.int .u8 ka, .int .i64 na, .string sa, .slice aa la.length ca] 25)).heap.size = w.heap.size + 1 := by simp
    have k2 : ((w.alloc (.cells #[.int .u8 ka, .int .i64 na, .string sa, .slice aa la.length ca] 25)).alloc (.cells #[.int .u8 kb, .int .i64 nb, .string sb, .slice ab lb.length cb] 25)).heap.size = w.heap.size + 1 + 1 := by simp
    have b1 := Blk.new w #[.int .u8 ka, .int .i64 na, .string sa, .slice aa la.length ca] 25
    have b2 := Blk.new (w.alloc (.cells #[.int .u8 ka, .int .i64 na, .string sa, .slice aa la.length ca] 25)) #[.int .u8 kb, .int .i64 nb, .string sb, .slice ab lb.length cb] 25
    have b3 := Blk.new ((w.alloc (.cells #[.int .u8 ka, .int .i64 na, .string sa, .slice aa la.length ca] 25)).alloc (.cells #[.int .u8 kb, .int .i64 nb, .string sb, .slice ab lb.length cb] 25)) #[.int .u8 kc, .int .i64 nc, .string sc, .slice ac lc.length cc] 25
    rw [k1] at b2
    rw [k2] at b3
    exact ⟨bbox (bbox (bbox (Below.refl _ _) _) _) _, (b1.below ((Below.refl _ _).alloc (Nat.le_refl _) _)).below ((Below.refl _ _).alloc (Nat.le_refl _) _), b2.below ((Below.refl _ _).alloc (Nat.le_refl _) _), b3⟩
  have HK0 := Lib.hid F0
  clear hLa hLb hLc F0
  clear h ha hb hc ht
  have e0 := HK0.out.fa.cell 0
  have e1 := HK0.out.fa.cell 1
  have e2 := HK0.out.fa.cell 2
  have e3 := HK0.out.fa.cell 3
  have elt := HK0.out.fa.lt
  have d0 := HK0.out.fb.cell 0
  have d1 := HK0.out.fb.cell 1
  have d2 := HK0.out.fb.cell 2
  have d3 := HK0.out.fb.cell 3
  have dlt := HK0.out.fb.lt
  have f0 := HK0.out.fc.cell 0
  have f1 := HK0.out.fc.cell 1
  have f2 := HK0.out.fc.cell 2
  have f3 := HK0.out.fc.cell 3
  have flt := HK0.out.fc.lt
  cases ra with
  | false =>
    go_enter Tryd.func6, Tryd.ntmps6
    go_wp2_with fail
    with_reducible refine (CA.out _ HK0.out.bl).mono ?_
    rintro e w1 ⟨rfl, hb⟩
    have HKw1 := Lib.hid ((HK0.out).past hb)
    clear e0 e1 e2 e3 elt d0 d1 d2 d3 dlt f0 f1 f2 f3 flt
    have e0 := HKw1.out.fa.cell 0
    have e1 := HKw1.out.fa.cell 1
    have e2 := HKw1.out.fa.cell 2
    have e3 := HKw1.out.fa.cell 3
    have elt := HKw1.out.fa.lt
    have d0 := HKw1.out.fb.cell 0
    have d1 := HKw1.out.fb.cell 1
    have d2 := HKw1.out.fb.cell 2
    have d3 := HKw1.out.fb.cell 3
    have dlt := HKw1.out.fb.lt
    have f0 := HKw1.out.fc.cell 0
    have f1 := HKw1.out.fc.cell 1
    have f2 := HKw1.out.fc.cell 2
    have f3 := HKw1.out.fc.cell 3
    have flt := HKw1.out.fc.lt
    clear hb
    go_wp2_with fail
    with_reducible refine (CW.out _ HKw1.out.bl).mono ?_
    rintro e wz ⟨rfl, hb⟩
    have HKwz := Lib.hid ((HKw1.out).past hb)
    clear e0 e1 e2 e3 elt d0 d1 d2 d3 dlt f0 f1 f2 f3 flt
    have e0 := HKwz.out.fa.cell 0
    have e1 := HKwz.out.fa.cell 1
    have e2 := HKwz.out.fa.cell 2
    have e3 := HKwz.out.fa.cell 3
    have elt := HKwz.out.fa.lt
    have d0 := HKwz.out.fb.cell 0
    have d1 := HKwz.out.fb.cell 1
    have d2 := HKwz.out.fb.cell 2
    have d3 := HKwz.out.fb.cell 3
    have dlt := HKwz.out.fb.lt
    have f0 := HKwz.out.fc.cell 0
    have f1 := HKwz.out.fc.cell 1
    have f2 := HKwz.out.fc.cell 2
    have f3 := HKwz.out.fc.cell 3
    have flt := HKwz.out.fc.lt
    clear hb
    go_wp2
    go_ret
    exact ⟨rfl, HKwz.out.bl⟩
  | true =>
    cases rb with
    | false =>
      go_enter Tryd.func6, Tryd.ntmps6
      go_wp2_with fail
      with_reducible refine (CA.out _ HK0.out.bl).mono ?_
      rintro e w1 ⟨rfl, hb⟩
      have HKw1 := Lib.hid ((HK0.out).past hb)
      clear e0 e1 e2 e3 elt d0 d1 d2 d3 dlt f0 f1 f2 f3 flt
      have e0 := HKw1.out.fa.cell 0
      have e1 := HKw1.out.fa.cell 1
      have e2 := HKw1.out.fa.cell 2
      have e3 := HKw1.out.fa.cell 3
      have elt := HKw1.out.fa.lt
      have d0 := HKw1.out.fb.cell 0
      have d1 := HKw1.out.fb.cell 1
      have d2 := HKw1.out.fb.cell 2
      have d3 := HKw1.out.fb.cell 3
      have dlt := HKw1.out.fb.lt
      have f0 := HKw1.out.fc.cell 0
      have f1 := HKw1.out.fc.cell 1
      have f2 := HKw1.out.fc.cell 2
      have f3 := HKw1.out.fc.cell 3
      have flt := HKw1.out.fc.lt
      clear hb
      go_wp2_with fail
      with_reducible refine (CB.out _ HKw1.out.bl).mono ?_
      rintro e w2 ⟨rfl, hb⟩
      have HKw2 := Lib.hid ((HKw1.out).past hb)
      clear e0 e1 e2 e3 elt d0 d1 d2 d3 dlt f0 f1 f2 f3 flt
      have e0 := HKw2.out.fa.cell 0
      have e1 := HKw2.out.fa.cell 1
      have e2 := HKw2.out.fa.cell 2
      have e3 := HKw2.out.fa.cell 3
      have elt := HKw2.out.fa.lt
      have d0 := HKw2.out.fb.cell 0
      have d1 := HKw2.out.fb.cell 1
      have d2 := HKw2.out.fb.cell 2
      have d3 := HKw2.out.fb.cell 3
      have dlt := HKw2.out.fb.lt
      have f0 := HKw2.out.fc.cell 0
      have f1 := HKw2.out.fc.cell 1
      have f2 := HKw2.out.fc.cell 2
      have f3 := HKw2.out.fc.cell 3
      have flt := HKw2.out.fc.lt
      clear hb
      go_wp2_with fail
      with_reducible refine (CW.out _ HKw2.out.bl).mono ?_
      rintro e wz ⟨rfl, hb⟩
      have HKwz := Lib.hid ((HKw2.out).past hb)
      clear e0 e1 e2 e3 elt d0 d1 d2 d3 dlt f0 f1 f2 f3 flt
      have e0 := HKwz.out.fa.cell 0
      have e1 := HKwz.out.fa.cell 1
      have e2 := HKwz.out.fa.cell 2
      have e3 := HKwz.out.fa.cell 3
      have elt := HKwz.out.fa.lt
      have d0 := HKwz.out.fb.cell 0
      have d1 := HKwz.out.fb.cell 1
      have d2 := HKwz.out.fb.cell 2
      have d3 := HKwz.out.fb.cell 3
      have dlt := HKwz.out.fb.lt
      have f0 := HKwz.out.fc.cell 0
      have f1 := HKwz.out.fc.cell 1
      have f2 := HKwz.out.fc.cell 2
      have f3 := HKwz.out.fc.cell 3
      have flt := HKwz.out.fc.lt
      clear hb
      go_wp2
      go_ret
      exact ⟨rfl, HKwz.out.bl⟩
    | true =>
      obtain rfl : rc = false := by cases rc with
        | false => rfl
        | true => exact absurd ⟨rfl, rfl, rfl⟩ HH.out
      go_enter Tryd.func6, Tryd.ntmps6
      go_wp2_with fail
      with_reducible refine (CA.out _ HK0.out.bl).mono ?_
      rintro e w1 ⟨rfl, hb⟩
      have HKw1 := Lib.hid ((HK0.out).past hb)
      clear e0 e1 e2 e3 elt d0 d1 d2 d3 dlt f0 f1 f2 f3 flt
      have e0 := HKw1.out.fa.cell 0
      have e1 := HKw1.out.fa.cell 1
      have e2 := HKw1.out.fa.cell 2
      have e3 := HKw1.out.fa.cell 3
      have elt := HKw1.out.fa.lt
      have d0 := HKw1.out.fb.cell 0
      have d1 := HKw1.out.fb.cell 1
      have d2 := HKw1.out.fb.cell 2
      have d3 := HKw1.out.fb.cell 3
      have dlt := HKw1.out.fb.lt
      have f0 := HKw1.out.fc.cell 0
      have f1 := HKw1.out.fc.cell 1
      have f2 := HKw1.out.fc.cell 2
      have f3 := HKw1.out.fc.cell 3
      have flt := HKw1.out.fc.lt
      clear hb
      go_wp2_with fail
      with_reducible refine (CB.out _ HKw1.out.bl).mono ?_
      rintro e w2 ⟨rfl, hb⟩
      have HKw2 := Lib.hid ((HKw1.out).past hb)
      clear e0 e1 e2 e3 elt d0 d1 d2 d3 dlt f0 f1 f2 f3 flt
      have e0 := HKw2.out.fa.cell 0
      have e1 := HKw2.out.fa.cell 1
      have e2 := HKw2.out.fa.cell 2
      have e3 := HKw2.out.fa.cell 3
      have elt := HKw2.out.fa.lt
      have d0 := HKw2.out.fb.cell 0
      have d1 := HKw2.out.fb.cell 1
      have d2 := HKw2.out.fb.cell 2
      have d3 := HKw2.out.fb.cell 3
      have dlt := HKw2.out.fb.lt
      have f0 := HKw2.out.fc.cell 0
      have f1 := HKw2.out.fc.cell 1
      have f2 := HKw2.out.fc.cell 2
      have f3 := HKw2.out.fc.cell 3
      have flt := HKw2.out.fc.lt
      clear hb
      go_wp2_with fail
      with_reducible refine (CC.out _ HKw2.out.bl).mono ?_
      rintro e w3 ⟨rfl, hb⟩
      have HKw3 := Lib.hid ((HKw2.out).past hb)
      clear e0 e1 e2 e3 elt d0 d1 d2 d3 dlt f0 f1 f2 f3 flt
      have e0 := HKw3.out.fa.cell 0
      have e1 := HKw3.out.fa.cell 1
      have e2 := HKw3.out.fa.cell 2
      have e3 := HKw3.out.fa.cell 3
      have elt := HKw3.out.fa.lt
      have d0 := HKw3.out.fb.cell 0
      have d1 := HKw3.out.fb.cell 1
      have d2 := HKw3.out.fb.cell 2
      have d3 := HKw3.out.fb.cell 3
      have dlt := HKw3.out.fb.lt
      have f0 := HKw3.out.fc.cell 0
      have f1 := HKw3.out.fc.cell 1
      have f2 := HKw3.out.fc.cell 2
      have f3 := HKw3.out.fc.cell 3
      have flt := HKw3.out.fc.lt
      clear hb
      go_wp2_with fail
      with_reducible refine (CW.out _ HKw3.out.bl).mono ?_
      rintro e wz ⟨rfl, hb⟩
      have HKwz := Lib.hid ((HKw3.out).past hb)
      clear e0 e1 e2 e3 elt d0 d1 d2 d3 dlt f0 f1 f2 f3 flt
      have e0 := HKwz.out.fa.cell 0
      have e1 := HKwz.out.fa.cell 1
      have e2 := HKwz.out.fa.cell 2
      have e3 := HKwz.out.fa.cell 3
      have elt := HKwz.out.fa.lt
      have d0 := HKwz.out.fb.cell 0
      have d1 := HKwz.out.fb.cell 1
      have d2 := HKwz.out.fb.cell 2
      have d3 := HKwz.out.fb.cell 3
      have dlt := HKwz.out.fb.lt
      have f0 := HKwz.out.fc.cell 0
      have f1 := HKwz.out.fc.cell 1
      have f2 := HKwz.out.fc.cell 2
      have f3 := HKwz.out.fc.cell 3
      have flt := HKwz.out.fc.lt
      clear hb
      go_wp2
      go_ret
      exact ⟨rfl, HKwz.out.bl⟩
end Go.Proofs.YtgamhgeiceakeaaDoor
