/- ValueApart, the walk. -/
import Derived.Test.YtgamhgeiceakeaaDoorVLaw
set_option linter.unusedVariables false
set_option linter.unusedSimpArgs false
namespace Go.Proofs.YtgamhgeiceakeaaDoor
open Go.RowKit
open Va (V)
set_option maxHeartbeats 3200000 in
set_option maxRecDepth 100000 in
theorem apart_no (a b : V) (ok ok' : Nat → Prop) (xa xb : Value) (ba : Option Addr) (n cap : Nat) (cut : Int) (w : World) (ha : RV ok w a xa) (hb : RV ok' w b xb) (ht : Tab w) (hn : n ≤ maxLen)
    (h : ¬ ((Va.smallV a 20 60 && Va.right a) = true ∧ (Va.smallV b 20 60 && Va.right b) = true ∧ n ≤ 100)) :
    Calls Tryd.prog 7 #[xa, xb, .slice ba n cap, .int .u16 cut] w (BB true w) := by
  have CA := Lib.hid (fun W (hbl : Below w.heap.size w W) => right02_any a ok xa W (ha.past hbl) _ rfl)
  have CB := Lib.hid (fun W (hbl : Below w.heap.size w W) => right02_any b ok' xb W (hb.past hbl) _ rfl)
  have CW := Lib.hid (fun W (hbl : Below w.heap.size w W) => awake_any W (ht.past hbl))
  obtain ⟨ka, na, sa, la⟩ := a
  obtain ⟨aa, ca, rfl, -, -, -, hLa⟩ := ha.inv
  obtain ⟨kb, nb, sb, lb⟩ := b
  obtain ⟨ab, cb, rfl, -, -, -, hLb⟩ := hb.inv
  have hla := hLa.le
  have hlb := hLb.le
  have hw1 : w.heap.size < w.heap.size + 1 + 1 := by omega
  have F := (Blk.new w #[.int .u8 ka, .int .i64 na, .string sa, .slice aa la.length ca] 25).below ((Below.refl _ _).alloc (Nat.le_refl _) (.cells #[.int .u8 kb, .int .i64 nb, .string sb, .slice ab lb.length cb] 25))
  have F' := Blk.new (w.alloc (.cells #[.int .u8 ka, .int .i64 na, .string sa, .slice aa la.length ca] 25)) #[.int .u8 kb, .int .i64 nb, .string sb, .slice ab lb.length cb] 25
  rw [show (w.alloc (.cells #[.int .u8 ka, .int .i64 na, .string sa, .slice aa la.length ca] 25)).heap.size = w.heap.size + 1 by simp] at F'
  have hB1 : Below w.heap.size w ((w.alloc (.cells #[.int .u8 ka, .int .i64 na, .string sa, .slice aa la.length ca] 25)).alloc (.cells #[.int .u8 kb, .int .i64 nb, .string sb, .slice ab lb.length cb] 25)) := ((Below.refl _ _).alloc (Nat.le_refl _) _).alloc (by simp) _
  have HF := Lib.hid F
  have HF' := Lib.hid F'
  have HB1 := Lib.hid hB1
  clear hLa hLb hB1 F F'
  unfold maxLen at hn
  have HH := Lib.hid h
  generalize (Va.smallV (.mk ka na sa la) 20 60 && Va.right (.mk ka na sa la)) = ra at CA HH
  generalize (Va.smallV (.mk kb nb sb lb) 20 60 && Va.right (.mk kb nb sb lb)) = rb at CB HH
  clear h ha hb ht
  cases ra with
  | false =>
    go_enter Tryd.func7, Tryd.ntmps7
    go_wp2_with fail
    with_reducible refine (CA.out _ HB1.out).mono ?_
    rintro e w1 ⟨rfl, hb⟩
    have HBw1 := Lib.hid (bto HB1.out hb)
    clear hb
    go_wp2_with fail
    with_reducible refine (CW.out _ HBw1.out).mono ?_
    rintro e w2 ⟨rfl, hb⟩
    have HBw2 := Lib.hid (bto HBw1.out hb)
    clear hb
    go_wp2
    go_ret
    exact ⟨rfl, HBw2.out⟩
  | true =>
    cases rb with
    | false =>
      go_enter Tryd.func7, Tryd.ntmps7
      go_wp2_with fail
      with_reducible refine (CA.out _ HB1.out).mono ?_
      rintro e w1 ⟨rfl, hb⟩
      have HBw1 := Lib.hid (bto HB1.out hb)
      have F := HF.out.below hb
      have F' := HF'.out.below hb
      have e0 := F.cell 0
      have e1 := F.cell 1
      have e2 := F.cell 2
      have e3 := F.cell 3
      have elt := F.lt
      have d0 := F'.cell 0
      have d1 := F'.cell 1
      have d2 := F'.cell 2
      have d3 := F'.cell 3
      have dlt := F'.lt
      clear hb F F'
      go_wp2_with fail
      with_reducible refine (CB.out _ HBw1.out).mono ?_
      rintro e w2 ⟨rfl, hb⟩
      have HBw2 := Lib.hid (bto HBw1.out hb)
      clear hb
      go_wp2_with fail
      with_reducible refine (CW.out _ HBw2.out).mono ?_
      rintro e w3 ⟨rfl, hb⟩
      have HBw3 := Lib.hid (bto HBw2.out hb)
      clear hb
      go_wp2
      go_ret
      exact ⟨rfl, HBw3.out⟩
    | true =>
      have hn1 : (100 : Int) < (n : Int) := by
        have := HH.out
        simp only [true_and] at this
        omega
      go_enter Tryd.func7, Tryd.ntmps7
      go_wp2_with fail
      with_reducible refine (CA.out _ HB1.out).mono ?_
      rintro e w1 ⟨rfl, hb⟩
      have HBw1 := Lib.hid (bto HB1.out hb)
      have F := HF.out.below hb
      have F' := HF'.out.below hb
      have e0 := F.cell 0
      have e1 := F.cell 1
      have e2 := F.cell 2
      have e3 := F.cell 3
      have elt := F.lt
      have d0 := F'.cell 0
      have d1 := F'.cell 1
      have d2 := F'.cell 2
      have d3 := F'.cell 3
      have dlt := F'.lt
      clear hb F F'
      go_wp2_with fail
      with_reducible refine (CB.out _ HBw1.out).mono ?_
      rintro e w2 ⟨rfl, hb⟩
      have HBw2 := Lib.hid (bto HBw1.out hb)
      clear hb
      go_wp2_with fail
      with_reducible refine (CW.out _ HBw2.out).mono ?_
      rintro e w3 ⟨rfl, hb⟩
      have HBw3 := Lib.hid (bto HBw2.out hb)
      clear hb
      go_wp2
      go_ret
      exact ⟨rfl, HBw3.out⟩
end Go.Proofs.YtgamhgeiceakeaaDoor
