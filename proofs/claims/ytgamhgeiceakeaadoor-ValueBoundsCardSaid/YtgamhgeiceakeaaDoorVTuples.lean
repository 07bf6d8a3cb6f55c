/- ValueTuples, the walk. -/
import Derived.Test.YtgamhgeiceakeaaDoorVBack
import Derived.Test.YtgamhgeiceakeaaDoorVSpeci
set_option linter.unusedVariables false
set_option linter.unusedSimpArgs false
namespace Go.Proofs.YtgamhgeiceakeaaDoor
open Go.RowKit
open Va (V)
theorem rv_tup {ok : Nat → Prop} {w : World} {l : List V} {ba : Option Addr} {cap : Nat} (h : RL ok w l ba cap) : RV ok w (.mk 4 0 Va.em l) (.agg #[.int .u8 4, .int .i64 0, .string ⟨#[]⟩, .slice ba l.length cap]) :=
  RV.mk' (k := 4) (s := Va.em) (by decide) (by unfold Va.I64; omega) (by decide) h
theorem RL.past {ok : Nat → Prop} {w w' : World} {l : List V} {ba : Option Addr} {cap : Nat} (h : RL ok w l ba cap) (hb : Below w.heap.size w w') : RL ok w' l ba cap := h.kept hb.size (fun b _ hlt => hb.block b hlt)
set_option maxHeartbeats 3200000 in
set_option maxRecDepth 100000 in
theorem tuples_no (l m : List V) (ok ok' : Nat → Prop) (ba bb : Option Addr) (cap cb : Nat) (w : World) (hl : RL ok w l ba cap) (hm : RL ok' w m bb cb) (ht : Tab w)
    (h : ¬ (l.length ≤ 10 ∧ m.length ≤ 10 ∧ (Va.smallV (.mk 4 0 Va.em l) 20 60 && Va.right (.mk 4 0 Va.em l)) = true ∧ (Va.smallV (.mk 4 0 Va.em m) 20 60 && Va.right (.mk 4 0 Va.em m)) = true)) :
    Calls Tryd.prog 4 #[.slice ba l.length cap, .slice bb m.length cb] w (BB true w) := by
  have CA := Lib.hid (fun W (hbl : Below w.heap.size w W) => right02_any (.mk 4 0 Va.em l) ok _ W (rv_tup (hl.past hbl)) _ rfl)
  have CB := Lib.hid (fun W (hbl : Below w.heap.size w W) => right02_any (.mk 4 0 Va.em m) ok' _ W (rv_tup (hm.past hbl)) _ rfl)
  have CW := Lib.hid (fun W (hbl : Below w.heap.size w W) => awake_any W (ht.past hbl))
  have HH := Lib.hid h
  generalize (Va.smallV (.mk 4 0 Va.em l) 20 60 && Va.right (.mk 4 0 Va.em l)) = ra at CA HH
  generalize (Va.smallV (.mk 4 0 Va.em m) 20 60 && Va.right (.mk 4 0 Va.em m)) = rb at CB HH
  have hlc := hl.le
  have hmc := hm.le
  have hlen : l.length ≤ 9223372036854775807 := by have h1 := hl.le; have h2 := hl.max; simp only [maxLen] at h2; omega
  have hlen2 : m.length ≤ 9223372036854775807 := by have h1 := hm.le; have h2 := hm.max; simp only [maxLen] at h2; omega
  have hw1 : w.heap.size < w.heap.size + 1 + 1 := by omega
  have F := (Blk.new w #[.int .u8 4, .int .i64 0, .string ⟨#[]⟩, .slice ba l.length cap] 25).below ((Below.refl _ _).alloc (Nat.le_refl _) (.cells #[.int .u8 4, .int .i64 0, .string ⟨#[]⟩, .slice bb m.length cb] 25))
  have F' := Blk.new (w.alloc (.cells #[.int .u8 4, .int .i64 0, .string ⟨#[]⟩, .slice ba l.length cap] 25)) #[.int .u8 4, .int .i64 0, .string ⟨#[]⟩, .slice bb m.length cb] 25
  rw [show (w.alloc (.cells #[.int .u8 4, .int .i64 0, .string ⟨#[]⟩, .slice ba l.length cap] 25)).heap.size = w.heap.size + 1 by simp] at F'
  have HK0 := Lib.hid (⟨bbox (bbox (Below.refl _ _) _) _, F, F'⟩ : Kp2 w w.heap.size (w.heap.size + 1) _ _ _)
  clear F F'
  have e0 := HK0.out.fa.cell 0
  have e1 := HK0.out.fa.cell 1
  have e2 := HK0.out.fa.cell 2
  have e3 := HK0.out.fa.cell 3
  have elt := HK0.out.fa.lt
  have d0 := HK0.out.fb.cell 0
  have d1 := HK0.out.fb.cell 1
  have d2 := HK0.out.fb.cell 2
  have d3 := HK0.out.fb.cell 3
  have dlt := HK0.out.fb.lt
  clear h hl hm ht
  by_cases h1 : (10 : Int) < (l.length : Int)
  · go_enter Tryd.func4, Tryd.ntmps4
    go_wp2_with fail
    with_reducible refine (CW.out _ HK0.out.bl).mono ?_
    rintro e wz ⟨rfl, hb⟩
    have HKwz := Lib.hid ((HK0.out).past hb)
    clear e0 e1 e2 e3 elt d0 d1 d2 d3 dlt
    have e0 := HKwz.out.fa.cell 0
    have e1 := HKwz.out.fa.cell 1
    have e2 := HKwz.out.fa.cell 2
    have e3 := HKwz.out.fa.cell 3
    have elt := HKwz.out.fa.lt
    have d0 := HKwz.out.fb.cell 0
    have d1 := HKwz.out.fb.cell 1
    have d2 := HKwz.out.fb.cell 2
    have d3 := HKwz.out.fb.cell 3
    have dlt := HKwz.out.fb.lt
    clear hb
    go_wp2
    go_ret
    exact ⟨rfl, HKwz.out.bl⟩
  by_cases h2 : (10 : Int) < (m.length : Int)
  · go_enter Tryd.func4, Tryd.ntmps4
    go_wp2_with fail
    with_reducible refine (CW.out _ HK0.out.bl).mono ?_
    rintro e wz ⟨rfl, hb⟩
    have HKwz := Lib.hid ((HK0.out).past hb)
    clear e0 e1 e2 e3 elt d0 d1 d2 d3 dlt
    have e0 := HKwz.out.fa.cell 0
    have e1 := HKwz.out.fa.cell 1
    have e2 := HKwz.out.fa.cell 2
    have e3 := HKwz.out.fa.cell 3
    have elt := HKwz.out.fa.lt
    have d0 := HKwz.out.fb.cell 0
    have d1 := HKwz.out.fb.cell 1
    have d2 := HKwz.out.fb.cell 2
    have d3 := HKwz.out.fb.cell 3
    have dlt := HKwz.out.fb.lt
    clear hb
    go_wp2
    go_ret
    exact ⟨rfl, HKwz.out.bl⟩
  cases ra with
  | false =>
    go_enter Tryd.func4, Tryd.ntmps4
    go_wp2_with fail
    with_reducible refine (CA.out _ HK0.out.bl).mono ?_
    rintro e w1 ⟨rfl, hb⟩
    have HKw1 := Lib.hid ((HK0.out).past hb)
    clear e0 e1 e2 e3 elt d0 d1 d2 d3 dlt
    have e0 := HKw1.out.fa.cell 0
    have e1 := HKw1.out.fa.cell 1
    have e2 := HKw1.out.fa.cell 2
    have e3 := HKw1.out.fa.cell 3
    have elt := HKw1.out.fa.lt
    have d0 := HKw1.out.fb.cell 0
    have d1 := HKw1.out.fb.cell 1
    have d2 := HKw1.out.fb.cell 2
    have d3 := HKw1.out.fb.cell 3
    have dlt := HKw1.out.fb.lt
    clear hb
    go_wp2_with fail
    with_reducible refine (CW.out _ HKw1.out.bl).mono ?_
    rintro e wz ⟨rfl, hb⟩
    have HKwz := Lib.hid ((HKw1.out).past hb)
    clear e0 e1 e2 e3 elt d0 d1 d2 d3 dlt
    have e0 := HKwz.out.fa.cell 0
    have e1 := HKwz.out.fa.cell 1
    have e2 := HKwz.out.fa.cell 2
    have e3 := HKwz.out.fa.cell 3
    have elt := HKwz.out.fa.lt
    have d0 := HKwz.out.fb.cell 0
    have d1 := HKwz.out.fb.cell 1
    have d2 := HKwz.out.fb.cell 2
    have d3 := HKwz.out.fb.cell 3
    have dlt := HKwz.out.fb.lt
    clear hb
    go_wp2
    go_ret
    exact ⟨rfl, HKwz.out.bl⟩
  | true =>
    obtain rfl : rb = false := by cases rb with
      | false => rfl
      | true => exact absurd ⟨by omega, by omega, rfl, rfl⟩ HH.out
    go_enter Tryd.func4, Tryd.ntmps4
    go_wp2_with fail
    with_reducible refine (CA.out _ HK0.out.bl).mono ?_
    rintro e w1 ⟨rfl, hb⟩
    have HKw1 := Lib.hid ((HK0.out).past hb)
    clear e0 e1 e2 e3 elt d0 d1 d2 d3 dlt
    have e0 := HKw1.out.fa.cell 0
    have e1 := HKw1.out.fa.cell 1
    have e2 := HKw1.out.fa.cell 2
    have e3 := HKw1.out.fa.cell 3
    have elt := HKw1.out.fa.lt
    have d0 := HKw1.out.fb.cell 0
    have d1 := HKw1.out.fb.cell 1
    have d2 := HKw1.out.fb.cell 2
    have d3 := HKw1.out.fb.cell 3
    have dlt := HKw1.out.fb.lt
    clear hb
    go_wp2_with fail
    with_reducible refine (CB.out _ HKw1.out.bl).mono ?_
    rintro e w2 ⟨rfl, hb⟩
    have HKw2 := Lib.hid ((HKw1.out).past hb)
    clear e0 e1 e2 e3 elt d0 d1 d2 d3 dlt
    have e0 := HKw2.out.fa.cell 0
    have e1 := HKw2.out.fa.cell 1
    have e2 := HKw2.out.fa.cell 2
    have e3 := HKw2.out.fa.cell 3
    have elt := HKw2.out.fa.lt
    have d0 := HKw2.out.fb.cell 0
    have d1 := HKw2.out.fb.cell 1
    have d2 := HKw2.out.fb.cell 2
    have d3 := HKw2.out.fb.cell 3
    have dlt := HKw2.out.fb.lt
    clear hb
    go_wp2_with fail
    with_reducible refine (CW.out _ HKw2.out.bl).mono ?_
    rintro e wz ⟨rfl, hb⟩
    have HKwz := Lib.hid ((HKw2.out).past hb)
    clear e0 e1 e2 e3 elt d0 d1 d2 d3 dlt
    have e0 := HKwz.out.fa.cell 0
    have e1 := HKwz.out.fa.cell 1
    have e2 := HKwz.out.fa.cell 2
    have e3 := HKwz.out.fa.cell 3
    have elt := HKwz.out.fa.lt
    have d0 := HKwz.out.fb.cell 0
    have d1 := HKwz.out.fb.cell 1
    have d2 := HKwz.out.fb.cell 2
    have d3 := HKwz.out.fb.cell 3
    have dlt := HKwz.out.fb.lt
    clear hb
    go_wp2
    go_ret
    exact ⟨rfl, HKwz.out.bl⟩
end Go.Proofs.YtgamhgeiceakeaaDoor
