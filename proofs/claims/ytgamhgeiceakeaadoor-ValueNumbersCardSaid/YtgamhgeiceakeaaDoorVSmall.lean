/- droverlow.SmallValue, by contract. -/
import Derived.Test.YtgamhgeiceakeaaDoorVGetI
import Derived.Test.YtgamhgeiceakeaaDoorVSpecd
set_option linter.unusedVariables false
set_option linter.unusedSimpArgs false
namespace Go.Proofs.YtgamhgeiceakeaaDoor
open Go.RowKit
open Va (V)
def BB (b : Bool) (w : World) (e : Ending) (w' : World) : Prop := e = .returned (.bool b) ∧ Below w.heap.size w w'
def SmP (v : V) : Prop := ∀ (ok : Nat → Prop) (x : Value) (w : World) (h : RV ok w v x) (lv many : Int) (h0 : 0 ≤ lv) (h1 : lv ≤ 1000) (h2 : 0 ≤ many) (h3 : many ≤ 1000000), Calls Tryd.prog 9 #[x, .int .i64 lv, .int .i64 many] w (BB (Va.smallV v lv many) w)
set_option maxHeartbeats 1600000 in
set_option maxRecDepth 100000 in
theorem small_any : ∀ v, SmP v := V.ind fun k n s l ih => by
  intro ok x w h lv many hv0 hv1 hm0 hm1
  obtain ⟨ba, cap, rfl, hk, hn, hs, hL⟩ := h.inv
  have hlen : l.length ≤ 9223372036854775807 := by have h1 := hL.le; have h2 := hL.max; simp only [maxLen] at h2; omega
  have hss : s.size ≤ 9223372036854775807 := by simp only [maxLen] at hs; omega
  have hlc := hL.le
  have HL := Lib.hid hL
  clear h hL hk hn hs
  obtain ⟨R, hR⟩ : ∃ R, Va.smallV (.mk k n s l) lv many = R := ⟨_, rfl⟩
  rw [hR]
  have hR' : R = (decide (1 ≤ lv) && decide ((l.length : Int) ≤ many) && decide (s.size ≤ 5000) && Va.smallL l (lv - 1) many) := by rw [← hR]; unfold Va.smallV; rfl
  have HE := Lib.hid hR'
  clear hR hR'
  have F := Blk.new w #[.int .u8 k, .int .i64 n, .string s, .slice ba l.length cap] 25
  have hB1 : Below w.heap.size w (w.alloc (.cells #[.int .u8 k, .int .i64 n, .string s, .slice ba l.length cap] 25)) := (Below.refl _ _).alloc (Nat.le_refl _) _
  have HB1 := Lib.hid hB1
  have HF := Lib.hid F
  clear hB1 F
  by_cases g1 : lv < 1
  · have hRf : R = false := by rw [HE.out, decide_eq_false (by omega)]; rfl
    subst hRf
    go_enter Tryd.func9, Tryd.ntmps9
    go_wp2
    go_ret
    exact ⟨rfl, HB1.out⟩
  by_cases g2 : many < (l.length : Int)
  · have hRf : R = false := by rw [HE.out, decide_eq_false (show ¬ (l.length : Int) ≤ many by omega)]; simp
    subst hRf
    go_enter Tryd.func9, Tryd.ntmps9
    go_wp2
    go_ret
    exact ⟨rfl, HB1.out⟩
  by_cases g3 : (5000 : Int) < (s.size : Int)
  · have hRf : R = false := by rw [HE.out, decide_eq_false (show ¬ s.size ≤ 5000 by omega)]; simp
    subst hRf
    go_enter Tryd.func9, Tryd.ntmps9
    go_wp2
    go_ret
    exact ⟨rfl, HB1.out⟩
  have hRs : R = Va.smallL l (lv - 1) many := by rw [HE.out, decide_eq_true (by omega), decide_eq_true (show (l.length : Int) ≤ many by omega), decide_eq_true (show s.size ≤ 5000 by omega)]; simp
  clear HE
  have HE := Lib.hid hRs
  clear hRs
  go_enter Tryd.func9, Tryd.ntmps9
  go_wp2
  go_loopw [7] (fun iv wr => ∃ i : Nat, i ≤ l.length ∧ iv = .int .i64 i ∧ Blk wr w.heap.size #[.int .u8 k, .int .i64 n, .string s, .slice ba l.length cap] 25 ∧ Below w.heap.size w wr ∧ ∀ j (h : j < l.length), j < i → Va.smallV l[j] (lv - 1) many = true) (fun iv _ => l.length - (intOf iv).toNat)
  case atStart => exact ⟨0, by omega, rfl, HF.out, HB1.out, fun j _ h => by omega⟩
  case round =>
    obtain ⟨i, hi, rfl, hF, hB, hall⟩ := hrel
    have d3 := hF.cell 3
    have dlt := hF.lt
    have HBR := Lib.hid hB
    have HFR := Lib.hid hF
    have HALL := Lib.hid hall
    clear hF hB hall
    by_cases hlt : i < l.length
    · obtain ⟨bb, o, x, hba, hok, h4, hrv⟩ := HL.out.at_ i hlt
      have h4' := h4.kept HBR.out.size (HBR.out.block bb h4.lt)
      have C := Lib.hid (ih l[i] (List.getElem_mem hlt) ok x wr (hrv.past HBR.out) (lv - 1) many (by omega) (by omega) hm0 hm1)
      cases hb : Va.smallV l[i] (lv - 1) many
      · have hRf := Va.smallL_at l (lv - 1) many i hlt hb
        rw [← HE.out] at hRf
        subst hRf
        rw [hb] at C
        clear hb
        obtain ⟨hlt4, a1, a2, a3, a4, hx4, e1, e2, e3, e4⟩ := h4'
        subst hx4
        subst hba
        have hj0 : (0 : Int) ≤ (i : Int) := by omega
        have hj1 : (i : Int) < (l.length : Int) := by omega
        clear h4 hrv
        go_wp2_with fail
        refine (C.out).mono ?_
        rintro e w5 ⟨rfl, hb5⟩
        have HB5 := Lib.hid (HBR.out.trans (hb5.mono HBR.out.size))
        clear hb5
        go_wp2
        go_ret
        exact ⟨rfl, HB5.out⟩
      · have HBT := Lib.hid hb
        rw [hb] at C
        clear hb
        obtain ⟨hlt4, a1, a2, a3, a4, hx4, e1, e2, e3, e4⟩ := h4'
        subst hx4
        subst hba
        have hj0 : (0 : Int) ≤ (i : Int) := by omega
        have hj1 : (i : Int) < (l.length : Int) := by omega
        clear h4 hrv
        go_wp2_with fail
        refine (C.out).mono ?_
        rintro e w5 ⟨rfl, hb5⟩
        have HB5 := Lib.hid (HBR.out.trans (hb5.mono HBR.out.size))
        have HF5 := Lib.hid (HFR.out.below hb5)
        clear hb5
        go_wp2
        go_roundw
        case rel => exact ⟨i + 1, by omega, by go_num, HF5.out, HB5.out, fun j h h2 => by
          rcases Nat.lt_or_ge j i with h3 | h3
          · exact HALL.out j h h3
          · obtain rfl : j = i := by omega
            exact HBT.out⟩
        case measure => simp [intOf]; omega
    · obtain rfl : i = l.length := by omega
      have hRt : R = true := by rw [HE.out]; exact Va.smallL_all l (lv - 1) many fun j h => HALL.out j h h
      subst hRt
      go_wp2
      go_ret
      exact ⟨rfl, HBR.out⟩
end Go.Proofs.YtgamhgeiceakeaaDoor
