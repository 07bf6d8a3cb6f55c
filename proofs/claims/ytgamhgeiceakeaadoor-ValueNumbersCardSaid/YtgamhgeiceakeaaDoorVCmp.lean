/- value.Compare, Same, by contract. -/
import Derived.Test.YtgamhgeiceakeaaDoorVAlike
import Derived.Test.YtgamhgeiceakeaaDoorVSpece
import Derived.Test.YtgamhgeiceakeaaDoorShelf

set_option linter.unusedVariables false
set_option linter.unusedSimpArgs false
namespace Go.Proofs.YtgamhgeiceakeaaDoor
open Go.RowKit
open Va (V)
set_option maxHeartbeats 800000 in
theorem cmpK_any (a b : Int) (w : World) : Calls Tryd.prog 55 #[.int .u8 a, .int .u8 b] w fun e w' => e = .returned (.int .i64 (Va.cmpI a b)) ∧ w = w' := by
  rcases Int.lt_trichotomy a b with h | h | h
  · have e : Va.cmpI a b = -1 := by unfold Va.cmpI; rw [if_pos h]
    rw [e]
    clear e
    go_enter Tryd.func55, Tryd.ntmps55
    go_wp2
    go_ret
    exact ⟨rfl, rfl⟩
  · subst h
    have e : Va.cmpI a a = 0 := (Va.cmpI_zero a a).2 rfl
    rw [e]
    clear e
    go_enter Tryd.func55, Tryd.ntmps55
    go_wp2
    go_ret
    exact ⟨rfl, rfl⟩
  · have e : Va.cmpI a b = 1 := by unfold Va.cmpI; rw [if_neg (by omega), if_pos h]
    have h2 : ¬ a < b := by omega
    rw [e]
    clear e
    go_enter Tryd.func55, Tryd.ntmps55
    go_wp2
    go_ret
    exact ⟨rfl, rfl⟩
set_option maxHeartbeats 800000 in
theorem cmpN_any (a b : Int) (w : World) : Calls Tryd.prog 56 #[.int .i64 a, .int .i64 b] w fun e w' => e = .returned (.int .i64 (Va.cmpI a b)) ∧ w = w' := by
  rcases Int.lt_trichotomy a b with h | h | h
  · have e : Va.cmpI a b = -1 := by unfold Va.cmpI; rw [if_pos h]
    rw [e]
    clear e
    go_enter Tryd.func56, Tryd.ntmps56
    go_wp2
    go_ret
    exact ⟨rfl, rfl⟩
  · subst h
    have e : Va.cmpI a a = 0 := (Va.cmpI_zero a a).2 rfl
    rw [e]
    clear e
    go_enter Tryd.func56, Tryd.ntmps56
    go_wp2
    go_ret
    exact ⟨rfl, rfl⟩
  · have e : Va.cmpI a b = 1 := by unfold Va.cmpI; rw [if_neg (by omega), if_pos h]
    have h2 : ¬ a < b := by omega
    rw [e]
    clear e
    go_enter Tryd.func56, Tryd.ntmps56
    go_wp2
    go_ret
    exact ⟨rfl, rfl⟩
set_option maxHeartbeats 800000 in
theorem cmpJ_any (a b : Int) (w : World) : Calls Tryd.prog 58 #[.int .i64 a, .int .i64 b] w fun e w' => e = .returned (.int .i64 (Va.cmpI a b)) ∧ w = w' := by
  rcases Int.lt_trichotomy a b with h | h | h
  · have e : Va.cmpI a b = -1 := by unfold Va.cmpI; rw [if_pos h]
    rw [e]
    clear e
    go_enter Tryd.func58, Tryd.ntmps58
    go_wp2
    go_ret
    exact ⟨rfl, rfl⟩
  · subst h
    have e : Va.cmpI a a = 0 := (Va.cmpI_zero a a).2 rfl
    rw [e]
    clear e
    go_enter Tryd.func58, Tryd.ntmps58
    go_wp2
    go_ret
    exact ⟨rfl, rfl⟩
  · have e : Va.cmpI a b = 1 := by unfold Va.cmpI; rw [if_neg (by omega), if_pos h]
    have h2 : ¬ a < b := by omega
    rw [e]
    clear e
    go_enter Tryd.func58, Tryd.ntmps58
    go_wp2
    go_ret
    exact ⟨rfl, rfl⟩
def IB (n : Int) (w : World) (e : Ending) (w' : World) : Prop := e = .returned (.int .i64 n) ∧ Below w.heap.size w w'
def CoP (v : V) : Prop := ∀ (u : V) (ok ok' : Nat → Prop) (x y : Value) (w : World) (h : RV ok w v x) (h' : RV ok' w u y) (lv : Nat) (hlv : lv ≤ 1000), Calls Tryd.prog 36 #[x, y, .int .i64 lv] w (IB (Va.cmpV v u lv) w)
set_option maxHeartbeats 1600000 in
set_option maxRecDepth 100000 in
theorem compare_any : ∀ v, CoP v := V.ind fun k n s l ih => by
  intro u ok ok' x y w h h' lv hlv
  obtain ⟨k', n', s', l'⟩ := u
  obtain ⟨ba, cap, rfl, hk, hn, hs, hL⟩ := h.inv
  obtain ⟨ba', cap', rfl, hk', hn', hs', hL'⟩ := h'.inv
  have hlen : l.length ≤ 9223372036854775807 := by have h1 := hL.le; have h2 := hL.max; simp only [maxLen] at h2; omega
  have hlen' : l'.length ≤ 9223372036854775807 := by have h1 := hL'.le; have h2 := hL'.max; simp only [maxLen] at h2; omega
  have hlc := hL.le
  have hlc' := hL'.le
  have HL := Lib.hid hL
  have HL' := Lib.hid hL'
  clear h hL hn hs h' hL' hn' hs'
  have F := (Blk.new w #[.int .u8 k, .int .i64 n, .string s, .slice ba l.length cap] 25).below ((Below.refl _ _).alloc (Nat.le_refl _) (.cells #[.int .u8 k', .int .i64 n', .string s', .slice ba' l'.length cap'] 25))
  have F' := Blk.new (w.alloc (.cells #[.int .u8 k, .int .i64 n, .string s, .slice ba l.length cap] 25)) #[.int .u8 k', .int .i64 n', .string s', .slice ba' l'.length cap'] 25
  rw [show (w.alloc (.cells #[.int .u8 k, .int .i64 n, .string s, .slice ba l.length cap] 25)).heap.size = w.heap.size + 1 by simp] at F'
  have hB1 : Below w.heap.size w ((w.alloc (.cells #[.int .u8 k, .int .i64 n, .string s, .slice ba l.length cap] 25)).alloc (.cells #[.int .u8 k', .int .i64 n', .string s', .slice ba' l'.length cap'] 25)) := ((Below.refl _ _).alloc (Nat.le_refl _) _).alloc (by simp) _
  have HB1 := Lib.hid hB1
  have HF := Lib.hid F
  have HF' := Lib.hid F'
  have hw1 : w.heap.size < w.heap.size + 1 + 1 := by omega
  clear hB1 F F'
  obtain ⟨R, hR⟩ : ∃ R, Va.cmpV (.mk k n s l) (.mk k' n' s' l') lv = R := ⟨_, rfl⟩
  rw [hR]
  have hD := Va.cmpV_def k n s l k' n' s' l' lv
  rw [hR] at hD
  clear hR
  by_cases e1 : k = k'
  case neg =>
    rw [if_pos (Or.inl e1)] at hD
    have HE := Lib.hid hD
    clear hD
    have C := cmpK_any k k'
    have q1 : ((k : Int) == (k' : Int)) = false := bneI (by omega)
    have q2 : ((k : Int) != (k' : Int)) = true := by rw [bne_iff_ne]; omega
    go_enter Tryd.func36, Tryd.ntmps36
    go_wp2_with fail
    refine (C _).mono ?_
    rintro e w1 ⟨rfl, rfl⟩
    go_wp2
    go_ret
    exact ⟨by rw [HE.out]; rfl, HB1.out⟩
  subst e1
  by_cases e2 : lv = 0
  · subst e2
    rw [if_pos (Or.inr rfl)] at hD
    have HE := Lib.hid hD
    clear hD
    have C := cmpK_any k k
    go_enter Tryd.func36, Tryd.ntmps36
    go_wp2_with fail
    refine (C _).mono ?_
    rintro e w1 ⟨rfl, rfl⟩
    go_wp2
    go_ret
    exact ⟨by rw [HE.out]; rfl, HB1.out⟩
  have q0 : ((lv : Int) == 0) = false := bneI (by omega)
  rw [if_neg (by omega)] at hD
  by_cases g1 : k = 1 ∨ k = 2 ∨ k = 5
  · rw [if_pos g1] at hD
    have HE := Lib.hid hD
    clear hD
    have C := cmpN_any n n'
    rcases g1 with g | g | g
    · subst g
      go_enter Tryd.func36, Tryd.ntmps36
      go_wp2_with fail
      refine (C _).mono ?_
      rintro e w1 ⟨rfl, rfl⟩
      go_wp2
      go_ret
      exact ⟨by rw [HE.out]; rfl, HB1.out⟩
    · subst g
      go_enter Tryd.func36, Tryd.ntmps36
      go_wp2_with fail
      refine (C _).mono ?_
      rintro e w1 ⟨rfl, rfl⟩
      go_wp2
      go_ret
      exact ⟨by rw [HE.out]; rfl, HB1.out⟩
    · subst g
      go_enter Tryd.func36, Tryd.ntmps36
      go_wp2_with fail
      refine (C _).mono ?_
      rintro e w1 ⟨rfl, rfl⟩
      go_wp2
      go_ret
      exact ⟨by rw [HE.out]; rfl, HB1.out⟩
  rw [if_neg g1] at hD
  by_cases g3 : k = 3
  · rw [if_pos g3] at hD
    subst g3
    have HE := Lib.hid hD
    clear hD
    have C : ∀ w, Calls Tryd.prog 57 #[.string s, .string s'] w fun e w' => e = .returned (.int .i64 (Va.cmpS s s')) ∧ w = w' := fun w => (Tryd.strings_Compare s s' w).mono fun e w' ⟨a, b⟩ => ⟨a, b.symm⟩
    go_enter Tryd.func36, Tryd.ntmps36
    go_wp2_with fail
    refine (C _).mono ?_
    rintro e w1 ⟨rfl, rfl⟩
    go_wp2
    go_ret
    exact ⟨by rw [HE.out]; rfl, HB1.out⟩
  rw [if_neg g3] at hD
  by_cases g4 : k = 4
  case neg =>
    rw [if_neg g4] at hD
    have HE := Lib.hid hD
    clear hD
    have z1 : ((k : Int) == 1) = false := bneI (by omega)
    have z2 : ((k : Int) == 2) = false := bneI (by omega)
    have z3 : ((k : Int) == 3) = false := bneI (by omega)
    have z4 : ((k : Int) == 4) = false := bneI (by omega)
    have z5 : ((k : Int) == 5) = false := bneI (by omega)
    go_enter Tryd.func36, Tryd.ntmps36
    go_wp2
    go_ret
    exact ⟨by rw [HE.out]; rfl, HB1.out⟩
  subst g4
  rw [if_pos rfl] at hD
  by_cases e4 : l.length = l'.length
  case neg =>
    rw [if_pos e4] at hD
    have q1 : ((l.length : Int) == (l'.length : Int)) = false := bneI (by omega)
    have q2 : ((l.length : Int) != (l'.length : Int)) = true := by rw [bne_iff_ne]; omega
    have HE := Lib.hid hD
    clear hD e4
    have C := cmpJ_any l.length l'.length
    go_enter Tryd.func36, Tryd.ntmps36
    go_wp2_with fail
    refine (C _).mono ?_
    rintro e w1 ⟨rfl, rfl⟩
    go_wp2
    go_ret
    exact ⟨by rw [HE.out]; rfl, HB1.out⟩
  rw [if_neg (by omega)] at hD
  have HE := Lib.hid hD
  have H4 := Lib.hid e4
  have q4 : ((l.length : Int) == (l'.length : Int)) = true := beqI (by omega)
  have q5 : ((l.length : Int) != (l'.length : Int)) = false := by simp [e4]
  have hlv0 : (1 : Int) ≤ (lv : Int) := by omega
  clear hD e4
  rw [show ((4 : Nat) : Int) = 4 from rfl]
  go_enter Tryd.func36, Tryd.ntmps36
  go_wp2
  go_loopw [7, 8, 60] (fun _ _ iv wr => ∃ i : Nat, i ≤ l.length ∧ iv = .int .i64 i ∧ Blk wr w.heap.size #[.int .u8 4, .int .i64 n, .string s, .slice ba l.length cap] 25 ∧ Blk wr (w.heap.size + 1) #[.int .u8 4, .int .i64 n', .string s', .slice ba' l'.length cap'] 25 ∧ Below w.heap.size w wr ∧ Va.cmpL (l.drop i) (l'.drop i) (lv - 1) = R) (fun _ _ iv _ => l.length - (intOf iv).toNat)
  case atStart => exact ⟨0, by omega, rfl, HF.out, HF'.out, HB1.out, HE.out.symm⟩
  case round =>
    obtain ⟨i, hi, rfl, hF, hF', hB, hall⟩ := hrel
    have d3 := hF.cell 3
    have dlt := hF.lt
    have d3' := hF'.cell 3
    have dlt' := hF'.lt
    have HBR := Lib.hid hB
    have HFR := Lib.hid hF
    have HFR' := Lib.hid hF'
    have HALL := Lib.hid hall
    clear hF hF' hB hall HE
    by_cases hlt : i < l.length
    · have hlt' : i < l'.length := H4.out ▸ hlt
      obtain ⟨bb, o, x, hba, hok, h4, hrv⟩ := HL.out.at_ i hlt
      obtain ⟨bb', o', x', hba', hok', h4x, hrv'⟩ := HL'.out.at_ i hlt'
      have h4' := h4.kept HBR.out.size (HBR.out.block bb h4.lt)
      have h4x' := h4x.kept HBR.out.size (HBR.out.block bb' h4x.lt)
      have hdr : Below wr.heap.size wr wr.drew := (Below.refl _ _).drew
      have C := Lib.hid (ih l[i] (List.getElem_mem hlt) l'[i] ok ok' x x' wr.drew ((hrv.past HBR.out).past hdr) ((hrv'.past HBR.out).past hdr) (lv - 1) (by omega))
      have hst : (if Va.cmpV l[i] l'[i] (lv - 1) ≠ 0 then Va.cmpV l[i] l'[i] (lv - 1) else Va.cmpL (l.drop (i + 1)) (l'.drop (i + 1)) (lv - 1)) = R := by
        rw [← HALL.out, List.drop_eq_getElem_cons hlt, List.drop_eq_getElem_cons hlt']; rfl
      obtain ⟨b, hb⟩ : ∃ b, Va.cmpV l[i] l'[i] (lv - 1) = b := ⟨_, rfl⟩
      rw [hb] at C hst
      have hl1 : ((lv - 1 : Nat) : Int) = (lv : Int) - 1 := by omega
      rw [hl1] at C
      have HST := Lib.hid hst
      clear hb hst hl1
      obtain ⟨hlt4, a1, a2, a3, a4, hx4, e1, e2, e3, e4⟩ := h4'
      obtain ⟨hlt4', a1', a2', a3', a4', hx4', e1', e2', e3', e4'⟩ := h4x'
      subst hx4
      subst hba
      subst hx4'
      subst hba'
      have hj0 : (0 : Int) ≤ (i : Int) := by omega
      have hj1 : (i : Int) < (l.length : Int) := by omega
      have hj1' : (i : Int) < (l'.length : Int) := by omega
      clear h4 h4x hrv hrv' hdr
      go_wp2_with fail
      have hwr : IntKind.i64.wrap ((lv : Int) - 1) = (lv : Int) - 1 := IntWalk.i64_in _ (by omega)
      refine wp_region_T_drew (fun w' => w'.cell? ⟨w.heap.size, 3, none⟩ = some (.slice (some ⟨bb, o, none⟩) l.length cap) ∧ w'.cell? ⟨w.heap.size + 1, 3, none⟩ = some (.slice (some ⟨bb', o', none⟩) l'.length cap') ∧ (w'.cell? ⟨bb, o + i * 4, none⟩ = some a1 ∧ w'.cell? ⟨bb, o + i * 4 + 1, none⟩ = some a2 ∧ w'.cell? ⟨bb, o + i * 4 + 2, none⟩ = some a3 ∧ w'.cell? ⟨bb, o + i * 4 + 3, none⟩ = some a4) ∧ (w'.cell? ⟨bb', o' + i * 4, none⟩ = some a1' ∧ w'.cell? ⟨bb', o' + i * 4 + 1, none⟩ = some a2' ∧ w'.cell? ⟨bb', o' + i * 4 + 2, none⟩ = some a3' ∧ w'.cell? ⟨bb', o' + i * 4 + 3, none⟩ = some a4')) 14 (by kernel_rfl) ⟨d3, d3', ⟨e1, e2, e3, e4⟩, e1', e2', e3', e4'⟩ (fun hS => ?_)
      refine wpAnyT_take 0 rfl (by kernel_rfl) (by kernel_rfl) (by decide) (by kernel_rfl) (by kernel_rfl) (fun _ _ _ h => h) hS (by kernel_rfl) (v := ?_) ?_ ?_
      rotate_left
      · intro w' hSw; (try dsimp only at hSw); go_simp; (try with_reducible rfl)
      simp only [Act.put, List.setIfInBounds_toArray, List.set_cons_zero, List.set_cons_succ]
      refine wpAnyT_take 1 rfl (by kernel_rfl) (by kernel_rfl) (by decide) (by kernel_rfl) (by kernel_rfl) (fun _ _ _ h => h) hS (by kernel_rfl) (v := ?_) ?_ ?_
      rotate_left
      · intro w' hSw; (try dsimp only at hSw); go_simp; (try with_reducible rfl)
      simp only [Act.put, List.setIfInBounds_toArray, List.set_cons_zero, List.set_cons_succ]
      refine wpAnyT_take 2 rfl (by kernel_rfl) (by kernel_rfl) (by decide) (by kernel_rfl) (by kernel_rfl) (fun _ _ _ h => h) hS (by kernel_rfl) (v := ?_) ?_ ?_
      rotate_left
      · intro w' hSw; (try dsimp only at hSw); go_simp; (try with_reducible rfl)
      simp only [Act.put, List.setIfInBounds_toArray, List.set_cons_zero, List.set_cons_succ]
      refine wpAnyT_take 3 rfl (by kernel_rfl) (by kernel_rfl) (by decide) (by kernel_rfl) (by kernel_rfl) (fun _ _ _ h => h) hS (by kernel_rfl) (v := ?_) ?_ ?_
      rotate_left
      · intro w' hSw; (try dsimp only at hSw); go_simp; (try with_reducible rfl)
      simp only [Act.put, List.setIfInBounds_toArray, List.set_cons_zero, List.set_cons_succ]
      refine wpAnyT_take 4 rfl (by kernel_rfl) (by kernel_rfl) (by decide) (by kernel_rfl) (by kernel_rfl) (fun _ _ _ h => h) hS (by kernel_rfl) (v := ?_) ?_ ?_
      rotate_left
      · intro w' hSw; (try dsimp only at hSw); go_simp; (try with_reducible rfl)
      simp only [Act.put, List.setIfInBounds_toArray, List.set_cons_zero, List.set_cons_succ]
      refine wpAnyT_take 5 rfl (by kernel_rfl) (by kernel_rfl) (by decide) (by kernel_rfl) (by kernel_rfl) (fun _ _ _ h => h) hS (by kernel_rfl) (v := ?_) ?_ ?_
      rotate_left
      · intro w' hSw; (try dsimp only at hSw); go_simp; (try with_reducible rfl)
      simp only [Act.put, List.setIfInBounds_toArray, List.set_cons_zero, List.set_cons_succ]
      refine wpAnyT_take 6 rfl (by kernel_rfl) (by kernel_rfl) (by decide) (by kernel_rfl) (by kernel_rfl) (fun _ _ _ h => h) hS (by kernel_rfl) (v := ?_) ?_ ?_
      rotate_left
      · intro w' hSw; (try dsimp only at hSw); go_simp; (try with_reducible rfl)
      simp only [Act.put, List.setIfInBounds_toArray, List.set_cons_zero, List.set_cons_succ]
      refine wpAnyT_take 7 rfl (by kernel_rfl) (by kernel_rfl) (by decide) (by kernel_rfl) (by kernel_rfl) (fun _ _ _ h => h) hS (by kernel_rfl) (v := ?_) ?_ ?_
      rotate_left
      · intro w' hSw; (try dsimp only at hSw); go_simp; (try with_reducible rfl)
      simp only [Act.put, List.setIfInBounds_toArray, List.set_cons_zero, List.set_cons_succ]
      refine wpAnyT_take 8 rfl (by kernel_rfl) (by kernel_rfl) (by decide) (by kernel_rfl) (by kernel_rfl) (fun _ _ _ h => h) hS (by kernel_rfl) (v := ?_) ?_ ?_
      rotate_left
      · intro w' hSw; (try dsimp only at hSw); go_simp; (try with_reducible rfl)
      simp only [Act.put, List.setIfInBounds_toArray, List.set_cons_zero, List.set_cons_succ]
      refine wpAnyT_take 9 rfl (by kernel_rfl) (by kernel_rfl) (by decide) (by kernel_rfl) (by kernel_rfl) (fun _ _ _ h => h) hS (by kernel_rfl) (v := ?_) ?_ ?_
      rotate_left
      · intro w' hSw; (try dsimp only at hSw); go_simp; (try with_reducible rfl)
      simp only [Act.put, List.setIfInBounds_toArray, List.set_cons_zero, List.set_cons_succ]
      refine wpAnyT_take 10 rfl (by kernel_rfl) (by kernel_rfl) (by decide) (by kernel_rfl) (by kernel_rfl) (fun _ _ _ h => h) hS (by kernel_rfl) (v := ?_) ?_ ?_
      rotate_left
      · intro w' hSw; (try dsimp only at hSw); go_simp; (try with_reducible rfl)
      simp only [Act.put, List.setIfInBounds_toArray, List.set_cons_zero, List.set_cons_succ]
      refine wpAnyT_take 11 rfl (by kernel_rfl) (by kernel_rfl) (by decide) (by kernel_rfl) (by kernel_rfl) (fun _ _ _ h => h) hS (by kernel_rfl) (v := ?_) ?_ ?_
      rotate_left
      · intro w' hSw; (try dsimp only at hSw); go_simp; (try with_reducible rfl)
      simp only [Act.put, List.setIfInBounds_toArray, List.set_cons_zero, List.set_cons_succ]
      refine wpAnyT_one 12 (by kernel_rfl) rfl (by kernel_rfl) (fun K hK => ?_)
      go_simp
      clear hwr
      with_reducible refine (C.out).mono ?_
      rintro e w5 ⟨rfl, hb5⟩
      have hb6 : Below wr.heap.size wr w5 := ((Below.refl wr.heap.size wr).drew).trans hb5
      have hc : ∀ b o, b < wr.heap.size → w5.cell? ⟨b, o, none⟩ = wr.cell? ⟨b, o, none⟩ := fun b o h => hb6.cell (p := ⟨b, o, none⟩) h
      have hS : _ ∧ _ ∧ (_ ∧ _ ∧ _ ∧ _) ∧ (_ ∧ _ ∧ _ ∧ _) := ⟨(hc _ _ dlt).trans d3, (hc _ _ dlt').trans d3', ⟨(hc _ _ hlt4).trans e1, (hc _ _ hlt4).trans e2, (hc _ _ hlt4).trans e3, (hc _ _ hlt4).trans e4⟩, (hc _ _ hlt4').trans e1', (hc _ _ hlt4').trans e2', (hc _ _ hlt4').trans e3', (hc _ _ hlt4').trans e4'⟩
      have HB5 := Lib.hid (HBR.out.trans (hb6.mono HBR.out.size))
      have HF5 := Lib.hid (HFR.out.below hb6)
      have HF5' := Lib.hid (HFR'.out.below hb6)
      clear hc hb5 hb6
      refine hK _ _ (fun _ => hS) ?_
      clear hK K
      refine wpAnyT_one 13 (by kernel_rfl) rfl (by kernel_rfl) (fun K hK => ?_)
      go_simp
      refine hK _ _ (fun _ => hS) ?_
      clear hK K
      refine wpAnyT_done (by kernel_rfl) ?_
      clear hS d3 d3' dlt dlt' e1 e2 e3 e4 e1' e2' e3' e4' hlt4 hlt4' C
      by_cases hb0 : b = 0
      · subst hb0
        have hst := HST.out
        rw [if_neg (by simp)] at hst
        have HST2 := Lib.hid hst
        clear hst HST
        go_wp2
        go_roundw
        case rel => exact ⟨i + 1, by omega, by go_num, HF5.out, HF5'.out, HB5.out, HST2.out⟩
        case measure => simp [intOf]; omega
      · have hst := HST.out
        rw [if_pos hb0] at hst
        have q9 : (b == 0) = false := bneI hb0
        have q8 : (b != 0) = true := by rw [bne_iff_ne]; exact hb0
        subst hst
        clear HST HALL
        go_wp2
        go_ret
        exact ⟨rfl, HB5.out⟩
    · obtain rfl : i = l.length := by omega
      have hR0 : R = 0 := by rw [← HALL.out, List.drop_length]; rfl
      subst hR0
      go_wp2
      go_ret
      exact ⟨rfl, HBR.out⟩
end Go.Proofs.YtgamhgeiceakeaaDoor
