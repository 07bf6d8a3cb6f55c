/- droverlow.Alike, by contract. -/
import Derived.Test.YtgamhgeiceakeaaDoorVSmall
set_option linter.unusedVariables false
set_option linter.unusedSimpArgs false
namespace Go.Proofs.YtgamhgeiceakeaaDoor
open Go.RowKit
open Va (V)
def AlP (v : V) : Prop := ∀ (u : V) (ok ok' : Nat → Prop) (x y : Value) (w : World) (h : RV ok w v x) (h' : RV ok' w u y), Calls Tryd.prog 16 #[x, y] w (BB (Va.alkV v u) w)
theorem alk_false {k k' : Nat} {n n' : Int} {s s' : ByteArray} {l l' : List V} (h : ¬ (k = k' ∧ n = n' ∧ s = s' ∧ l.length = l'.length)) : Va.alkV (.mk k n s l) (.mk k' n' s' l') = false := by
  cases hc : Va.alkV (.mk k n s l) (.mk k' n' s' l') with
  | false => rfl
  | true =>
    have := (Va.alk_eq _ _).1 hc
    cases this
    exact absurd ⟨rfl, rfl, rfl, rfl⟩ h
theorem ba_ne {s t : ByteArray} (h : s ≠ t) : (s.toList == t.toList) = false := by
  refine beq_eq_false_iff_ne.2 fun e => h ?_
  rw [ByteArray.toList_eq, ByteArray.toList_eq] at e
  exact Va.ba_ext e
set_option maxHeartbeats 1600000 in
set_option maxRecDepth 100000 in
theorem alike_any : ∀ v, AlP v := V.ind fun k n s l ih => by
  intro u ok ok' x y w h h'
  obtain ⟨k', n', s', l'⟩ := u
  obtain ⟨ba, cap, rfl, hk, hn, hs, hL⟩ := h.inv
  obtain ⟨ba', cap', rfl, hk', hn', hs', hL'⟩ := h'.inv
  have hlen : l.length ≤ 9223372036854775807 := by have h1 := hL.le; have h2 := hL.max; simp only [maxLen] at h2; omega
  have hlen' : l'.length ≤ 9223372036854775807 := by have h1 := hL'.le; have h2 := hL'.max; simp only [maxLen] at h2; omega
  have hlc := hL.le
  have hlc' := hL'.le
  have HL := Lib.hid hL
  have HL' := Lib.hid hL'
  clear h hL hn hs h' hL' hn' hs'
  have F := (Blk.new w #[.int .u8 k, .int .i64 n, .string s, .slice ba l.length cap] 25).below ((Below.refl _ _).alloc (Nat.le_refl _) (.cells #[.int .u8 k', .int .i64 n', .string s', .slice ba' l'.length cap'] 25))
  have F' := Blk.new (w.alloc (.cells #[.int .u8 k, .int .i64 n, .string s, .slice ba l.length cap] 25)) #[.int .u8 k', .int .i64 n', .string s', .slice ba' l'.length cap'] 25
  rw [show (w.alloc (.cells #[.int .u8 k, .int .i64 n, .string s, .slice ba l.length cap] 25)).heap.size = w.heap.size + 1 by simp] at F'
  have hB1 : Below w.heap.size w ((w.alloc (.cells #[.int .u8 k, .int .i64 n, .string s, .slice ba l.length cap] 25)).alloc (.cells #[.int .u8 k', .int .i64 n', .string s', .slice ba' l'.length cap'] 25)) := ((Below.refl _ _).alloc (Nat.le_refl _) _).alloc (by simp) _
  have HB1 := Lib.hid hB1
  have HF := Lib.hid F
  have HF' := Lib.hid F'
  have hw1 : w.heap.size < w.heap.size + 1 + 1 := by omega
  clear hB1 F F'
  by_cases e1 : k = k'
  case neg =>
    have q1 : ((k : Int) == (k' : Int)) = false := bneI (by omega)
    have q2 : ((k : Int) != (k' : Int)) = true := by rw [bne_iff_ne]; omega
    rw [alk_false (fun h => e1 h.1)]
    go_enter Tryd.func16, Tryd.ntmps16
    go_wp2
    go_ret
    exact ⟨rfl, HB1.out⟩
  subst e1
  by_cases e2 : n = n'
  case neg =>
    have q1 : (n == n') = false := bneI e2
    have q2 : (n != n') = true := by rw [bne_iff_ne]; exact e2
    rw [alk_false (fun h => e2 h.2.1)]
    go_enter Tryd.func16, Tryd.ntmps16
    go_wp2
    go_ret
    exact ⟨rfl, HB1.out⟩
  subst e2
  by_cases e3 : s = s'
  case neg =>
    have q1 : (s.toList == s'.toList) = false := ba_ne e3
    rw [alk_false (fun h => e3 h.2.2.1)]
    go_enter Tryd.func16, Tryd.ntmps16
    go_wp2
    go_ret
    exact ⟨rfl, HB1.out⟩
  subst e3
  by_cases e4 : l.length = l'.length
  case neg =>
    have q1 : ((l.length : Int) == (l'.length : Int)) = false := bneI (by omega)
    have q2 : ((l.length : Int) != (l'.length : Int)) = true := by rw [bne_iff_ne]; omega
    rw [alk_false (fun h => e4 h.2.2.2)]
    clear e4
    go_enter Tryd.func16, Tryd.ntmps16
    go_wp2
    go_ret
    exact ⟨rfl, HB1.out⟩
  have hE : Va.alkV (.mk k n s l) (.mk k n s l') = Va.alkL l l' := by
    show ((k == k) && (n == n) && (s.data.toList == s.data.toList) && (l.length == l'.length) && Va.alkL l l') = _
    simp [e4]
  rw [hE]
  clear hE
  obtain ⟨R, hR⟩ : ∃ R, Va.alkL l l' = R := ⟨_, rfl⟩
  rw [hR]
  have HE := Lib.hid hR
  have H4 := Lib.hid e4
  have q4 : ((l.length : Int) == (l'.length : Int)) = true := beqI (by omega)
  have q5 : ((l.length : Int) != (l'.length : Int)) = false := by simp [e4]
  clear hR e4
  go_enter Tryd.func16, Tryd.ntmps16
  go_wp2
  go_loopw [5] (fun iv wr => ∃ i : Nat, i ≤ l.length ∧ iv = .int .i64 i ∧ Blk wr w.heap.size #[.int .u8 k, .int .i64 n, .string s, .slice ba l.length cap] 25 ∧ Blk wr (w.heap.size + 1) #[.int .u8 k, .int .i64 n, .string s, .slice ba' l'.length cap'] 25 ∧ Below w.heap.size w wr ∧ ∀ j (h : j < l.length), j < i → Va.alkV l[j] (l'[j]'(H4.out ▸ h)) = true) (fun iv _ => l.length - (intOf iv).toNat)
  case atStart => exact ⟨0, by omega, rfl, HF.out, HF'.out, HB1.out, fun j _ h => by omega⟩
  case round =>
    obtain ⟨i, hi, rfl, hF, hF', hB, hall⟩ := hrel
    have d3 := hF.cell 3
    have dlt := hF.lt
    have d3' := hF'.cell 3
    have dlt' := hF'.lt
    have HBR := Lib.hid hB
    have HFR := Lib.hid hF
    have HFR' := Lib.hid hF'
    have HALL := Lib.hid hall
    clear hF hF' hB hall
    by_cases hlt : i < l.length
    · have hlt' : i < l'.length := H4.out ▸ hlt
      obtain ⟨bb, o, x, hba, hok, h4, hrv⟩ := HL.out.at_ i hlt
      obtain ⟨bb', o', x', hba', hok', h4x, hrv'⟩ := HL'.out.at_ i hlt'
      have h4' := h4.kept HBR.out.size (HBR.out.block bb h4.lt)
      have h4x' := h4x.kept HBR.out.size (HBR.out.block bb' h4x.lt)
      have hdr : Below wr.heap.size wr wr.drew := (Below.refl _ _).drew
      have C := Lib.hid (ih l[i] (List.getElem_mem hlt) l'[i] ok ok' x x' wr.drew ((hrv.past HBR.out).past hdr) ((hrv'.past HBR.out).past hdr))
      have HAT := Lib.hid (Va.alkL_at l l' H4.out i hlt)
      have HALK : Hid (∀ j (h : j < l.length), j < i + 1 → Va.alkV l[i] l'[i] = true → Va.alkV l[j] (l'[j]'(H4.out ▸ h)) = true) := Lib.hid (fun j h h2 h3 => by
        rcases Nat.lt_or_ge j i with h4 | h4
        · exact HALL.out j h h4
        · obtain rfl : j = i := by omega
          exact h3)
      obtain ⟨b, hb⟩ : ∃ b, Va.alkV l[i] l'[i] = b := ⟨_, rfl⟩
      rw [hb] at C
      have HBT := Lib.hid hb
      clear hb
      obtain ⟨hlt4, a1, a2, a3, a4, hx4, e1, e2, e3, e4⟩ := h4'
      obtain ⟨hlt4', a1', a2', a3', a4', hx4', e1', e2', e3', e4'⟩ := h4x'
      subst hx4
      subst hba
      subst hx4'
      subst hba'
      have hj0 : (0 : Int) ≤ (i : Int) := by omega
      have hj1 : (i : Int) < (l.length : Int) := by omega
      have hj1' : (i : Int) < (l'.length : Int) := by omega
      clear h4 h4x hrv hrv' hdr
      go_wp2_with fail
      refine wp_region_T_drew (fun w' => w'.cell? ⟨w.heap.size, 3, none⟩ = some (.slice (some ⟨bb, o, none⟩) l.length cap) ∧ w'.cell? ⟨w.heap.size + 1, 3, none⟩ = some (.slice (some ⟨bb', o', none⟩) l'.length cap') ∧ (w'.cell? ⟨bb, o + i * 4, none⟩ = some a1 ∧ w'.cell? ⟨bb, o + i * 4 + 1, none⟩ = some a2 ∧ w'.cell? ⟨bb, o + i * 4 + 2, none⟩ = some a3 ∧ w'.cell? ⟨bb, o + i * 4 + 3, none⟩ = some a4) ∧ (w'.cell? ⟨bb', o' + i * 4, none⟩ = some a1' ∧ w'.cell? ⟨bb', o' + i * 4 + 1, none⟩ = some a2' ∧ w'.cell? ⟨bb', o' + i * 4 + 2, none⟩ = some a3' ∧ w'.cell? ⟨bb', o' + i * 4 + 3, none⟩ = some a4')) 12 (by kernel_rfl) ⟨d3, d3', ⟨e1, e2, e3, e4⟩, e1', e2', e3', e4'⟩ (fun hS => ?_)
      refine wpAnyT_take 0 rfl (by kernel_rfl) (by kernel_rfl) (by decide) (by kernel_rfl) (by kernel_rfl) (fun _ _ _ h => h) hS (by kernel_rfl) (v := ?_) ?_ ?_
      rotate_left
      · intro w' hSw; (try dsimp only at hSw); go_simp; (try with_reducible rfl)
      simp only [Act.put, List.setIfInBounds_toArray, List.set_cons_zero, List.set_cons_succ]
      refine wpAnyT_take 1 rfl (by kernel_rfl) (by kernel_rfl) (by decide) (by kernel_rfl) (by kernel_rfl) (fun _ _ _ h => h) hS (by kernel_rfl) (v := ?_) ?_ ?_
      rotate_left
      · intro w' hSw; (try dsimp only at hSw); go_simp; (try with_reducible rfl)
      simp only [Act.put, List.setIfInBounds_toArray, List.set_cons_zero, List.set_cons_succ]
      refine wpAnyT_take 2 rfl (by kernel_rfl) (by kernel_rfl) (by decide) (by kernel_rfl) (by kernel_rfl) (fun _ _ _ h => h) hS (by kernel_rfl) (v := ?_) ?_ ?_
      rotate_left
      · intro w' hSw; (try dsimp only at hSw); go_simp; (try with_reducible rfl)
      simp only [Act.put, List.setIfInBounds_toArray, List.set_cons_zero, List.set_cons_succ]
      refine wpAnyT_take 3 rfl (by kernel_rfl) (by kernel_rfl) (by decide) (by kernel_rfl) (by kernel_rfl) (fun _ _ _ h => h) hS (by kernel_rfl) (v := ?_) ?_ ?_
      rotate_left
      · intro w' hSw; (try dsimp only at hSw); go_simp; (try with_reducible rfl)
      simp only [Act.put, List.setIfInBounds_toArray, List.set_cons_zero, List.set_cons_succ]
      refine wpAnyT_take 4 rfl (by kernel_rfl) (by kernel_rfl) (by decide) (by kernel_rfl) (by kernel_rfl) (fun _ _ _ h => h) hS (by kernel_rfl) (v := ?_) ?_ ?_
      rotate_left
      · intro w' hSw; (try dsimp only at hSw); go_simp; (try with_reducible rfl)
      simp only [Act.put, List.setIfInBounds_toArray, List.set_cons_zero, List.set_cons_succ]
      refine wpAnyT_take 5 rfl (by kernel_rfl) (by kernel_rfl) (by decide) (by kernel_rfl) (by kernel_rfl) (fun _ _ _ h => h) hS (by kernel_rfl) (v := ?_) ?_ ?_
      rotate_left
      · intro w' hSw; (try dsimp only at hSw); go_simp; (try with_reducible rfl)
      simp only [Act.put, List.setIfInBounds_toArray, List.set_cons_zero, List.set_cons_succ]
      refine wpAnyT_take 6 rfl (by kernel_rfl) (by kernel_rfl) (by decide) (by kernel_rfl) (by kernel_rfl) (fun _ _ _ h => h) hS (by kernel_rfl) (v := ?_) ?_ ?_
      rotate_left
      · intro w' hSw; (try dsimp only at hSw); go_simp; (try with_reducible rfl)
      simp only [Act.put, List.setIfInBounds_toArray, List.set_cons_zero, List.set_cons_succ]
      refine wpAnyT_take 7 rfl (by kernel_rfl) (by kernel_rfl) (by decide) (by kernel_rfl) (by kernel_rfl) (fun _ _ _ h => h) hS (by kernel_rfl) (v := ?_) ?_ ?_
      rotate_left
      · intro w' hSw; (try dsimp only at hSw); go_simp; (try with_reducible rfl)
      simp only [Act.put, List.setIfInBounds_toArray, List.set_cons_zero, List.set_cons_succ]
      refine wpAnyT_take 8 rfl (by kernel_rfl) (by kernel_rfl) (by decide) (by kernel_rfl) (by kernel_rfl) (fun _ _ _ h => h) hS (by kernel_rfl) (v := ?_) ?_ ?_
      rotate_left
      · intro w' hSw; (try dsimp only at hSw); go_simp; (try with_reducible rfl)
      simp only [Act.put, List.setIfInBounds_toArray, List.set_cons_zero, List.set_cons_succ]
      refine wpAnyT_take 9 rfl (by kernel_rfl) (by kernel_rfl) (by decide) (by kernel_rfl) (by kernel_rfl) (fun _ _ _ h => h) hS (by kernel_rfl) (v := ?_) ?_ ?_
      rotate_left
      · intro w' hSw; (try dsimp only at hSw); go_simp; (try with_reducible rfl)
      simp only [Act.put, List.setIfInBounds_toArray, List.set_cons_zero, List.set_cons_succ]
      refine wpAnyT_one 10 (by kernel_rfl) rfl (by kernel_rfl) (fun K hK => ?_)
      go_simp
      with_reducible refine (C.out).mono ?_
      rintro e w5 ⟨rfl, hb5⟩
      have hb6 : Below wr.heap.size wr w5 := ((Below.refl wr.heap.size wr).drew).trans hb5
      have hc : ∀ b o, b < wr.heap.size → w5.cell? ⟨b, o, none⟩ = wr.cell? ⟨b, o, none⟩ := fun b o h => hb6.cell (p := ⟨b, o, none⟩) h
      have hS : _ ∧ _ ∧ (_ ∧ _ ∧ _ ∧ _) ∧ (_ ∧ _ ∧ _ ∧ _) := ⟨(hc _ _ dlt).trans d3, (hc _ _ dlt').trans d3', ⟨(hc _ _ hlt4).trans e1, (hc _ _ hlt4).trans e2, (hc _ _ hlt4).trans e3, (hc _ _ hlt4).trans e4⟩, (hc _ _ hlt4').trans e1', (hc _ _ hlt4').trans e2', (hc _ _ hlt4').trans e3', (hc _ _ hlt4').trans e4'⟩
      have HB5 := Lib.hid (HBR.out.trans (hb6.mono HBR.out.size))
      have HF5 := Lib.hid (HFR.out.below hb6)
      have HF5' := Lib.hid (HFR'.out.below hb6)
      clear hc hb5 hb6
      refine hK _ _ (fun _ => hS) ?_
      clear hK K
      refine wpAnyT_take 11 rfl (by kernel_rfl) (by kernel_rfl) (by decide) (by kernel_rfl) (by kernel_rfl) (fun _ _ _ h => h) hS (by kernel_rfl) (v := ?_) ?_ ?_
      rotate_left
      · intro w' hSw; (try dsimp only at hSw); go_simp; (try with_reducible rfl)
      simp only [Act.put, List.setIfInBounds_toArray, List.set_cons_zero, List.set_cons_succ]
      refine wpAnyT_done (by kernel_rfl) ?_
      clear hS d3 d3' dlt dlt' e1 e2 e3 e4 e1' e2' e3' e4' hlt4 hlt4' C
      cases b with
      | false =>
        have hRf := HAT.out HBT.out
        rw [HE.out] at hRf
        subst hRf
        clear HE
        go_wp2
        go_ret
        exact ⟨rfl, HB5.out⟩
      | true =>
        go_wp2
        go_roundw
        case rel => exact ⟨i + 1, by omega, by go_num, HF5.out, HF5'.out, HB5.out, fun j h h2 => HALK.out j h h2 HBT.out⟩
        case measure => simp [intOf]; omega
    · obtain rfl : i = l.length := by omega
      have hRt : R = true := by rw [← HE.out]; exact Va.alkL_all l l' H4.out fun j h => HALL.out j h h
      subst hRt
      go_wp2
      go_ret
      exact ⟨rfl, HBR.out⟩
end Go.Proofs.YtgamhgeiceakeaaDoor
