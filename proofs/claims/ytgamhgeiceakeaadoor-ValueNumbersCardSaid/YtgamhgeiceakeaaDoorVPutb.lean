/- Put, by contract. -/
import Derived.Test.YtgamhgeiceakeaaDoorVPut
set_option linter.unusedVariables false
set_option linter.unusedSimpArgs false
namespace Go.Proofs.YtgamhgeiceakeaaDoor
open Go.RowKit
open Va (V)
theorem enc_len : ∀ v : V, ∀ lv, Va.okV v lv = true → (Va.enc v).length ≤ Va.cnt v * 8192 := V.ind fun k n s l ih => by
  intro lv hok
  have hL : ∀ l : List V, (∀ v ∈ l, ∀ lv, Va.okV v lv = true → (Va.enc v).length ≤ Va.cnt v * 8192) → ∀ lv, Va.okL l lv = true → (Va.encL l).length ≤ Va.cntL l * 8192 := by
    intro l
    induction l with
    | nil => intro _ _ _; simp [Va.encL]
    | cons v l ih2 =>
      intro hP lv h
      unfold Va.okL at h
      rw [Bool.and_eq_true] at h
      have h1 := hP v (List.mem_cons_self ..) lv h.1
      have h2 := ih2 (fun u hu => hP u (List.mem_cons_of_mem _ hu)) lv h.2
      rw [show Va.encL (v :: l) = Va.enc v ++ Va.encL l from rfl, show Va.cntL (v :: l) = Va.cnt v + Va.cntL l from rfl, List.length_append, Nat.add_mul]
      omega
  have hLl := hL l ih (lv - 1)
  have hu := fun m => (By.uv_len m).1
  unfold Va.okV at hok
  unfold Va.enc Va.cnt
  rw [List.length_cons, Nat.add_mul]
  by_cases h2 : k = 2
  · rw [if_pos h2]; simp; omega
  rw [if_neg h2]
  by_cases h3 : k = 3
  · subst h3
    rw [if_pos rfl]
    simp only [Nat.reduceEqDiff, if_false, if_true, Bool.and_eq_true, beq_iff_eq, decide_eq_true_eq] at hok
    have hs4 : s.data.toList.length ≤ 4096 := by rw [Array.length_toList]; exact hok.2.2
    have := (By.uv_len s.data.toList.length).1
    unfold By.blob
    rw [List.length_append]
    omega
  rw [if_neg h3]
  by_cases h4 : k = 4
  · subst h4
    rw [if_pos rfl]
    simp only [Nat.reduceEqDiff, if_false, if_true, Bool.and_eq_true, beq_iff_eq, decide_eq_true_eq] at hok
    have := (By.uv_len l.length).1
    rw [List.length_append]
    have := hLl hok.2.2
    omega
  · rw [if_neg h4]
    have := (By.uv_len (Va.zg n)).1
    omega
/-- what Put answers -/
def PtPost (B : Nat) (u : Value) (r : List UInt8) (v : V) (w : World) (e : Ending) (w' : World) : Prop :=
  (Va.right v = true ∧ ∃ v', e = .returned (.tuple #[v', .int .i64 0]) ∧ Ow w' B v' (r ++ Va.enc v) ∧ Gw w w' u v' ∧ v' ≠ .slice none 0 0) ∨ (Va.right v = false ∧ e = .returned (.tuple #[.slice none 0 0, .int .i64 13]) ∧ Below w.heap.size w w')
set_option maxHeartbeats 1600000 in
set_option maxRecDepth 100000 in
theorem Put_any (ok : Nat → Prop) (v : V) (x : Value) (W0 : World) (h : RV ok W0 v x) (w : World) (hw : Below W0.heap.size W0 w) (B : Nat) (hB : W0.heap.size ≤ B) (hBw : B ≤ w.heap.size) (u : Value) (r : List UInt8) (ho : Ow w B u r) (hl : r.length ≤ 137438953472) :
    Calls Tryd.prog 12 #[u, x] w (PtPost B u r v w) := by
  have hal : ∀ cs : Array Value, Below w.heap.size w (w.alloc (.cells cs 25)) := fun cs => (Below.refl _ _).alloc (Nat.le_refl _) _
  have hke : ∀ W : World, Below W0.heap.size W0 W → RV (fun b => ok b ∧ b < W0.heap.size) W v x := fun W hW => (h.mono (fun b hb hk => ⟨hk, hb⟩)).kept hW.size (fun b hk _ => hW.block b hk.2)
  have CR := Lib.hid (fun W (hW : Below W0.heap.size W0 W) => right_any _ v x W (hke W hW))
  have HP := Lib.hid (put_any v ok W0 x h)
  have HW := Lib.hid hw
  have HO := Lib.hid ho
  obtain ⟨k, n, s, l⟩ := v
  obtain ⟨ba, cap, rfl, hk, hn, hs, hL⟩ := h.inv
  have hca := hL.le
  clear h hL hw ho hke
  generalize hv : V.mk k n s l = v at CR HP ⊢
  clear hv
  go_enter Tryd.func12, Tryd.ntmps12
  go_upto_region 1 with (fail)
  have F := Blk.new w #[.int .u8 k, .int .i64 n, .string s, .slice ba l.length cap] 25
  have hbw := hal #[.int .u8 k, .int .i64 n, .string s, .slice ba l.length cap]
  generalize w.alloc (.cells #[.int .u8 k, .int .i64 n, .string s, .slice ba l.length cap] 25) = W at F hbw ⊢
  have d0 := F.cell 0
  have d1 := F.cell 1
  have d2 := F.cell 2
  have d3 := F.cell 3
  have hlt := F.lt
  have hWW : Below W0.heap.size W0 W := HW.out.trans (hbw.mono HW.out.size)
  have C := Lib.hid (CR.out W hWW)
  have HF := Lib.hid F
  have HBW := Lib.hid hbw
  clear F hbw CR hal
  go_wp2_with fail
  refine (C.out).mono ?_
  rintro e w2 ⟨rfl, hb2⟩
  have F2 := HF.out.below hb2
  have e0 := F2.cell 0
  have e1 := F2.cell 1
  have e2 := F2.cell 2
  have e3 := F2.cell 3
  have hlt2 := F2.lt
  have HB2 := Lib.hid (HBW.out.trans (hb2.mono HBW.out.size))
  clear d0 d1 d2 d3 hlt C F2
  cases hr : Va.right v with
  | true =>
    have hr' := hr
    unfold Va.right at hr'
    rw [Bool.and_eq_true, decide_eq_true_eq] at hr'
    have hel := enc_len v 16 hr'.1
    have C2 := Lib.hid (HP.out w2 (HW.out.trans (HB2.out.mono HW.out.size)) B hB (Nat.le_trans hBw HB2.out.size) u r (HO.out.past HB2.out) 16 hr'.1 (by omega))
    clear hr'
    go_wp2_with fail
    refine (C2.out).mono ?_
    rintro e w3 ⟨v3, rfl, ho3, hg3, hn3⟩
    have HO3 := Lib.hid ho3
    have HG3 := Lib.hid (Gw.of HB2.out hg3 (fun i hi => (HO.out.lt i hi).2))
    have HN3 := Lib.hid hn3
    clear ho3 hg3 hn3
    go_wp2
    go_ret2
    exact Or.inl ⟨hr, v3, rfl, HO3.out, HG3.out, HN3.out (by obtain ⟨k, n, s, l⟩ := v; unfold Va.enc; simp)⟩
  | false =>
    go_wp2
    go_ret2
    exact Or.inr ⟨hr, rfl, HB2.out⟩
end Go.Proofs.YtgamhgeiceakeaaDoor
