/- package session: Link where nothing waits; packets of the law's own, by contract. -/
import Derived.Test.YtndfelbgppbncaaSTwo
set_option linter.unusedVariables false
namespace Go.Proofs.Ytndfelbgppbncaa
open Go.RowKit
set_option maxHeartbeats 1600000 in
set_option maxRecDepth 100000 in
theorem link0_any (p : Nat) (self peer life last done acc pl : Int) (w : World) (h : Se w p self peer life last (.slice none 0 0) done acc pl) :
    Calls Try.prog 21 #[.pointer (some ⟨p, 0, none⟩)] w (AggBelow (.agg #[.int .i64 last, .slice none 0 0, .int .i64 done]) w) := by
  have hb1 : Below w.heap.size w (w.alloc (.cells #[.int .i64 0, .slice none 0 0, .int .i64 0] 24)) := (Below.refl _ _).alloc (Nat.le_refl _) _
  have h2 := h.below hb1
  have CN := Lib.hid (none_any p self peer life last (.slice none 0 0) done acc pl _ h2)
  have CC := Lib.hid (fun w => copied0_any last done w)
  have c4 := h2.cell 4
  have c5 := h2.cell 5
  have c6 := h2.cell 6
  have hlt := h.lt
  clear h h2 hb1
  go_enter Try.func21, Try.ntmps21
  go_wp2_with fail
  with_reducible refine (CN.out).mono ?_
  rintro e w1 ⟨rfl, rfl⟩
  go_wp2_with fail
  with_reducible refine (CC.out _).mono ?_
  rintro e w2 ⟨rfl, hb2⟩
  obtain ⟨q1, q2, q3⟩ := cells_one hb2
  have hfr : ∀ o, w2.frozen? ⟨w.heap.size, o, none⟩ = false := fun o => ((Blk.new w #[.int .i64 0, .slice none 0 0, .int .i64 0] 24).below hb2).free o
  have HB := Lib.hid q3
  clear hb2 q3
  go_wp2
  exact bodyPost_ret (v := .agg #[.int .i64 last, .slice none 0 0, .int .i64 done]) (by unfold results; rw [Try.results21]; go_simp) rfl ⟨rfl, ((HB.out.setCell (p := ⟨w.heap.size, 0, none⟩) (Nat.le_refl _) _).setCell (p := ⟨w.heap.size, 1, none⟩) (Nat.le_refl _) _).setCell (p := ⟨w.heap.size, 2, none⟩) (Nat.le_refl _) _⟩
set_option maxHeartbeats 1600000 in
set_option maxRecDepth 100000 in
theorem packed_any (l s a : Nat) (x y z : Int) (hx : x = l) (hy : y = s) (hz : z = a) (ba : Option Addr) (n cap : Nat) (d : List UInt8) (w : World) (hn : d.length = n) (hr : Rd w ba d) (hb : ba = none → n = 0) (hp : (⟨1, l, s, a, d⟩ : By.Pk).right) :
    Calls Try.prog 31 #[.int .i64 x, .int .i64 y, .int .i64 z, .slice ba n cap] w fun e w' => ∃ v', e = .returned v' ∧ Ow w' w.heap.size v' (By.pack ⟨1, l, s, a, d⟩) ∧ Below w.heap.size w w' := by
  subst hx; subst hy; subst hz
  have CP : Hid (Calls Try.prog 56 #[.agg #[.int .i64 1, .int .i64 l, .int .i64 s, .int .i64 a, .slice ba n cap]] w (NewErr (By.pack ⟨1, l, s, a, d⟩) 0 w)) := Lib.hid (pack_yes 1 l s a ba n cap d w hn hr hb hp)
  clear hn hr hb hp
  go_enter Try.func31, Try.ntmps31
  go_wp2_with fail
  with_reducible refine (CP.out).mono ?_
  rintro e w1 ⟨v1, rfl, ho, hb⟩
  have HO := Lib.hid ho
  have HB := Lib.hid hb
  clear ho hb
  go_wp2
  go_ret
  exact ⟨_, rfl, HO.out, HB.out⟩
set_option maxHeartbeats 800000 in
set_option maxRecDepth 100000 in
theorem indexFunc0_any (f : Value) (cap : Nat) (w : World) : Calls Try.prog 73 #[.slice none 0 cap, f] w fun e w' => e = .returned (.int .i64 (-1)) ∧ w = w' := by
  go_enter Try.func73, Try.ntmps73
  go_wp2
  go_loop [8] (fun i => i = .int .i64 0) (fun i => 4 - (intOf i).toNat)
  case atStart => rfl
  case round =>
    subst hrel
    go_wp2
    go_ret
    exact ⟨rfl, rfl⟩
set_option maxHeartbeats 800000 in
set_option maxRecDepth 100000 in
theorem deleteFunc0_any (f : Value) (cap : Nat) (w : World) : Calls Try.prog 53 #[.slice none 0 cap, f] w fun e w' => e = .returned (.slice none 0 cap) ∧ w = w' := by
  have C := Lib.hid (fun f cap w => indexFunc0_any f cap w)
  go_enter Try.func53, Try.ntmps53
  go_wp2_with fail
  with_reducible refine (C.out _ _ _).mono ?_
  rintro e w1 ⟨rfl, rfl⟩
  go_wp2
  go_ret
  exact ⟨rfl, rfl⟩
end Go.Proofs.Ytndfelbgppbncaa
