/- package session: New and Link where nothing waits, by contract. -/
import Derived.Test.YtndfelbgppbncaaSOne
set_option linter.unusedVariables false
namespace Go.Proofs.Ytndfelbgppbncaa
open Go.RowKit
set_option maxHeartbeats 800000 in
set_option maxRecDepth 100000 in
theorem right0_any (last done : Int) (w : World) (h1 : 0 ≤ last ∧ last ≤ 2305843009213693952) (h2 : 0 ≤ done ∧ done ≤ 2305843009213693952) :
    Calls Try.prog 46 #[.agg #[.int .i64 last, .slice none 0 0, .int .i64 done]] w (BoolBelow true w) := by
  obtain ⟨l1, l2⟩ := h1
  obtain ⟨d1, d2⟩ := h2
  go_enter Try.func46, Try.ntmps46
  go_wp2
  go_loop [40] (fun i => i = .int .i64 0) (fun i => 4 - (intOf i).toNat)
  case atStart => rfl
  case round =>
    subst hrel
    go_wp2
    go_ret
    exact ⟨rfl, (Below.refl _ _).alloc (Nat.le_refl _) _⟩
def AggBelow (v : Value) (w : World) (e : Ending) (w' : World) : Prop := e = .returned v ∧ Below w.heap.size w w'
set_option maxHeartbeats 800000 in
set_option maxRecDepth 100000 in
theorem copied0_any (last done : Int) (w : World) :
    Calls Try.prog 47 #[.agg #[.int .i64 last, .slice none 0 0, .int .i64 done]] w (AggBelow (.agg #[.int .i64 last, .slice none 0 0, .int .i64 done]) w) := by
  go_enter Try.func47, Try.ntmps47
  go_wp2
  go_loop [14] (fun i => i = .int .i64 0) (fun i => 4 - (intOf i).toNat)
  case atStart => rfl
  case round =>
    subst hrel
    go_wp2
    exact bodyPost_ret (v := .agg #[.int .i64 last, .slice none 0 0, .int .i64 done]) (by unfold results; rw [Try.results47]; go_simp) rfl ⟨rfl, by
      refine ((((Below.refl w.heap.size w).alloc (Nat.le_refl _) _).alloc (by simp) _).alloc (by simp; try omega) _)⟩
set_option maxHeartbeats 800000 in
set_option maxRecDepth 100000 in
theorem node_any (n : Int) (w : World) (h : 0 ≤ n ∧ n < 16) : Calls Try.prog 45 #[.int .i64 n] w fun e w' => e = .returned (.bool true) ∧ w = w' := by
  obtain ⟨h1, h2⟩ := h
  go_enter Try.func45, Try.ntmps45
  go_wp2
  go_ret
  exact ⟨rfl, rfl⟩
theorem drew_one {w1 w2 : World} {b : Nat} {A : Array Value} (hb : Below w1.drew.heap.size w1.drew w2) (hq : ∀ o, w1.cell? ⟨b, o, none⟩ = A[o]?) (hlt : b < w1.heap.size) :
    (∀ o, w2.cell? ⟨b, o, none⟩ = A[o]?) ∧ b < w2.heap.size ∧ Below w1.heap.size w1 w2 := by
  have h : Below w1.heap.size w1 w2 := (Below.refl w1.heap.size w1).drew.trans hb
  exact ⟨fun o => by rw [h.cell (p := ⟨b, o, none⟩) hlt]; exact hq o, Nat.lt_of_lt_of_le hlt h.size, h⟩
def NewPost0 (self peer life last done : Int) (w : World) (e : Ending) (w' : World) : Prop := ∃ p, e = .returned (.tuple #[.pointer (some ⟨p, 0, none⟩), .int .i64 0]) ∧ Se w' p self peer life last (.slice none 0 0) done done 0 ∧ w.heap.size ≤ p ∧ Below w.heap.size w w'
set_option maxHeartbeats 1600000 in
set_option maxRecDepth 100000 in
theorem new0_any (self peer life last done : Int) (w : World) (hs : 0 ≤ self ∧ self < 16) (hp : 0 ≤ peer ∧ peer < 16) (hl : 1 ≤ life ∧ life ≤ 2305843009213693952) (h1 : 0 ≤ last ∧ last ≤ 2305843009213693952) (h2 : 0 ≤ done ∧ done ≤ 2305843009213693952) :
    Calls Try.prog 10 #[.int .i64 self, .int .i64 peer, .int .i64 life, .agg #[.int .i64 last, .slice none 0 0, .int .i64 done]] w (NewPost0 self peer life last done w) := by
  have C1 := Lib.hid (fun w => node_any self w hs)
  have C2 := Lib.hid (fun w => node_any peer w hp)
  have C3 := Lib.hid (fun w => right0_any last done w h1 h2)
  have C4 := Lib.hid (fun w => copied0_any last done w)
  obtain ⟨l1, l2⟩ := hl
  clear hs hp h1 h2
  go_enter Try.func10, Try.ntmps10
  go_wp2_with fail
  with_reducible refine (C1.out _).mono ?_
  rintro e w1 ⟨rfl, rfl⟩
  go_wp2_with fail
  with_reducible refine (C2.out _).mono ?_
  rintro e w1 ⟨rfl, rfl⟩
  go_wp2_with fail
  with_reducible refine (C3.out _).mono ?_
  rintro e w1 ⟨rfl, hb1⟩
  obtain ⟨q1, q2, q3⟩ := cells_one hb1
  have HB1 := Lib.hid q3
  clear hb1 q3
  go_wp2_with fail
  go_region_with (go_at_call 47; refine (C4.out _).mono ?_; rintro e w2 ⟨rfl, hb2⟩; obtain ⟨q4, q5, q6⟩ := drew_one hb2 q1 q2)
  all_goals
    go_wp2
    go_ret2
    exact ⟨w2.heap.size, rfl, Blk.new _ _ _, Nat.le_trans HB1.out.size q6.size, (HB1.out.trans (q6.mono HB1.out.size)).alloc (Nat.le_trans HB1.out.size q6.size) _⟩
end Go.Proofs.Ytndfelbgppbncaa
