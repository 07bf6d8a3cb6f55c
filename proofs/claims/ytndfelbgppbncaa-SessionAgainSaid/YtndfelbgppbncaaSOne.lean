/- package session: the small methods, by contract. -/
import Derived.Test.YtndfelbgppbncaaBThirteen
set_option linter.unusedVariables false
namespace Go.Proofs.Ytndfelbgppbncaa
open Go.RowKit
/-- a session that was made -/
def Se (w : World) (p : Nat) (self peer life last : Int) (out : Value) (done acc pl : Int) : Prop := Blk w p #[.bool true, .int .i64 self, .int .i64 peer, .int .i64 life, .int .i64 last, out, .int .i64 done, .int .i64 acc, .int .i64 pl] 55
theorem none_any (p : Nat) (self peer life last : Int) (out : Value) (done acc pl : Int) (w : World) (h : Se w p self peer life last out done acc pl) :
    Calls Try.prog 52 #[.pointer (some ⟨p, 0, none⟩)] w fun e w' => e = .returned (.bool false) ∧ w = w' := by
  have c0 := h.cell 0
  clear h
  go_enter Try.func52, Try.ntmps52
  go_wp2
  go_ret
  exact ⟨rfl, rfl⟩
def SePost (p : Nat) (self peer life last : Int) (out : Value) (done acc pl : Int) (v : Value) (w : World) (e : Ending) (w' : World) : Prop := e = .returned v ∧ Se w' p self peer life last out done acc pl ∧ w.grownBy w' (some p)
set_option maxHeartbeats 800000 in
theorem accept_yes (p : Nat) (self peer life last : Int) (out : Value) (done acc pl : Int) (w : World) (h : Se w p self peer life last out done acc pl) (x : Int) (hx : x = acc + 1) (ha : 0 ≤ acc ∧ acc ≤ 4611686018427387904) :
    Calls Try.prog 18 #[.pointer (some ⟨p, 0, none⟩), .int .i64 x] w (SePost p self peer life last out done x pl (.int .i64 0) w) := by
  have HS := Lib.hid h
  have cn := none_any p self peer life last out done acc pl w h
  have CN := Lib.hid cn
  have c7 := h.cell 7
  have hf := fun o => h.free o
  have hlt := h.lt
  obtain ⟨a1, a2⟩ := ha
  have hb : (x != acc + 1) = false := by rw [hx]; simp
  have hfin : Se (w.setCell ⟨p, 7, none⟩ (.int .i64 x)) p self peer life last out done x pl := h.set 7 _
  have hgr : w.grownBy (w.setCell ⟨p, 7, none⟩ (.int .i64 x)) (some p) := grown_set (grown_refl _ _) _ _
  have HF := Lib.hid hfin
  have HG := Lib.hid hgr
  clear h cn hx hfin hgr
  go_enter Try.func18, Try.ntmps18
  go_wp2_with fail
  with_reducible refine (CN.out).mono ?_
  rintro e w1 ⟨rfl, rfl⟩
  go_wp2
  go_ret
  exact ⟨rfl, HF.out, HG.out⟩
set_option maxHeartbeats 800000 in
theorem accept_no (p : Nat) (self peer life last : Int) (out : Value) (done acc pl : Int) (w : World) (h : Se w p self peer life last out done acc pl) (x : Int) (hx : x ≠ acc + 1) (ha : 0 ≤ acc ∧ acc ≤ 4611686018427387904) :
    Calls Try.prog 18 #[.pointer (some ⟨p, 0, none⟩), .int .i64 x] w (SePost p self peer life last out done acc pl (.int .i64 16) w) := by
  have HS := Lib.hid h
  have cn := none_any p self peer life last out done acc pl w h
  have CN := Lib.hid cn
  have c7 := h.cell 7
  obtain ⟨a1, a2⟩ := ha
  have hb : (x != acc + 1) = true := by rw [bne_iff_ne]; exact hx
  clear h cn hx
  go_enter Try.func18, Try.ntmps18
  go_wp2_with fail
  with_reducible refine (CN.out).mono ?_
  rintro e w1 ⟨rfl, rfl⟩
  go_wp2
  go_ret
  exact ⟨rfl, HS.out, grown_refl _ _⟩
set_option maxHeartbeats 800000 in
theorem done_yes (p : Nat) (self peer life last : Int) (out : Value) (done acc pl : Int) (w : World) (h : Se w p self peer life last out done acc pl) (x : Int) (hx : done < x) (hx2 : x ≤ acc) :
    Calls Try.prog 19 #[.pointer (some ⟨p, 0, none⟩), .int .i64 x] w (SePost p self peer life last out x acc pl (.int .i64 0) w) := by
  have HS := Lib.hid h
  have cn := none_any p self peer life last out done acc pl w h
  have CN := Lib.hid cn
  have c7 := h.cell 7
  have c6 := h.cell 6
  have hf := fun o => h.free o
  have hlt := h.lt
  have d1 : ¬ x ≤ done := by omega
  have d2 : ¬ acc < x := by omega
  have hfin : Se (w.setCell ⟨p, 6, none⟩ (.int .i64 x)) p self peer life last out x acc pl := h.set 6 _
  have hgr : w.grownBy (w.setCell ⟨p, 6, none⟩ (.int .i64 x)) (some p) := grown_set (grown_refl _ _) _ _
  have HF := Lib.hid hfin
  have HG := Lib.hid hgr
  clear h cn hfin hgr
  go_enter Try.func19, Try.ntmps19
  go_wp2_with fail
  with_reducible refine (CN.out).mono ?_
  rintro e w1 ⟨rfl, rfl⟩
  go_wp2
  go_ret
  exact ⟨rfl, HF.out, HG.out⟩
set_option maxHeartbeats 800000 in
theorem done_no (p : Nat) (self peer life last : Int) (out : Value) (done acc pl : Int) (w : World) (h : Se w p self peer life last out done acc pl) (x : Int) (hx : x ≤ done ∨ acc < x) :
    Calls Try.prog 19 #[.pointer (some ⟨p, 0, none⟩), .int .i64 x] w (SePost p self peer life last out done acc pl (.int .i64 16) w) := by
  have HS := Lib.hid h
  have cn := none_any p self peer life last out done acc pl w h
  have CN := Lib.hid cn
  have c7 := h.cell 7
  have c6 := h.cell 6
  clear h cn
  by_cases d1 : x ≤ done
  · clear hx
    go_enter Try.func19, Try.ntmps19
    go_wp2_with fail
    with_reducible refine (CN.out).mono ?_
    rintro e w1 ⟨rfl, rfl⟩
    go_wp2
    go_ret
    exact ⟨rfl, HS.out, grown_refl _ _⟩
  · have d2 : acc < x := by omega
    clear hx
    go_enter Try.func19, Try.ntmps19
    go_wp2_with fail
    with_reducible refine (CN.out).mono ?_
    rintro e w1 ⟨rfl, rfl⟩
    go_wp2
    go_ret
    exact ⟨rfl, HS.out, grown_refl _ _⟩
theorem peerLife_any (p : Nat) (self peer life last : Int) (out : Value) (done acc pl : Int) (w : World) (h : Se w p self peer life last out done acc pl) :
    Calls Try.prog 14 #[.pointer (some ⟨p, 0, none⟩)] w fun e w' => e = .returned (.int .i64 pl) ∧ w = w' := by
  have cn := none_any p self peer life last out done acc pl w h
  have CN := Lib.hid cn
  have c8 := h.cell 8
  clear h cn
  go_enter Try.func14, Try.ntmps14
  go_wp2_with fail
  with_reducible refine (CN.out).mono ?_
  rintro e w1 ⟨rfl, rfl⟩
  go_wp2
  go_ret
  exact ⟨rfl, rfl⟩
end Go.Proofs.Ytndfelbgppbncaa
