/- package bytes: copies, four bytes, by contract. -/
import Derived.Test.YtndfelbgppbncaaBTwo
import Derived.WalkSpells
set_option linter.unusedVariables false
namespace Go.Proofs.Ytndfelbgppbncaa
open Go.RowKit
theorem addPl (B o j : Nat) : (⟨B, o, none⟩ : Addr).add j = ⟨B, o + j, none⟩ := by
  unfold Addr.add
  split
  · subst_vars; rfl
  · rfl
theorem cells_new (w : World) (vs : Array Value) (T : TypeId) (b : Nat) (hb : b = w.heap.size) (j : Nat) (u : Value) (h : vs[j]? = some u) : (w.alloc (.cells vs T)).cell? ((⟨b, 0, none⟩ : Addr).add j) = some u := by
  subst hb
  rw [addPl, Nat.zero_add]
  have hb : (w.alloc (.cells vs T)).heap[w.heap.size]? = some (.cells vs T) := heap_alloc_new _ _
  simp only [World.cell?, hb]; simp [h]
/-- a copy in memory of its own -/
def ClPost (ba : Option Addr) (l : List UInt8) (w : World) (e : Ending) (w' : World) : Prop := ∃ v', e = .returned v' ∧ Ow w' w.heap.size v' l ∧ Below w.heap.size w w' ∧ (v' = .slice none 0 0 ↔ ba = none)
set_option maxHeartbeats 1600000 in
set_option maxRecDepth 100000 in
theorem clone_any (ba : Option Addr) (n cap : Nat) (l : List UInt8) (w : World) (hn : l.length = n) (hr : Rd w ba l) (hb : ba = none → n = 0) (hl : n ≤ 1099511627776) :
    Calls Try.prog 82 #[.slice ba n cap] w (ClPost ba l w) := by
  subst hn
  have q22 : ∀ (w : World) (a : Option Addr) (n c n' c' : Nat), (binOp .eql 25 (.slice a n c) (.slice none n' c')).run Try.prog w = .ok (.bool a.isNone) w := fun w a n c n' c' => Lib.run_eql_slice_nil w _ _ a n c n' c' Try.underlying25
  obtain ⟨i0, hi, hz0, hz1, hz2⟩ := info_parts Try.info_u8
  have HR := Lib.hid hr
  clear hr
  cases ba with
  | none =>
    have h0 := hb rfl
    have hl0 : l = [] := List.eq_nil_of_length_eq_zero h0
    have HL := Lib.hid hl0
    clear h0 hl0 hb
    go_enter Try.func82, Try.ntmps82
    go_wp2
    go_ret
    exact ⟨_, rfl, by rw [HL.out]; exact Ow.nil _ _, Below.refl _ _, Iff.intro (fun _ => rfl) (fun _ => rfl)⟩
  | some a0 =>
    clear hb
    go_enter Try.func82, Try.ntmps82
    go_wp2_with (at_builtin; refine wpList_append_gw _ rfl _ _ 25 rfl w.heap.size 5 i0 (.int .u8 0) 1 1 Try.underlying25 hi hz0 hz1 hz2 rfl (by decide) _ 0 [] rfl (World.ownsRow_made w #[] 0 (Nat.le_refl _) (Nat.zero_le _) rfl) a0 l.length cap (u8s l) rfl ?c0 ?c1 ?c2 ?c3 ?c4 ?c5 ?_)
    case c0 => rw [u8s_len]; omega
    case c1 =>
      intro j u hj
      have hjl : j < l.length := by have := (List.getElem?_eq_some_iff.1 hj).1; rw [u8s_len] at this; exact this
      rcases HR.out with h | ⟨b, o, e, hlt, hc⟩
      · rw [h] at hjl; simp at hjl
      · cases e
        rw [Addr.add_lit]
        rw [((Below.refl w.heap.size w).alloc (Nat.le_refl _) _).cell (p := ⟨b, o + j, none⟩) hlt, hc j hjl, ← hj]
        unfold u8s; simp [hjl]
    case c2 => exact u8s_one l
    case c3 => unfold maxLen; omega
    case c4 => omega
    case c5 => simp
    intro v' w1 hown' hgrow hnn
    have hown1 : Ow w1 w.heap.size v' l := by unfold Ow; simpa using hown'
    have hb1 : Below w.heap.size w w1 := ((Below.refl _ w).alloc (Nat.le_refl _) _).grown hgrow.grown (by simp) (by intro k hk; simp [Value.ownBlock] at hk; omega)
    have hnn1 : v' ≠ .slice none 0 0 := hnn
    have HO1 := Lib.hid hown1
    have HB1 := Lib.hid hb1
    have HN1 := Lib.hid hnn1
    clear hown' hgrow hnn hown1 hb1 hnn1
    go_wp2
    go_ret
    exact ⟨_, rfl, HO1.out, HB1.out, Iff.intro (fun e => absurd e HN1.out) (fun e => by cases e)⟩
set_option maxHeartbeats 1600000 in
set_option maxRecDepth 100000 in
theorem four_any (B : Nat) (v : Value) (l : List UInt8) (n : Nat) (w : World) (hn : n < 4294967296) (ho : Ow w B v l) (hB : B ≤ w.heap.size) (hl : l.length ≤ 1099511627776) :
    Calls Try.prog 81 #[v, .int .u32 n] w (OwPost B v (l ++ By.be4 n) w) := by
  obtain ⟨i0, hi, hz0, hz1, hz2⟩ := info_parts Try.info_u8
  have HO := Lib.hid ho
  clear ho
  go_enter Try.func81, Try.ntmps81
  have hbe : [Value.int .u8 ((n : Int) / 16777216), .int .u8 ((n : Int) / 65536 % 256), .int .u8 ((n : Int) / 256 % 256), .int .u8 ((n : Int) % 256)] = u8s (By.be4 n) := by
    unfold u8s By.be4
    simp only [List.map_cons, List.map_nil, UInt8.toNat_ofNat']
    congr 2
    · omega
  have HBE := Lib.hid hbe
  clear hbe
  go_wp2_with (at_builtin; refine wpList_append_gw _ rfl _ _ 25 rfl B 5 i0 (.int .u8 0) 1 1 Try.underlying25 hi hz0 hz1 hz2 rfl (by decide) _ l.length (u8s l) rfl (HO.out.alloc _) ⟨w.heap.size, 0, none⟩ 4 4 [.int .u8 ((n : Int) / 16777216), .int .u8 ((n : Int) / 65536 % 256), .int .u8 ((n : Int) / 256 % 256), .int .u8 ((n : Int) % 256)] rfl rfl ?c1 ?c2 ?c3 ?c4 ?c5 ?_)
  case c1 =>
    intro j u hj
    exact cells_new _ #[.int .u8 ((n : Int) / 16777216), .int .u8 ((n : Int) / 65536 % 256), .int .u8 ((n : Int) / 256 % 256), .int .u8 ((n : Int) % 256)] _ _ rfl j u (by simpa using hj)
  case c2 => rw [HBE.out]; exact u8s_one _
  case c3 => unfold maxLen; omega
  case c4 => omega
  case c5 => simp; omega
  intro v' w1 hown' hgrow hnn
  have hown1 : Ow w1 B v' (l ++ By.be4 n) := by
    rw [HBE.out] at hown'
    unfold Ow; rw [u8s_app, List.length_append]; exact hown'
  have hg1 := Gw.of ((Below.refl _ w).alloc (Nat.le_refl _) _) hgrow (fun i hi => (HO.out.lt i hi).2)
  have HO1 := Lib.hid hown1
  have HG1 := Lib.hid hg1
  have HN1 : Hid (v' ≠ .slice none 0 0) := Lib.hid (by simpa using hnn)
  clear hown' hgrow hnn hown1 hg1
  go_wp2
  go_ret
  exact ⟨_, rfl, HO1.out, HG1.out, fun _ => HN1.out⟩
end Go.Proofs.Ytndfelbgppbncaa
