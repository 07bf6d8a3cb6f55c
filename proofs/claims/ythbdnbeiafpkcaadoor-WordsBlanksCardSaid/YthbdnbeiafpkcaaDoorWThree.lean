/- What stands behind a backslash, by contract. -/
import Derived.Test.YthbdnbeiafpkcaaDoorWTwo
set_option linter.unusedVariables false
namespace Go.Proofs.YthbdnbeiafpkcaaDoor
open Go.RowKit
def digits16 : List UInt8 := [48, 49, 50, 51, 52, 53, 54, 55, 56, 57, 97, 98, 99, 100, 101, 102]
def hexi (c : UInt8) : Int := match Wo.hexv c with
  | some x => x
  | none => -1
theorem hexi_eq (c : UInt8) : Lib.indexByte digits16 c = hexi c := by
  have h : ∀ n : Fin 256, Lib.indexByte digits16 (UInt8.ofNat n.val) = hexi (UInt8.ofNat n.val) := by decide +kernel
  have := h ⟨c.toNat, c.toNat_lt⟩
  simpa using this
theorem index_any (c : UInt8) (w : World) : Calls Tryd.prog 74 #[.string ⟨#[48, 49, 50, 51, 52, 53, 54, 55, 56, 57, 97, 98, 99, 100, 101, 102]⟩, .int .u8 c.toNat] w fun e w' => e = .returned (.int .i64 (hexi c)) ∧ w' = w :=
  (Tryd.strings_IndexByte _ _ w).mono fun e w' h => by
    rw [show (c.toNat : Int).toNat.toUInt8 = c by simp, show (⟨#[48, 49, 50, 51, 52, 53, 54, 55, 56, 57, 97, 98, 99, 100, 101, 102]⟩ : ByteArray).data.toList = digits16 from rfl, hexi_eq] at h
    exact h
def EscPost (l : List UInt8) (w : World) (e : Ending) (w' : World) : Prop := e = .returned (.tuple #[.int .u8 (Wo.esc l).1.toNat, .int .i64 (Wo.esc l).2]) ∧ ∃ n, w' = w.drewN n
theorem esc_none (s : ByteArray) (w : World) (h : s.data.toList = []) : Calls Tryd.prog 58 #[.string s] w (EscPost s.data.toList w) := by
  obtain rfl : s = ⟨#[]⟩ := by cases s with | mk d => cases d with | mk l => simp at h; subst h; rfl
  clear h
  go_enter Tryd.func58, Tryd.ntmps58
  go_wp2
  go_ret2
  exact ⟨rfl, 0, rfl⟩
theorem esc_three (l : List UInt8) (h : 3 ≤ l.length) (h0 : l[0].toNat = 120) : Wo.esc l = (match Wo.hexv l[1], Wo.hexv l[2] with
    | some x, some y => (UInt8.ofNat (16 * x + y), 3)
    | _, _ => (0, 0)) := by
  match l, h with
  | a :: b :: c :: r, _ =>
    simp only [List.getElem_cons_zero] at h0
    show (if a.toNat = 34 ∨ a.toNat = 92 then (a, 1) else if a.toNat = 110 then (10, 1) else if a.toNat = 120 then
      (match Wo.hexv b, Wo.hexv c with
        | some x, some y => (UInt8.ofNat (16 * x + y), 3)
        | _, _ => (0, 0)) else (0, 0)) = _
    rw [if_neg (by omega), if_neg (by omega), if_pos h0]
    rfl
theorem hexv_lt (c : UInt8) (x : Nat) (h : Wo.hexv c = some x) : x < 16 := by
  unfold Wo.hexv at h
  split at h
  · cases h; omega
  · split at h
    · cases h; omega
    · cases h
theorem or16 (x y : Nat) (hx : x < 16) (hy : y < 16) : bits BinOp.or IntKind.i64 (wrap64 ((x : Int) * 16)) (y : Int) % 256 = ((UInt8.ofNat (16 * x + y)).toNat : Int) := by
  have h : ∀ x y : Fin 16, bits BinOp.or IntKind.i64 (wrap64 ((x.val : Int) * 16)) (y.val : Int) % 256 = ((UInt8.ofNat (16 * x.val + y.val)).toNat : Int) := by decide +kernel
  exact h ⟨x, hx⟩ ⟨y, hy⟩
theorem notEmpty (s : ByteArray) (h : 1 ≤ s.size) : s.toList.isEmpty = false := by
  rw [ByteArray.toList_eq]
  cases hl : s.data.toList with
  | nil => have : s.data.toList.length = s.size := rfl; rw [hl] at this; simp at this; omega
  | cons a l => rfl
theorem ret_two {a a' : Int} {b b' : Int} (h : a = a') (h' : b = b') : Ending.returned (.tuple #[.int .u8 a, .int .i64 b]) = .returned (.tuple #[.int .u8 a', .int .i64 b']) := by rw [h, h']
set_option maxRecDepth 100000 in
theorem esc_hex (s : ByteArray) (w : World) (h3 : 3 ≤ s.size) (hs : s.size ≤ maxLen) (h : s[0].toNat = 120) : Calls Tryd.prog 58 #[.string s] w (EscPost s.data.toList w) := by
  unfold maxLen at hs
  have h1 := notEmpty s (by omega)
  have he := esc_three s.data.toList h3 h
  have k0 : ((s[0].toNat : Int) == 34) = false := by rw [h]; rfl
  have k1 : ((s[0].toNat : Int) == 92) = false := by rw [h]; rfl
  have k2 : ((s[0].toNat : Int) == 110) = false := by rw [h]; rfl
  have k3 : ((s[0].toNat : Int) == 120) = true := by rw [h]; rfl
  clear h
  have b1 : (1 : Int) < (s.size : Int) := by omega
  have b2 : (2 : Int) < (s.size : Int) := by omega
  have b3 : 1 < s.size := by omega
  have b4 : 2 < s.size := by omega
  change Wo.esc s.data.toList = (match Wo.hexv s[1], Wo.hexv s[2] with
    | some x, some y => (UInt8.ofNat (16 * x + y), 3)
    | _, _ => (0, 0)) at he
  cases e1 : Wo.hexv s[1] with
  | none =>
    rw [e1] at he
    have p1 : hexi s[1] < 0 := by unfold hexi; rw [e1]; decide
    have HE := Lib.hid he
    clear e1 he
    go_enter Tryd.func58, Tryd.ntmps58
    go_wp2
    go_quiet ((go_at_call 74; exact Calls.quiet_of_same (index_any _ _)))
    go_wp2
    go_ret2
    exact ⟨ret_two (by rw [HE.out]; rfl) (by rw [HE.out]; rfl), _, rfl⟩
  | some x =>
    have p1 : hexi s[1] = x := by unfold hexi; rw [e1]
    have l1 := hexv_lt s[1] x e1
    rw [e1] at he
    cases e2 : Wo.hexv s[2] with
    | none =>
      rw [e2] at he
      have p2 : hexi s[2] < 0 := by unfold hexi; rw [e2]; decide
      have p3 : 0 ≤ hexi s[1] := by omega
      have HE := Lib.hid he
      clear e1 e2 he p1
      go_enter Tryd.func58, Tryd.ntmps58
      go_wp2
      go_quiet ((go_at_call 74; exact Calls.quiet_of_same (index_any _ _)))
      go_wp2
      go_ret2
      exact ⟨ret_two (by rw [HE.out]; rfl) (by rw [HE.out]; rfl), _, rfl⟩
    | some y =>
      have p2 : hexi s[2] = y := by unfold hexi; rw [e2]
      have l2 := hexv_lt s[2] y e2
      rw [e2] at he
      have p3 : 0 ≤ hexi s[1] := by omega
      have p4 : 0 ≤ hexi s[2] := by omega
      have HE := Lib.hid he
      have HO := Lib.hid (or16 x y l1 l2)
      have P1 := Lib.hid p1
      have P2 := Lib.hid p2
      clear e1 e2 he p1 p2
      go_enter Tryd.func58, Tryd.ntmps58
      go_wp2
      go_quiet ((go_at_call 74; exact Calls.quiet_of_same (index_any _ _)))
      go_wp2
      go_ret2
      exact ⟨ret_two (by rw [HE.out, P1.out, P2.out]; exact HO.out) (by rw [HE.out]; rfl), _, rfl⟩
theorem esc_else (l : List UInt8) (h : 1 ≤ l.length) (hh : ¬ (l[0].toNat = 120 ∧ 3 ≤ l.length)) : Wo.esc l = if l[0].toNat = 34 ∨ l[0].toNat = 92 then (l[0], 1) else if l[0].toNat = 110 then (10, 1) else (0, 0) := by
  match l, h with
  | a :: r, _ =>
    simp only [List.getElem_cons_zero, List.length_cons] at hh
    show (if a.toNat = 34 ∨ a.toNat = 92 then (a, 1) else if a.toNat = 110 then (10, 1) else if a.toNat = 120 then
      (match r with
      | x :: y :: _ => (match Wo.hexv x, Wo.hexv y with
        | some x, some y => (UInt8.ofNat (16 * x + y), 3)
        | _, _ => (0, 0))
      | _ => (0, 0)) else (0, 0)) = _
    simp only [List.getElem_cons_zero]
    by_cases h1 : a.toNat = 34 ∨ a.toNat = 92
    · rw [if_pos h1, if_pos h1]
    · rw [if_neg h1, if_neg h1]
      by_cases h2 : a.toNat = 110
      · rw [if_pos h2, if_pos h2]
      · rw [if_neg h2, if_neg h2]
        by_cases h3 : a.toNat = 120
        · rw [if_pos h3]
          match r with
          | [] => rfl
          | [x] => rfl
          | x :: y :: q => exact absurd ⟨h3, by simp⟩ hh
        · rw [if_neg h3]
theorem beqI {a : Nat} {b : Int} (h : (a : Int) = b) : ((a : Int) == b) = true := by rw [h]; simp
theorem bneI {a : Nat} {b : Int} (h : (a : Int) ≠ b) : ((a : Int) == b) = false := by rw [beq_eq_false_iff_ne]; exact h
set_option maxRecDepth 100000 in
theorem esc_plain (s : ByteArray) (w : World) (h1 : 1 ≤ s.size) (hs : s.size ≤ maxLen) (hh : ¬ (s[0].toNat = 120 ∧ 3 ≤ s.size)) : Calls Tryd.prog 58 #[.string s] w (EscPost s.data.toList w) := by
  unfold maxLen at hs
  have hn := notEmpty s h1
  have he := esc_else s.data.toList h1 hh
  change Wo.esc s.data.toList = if s[0].toNat = 34 ∨ s[0].toNat = 92 then (s[0], 1) else if s[0].toNat = 110 then (10, 1) else (0, 0) at he
  have b1 : (0 : Int) < (s.size : Int) := by omega
  have b2 : 0 < s.size := by omega
  have hc : s[0].toNat < 256 := s[0].toNat_lt
  by_cases p1 : s[0].toNat = 34 ∨ s[0].toNat = 92
  · rw [if_pos p1] at he
    have HE := Lib.hid he
    clear he hh
    rcases p1 with p1 | p1
    all_goals
      have k1 := Lib.hid p1
      first | (have k34 : ((s[0].toNat : Int) == 34) = true := beqI (by omega); clear p1) | (have k34 : ((s[0].toNat : Int) == 34) = false := bneI (by omega); have k92 : ((s[0].toNat : Int) == 92) = true := beqI (by omega); clear p1)
      go_enter Tryd.func58, Tryd.ntmps58
      go_wp2
      go_ret2
      exact ⟨ret_two (by rw [HE.out]) (by rw [HE.out]; rfl), 0, rfl⟩
  · have k34 : ((s[0].toNat : Int) == 34) = false := bneI (by omega)
    have k92 : ((s[0].toNat : Int) == 92) = false := bneI (by omega)
    rw [if_neg p1] at he
    by_cases p2 : s[0].toNat = 110
    · rw [if_pos p2] at he
      have HE := Lib.hid he
      have k110 : ((s[0].toNat : Int) == 110) = true := beqI (by omega)
      clear he hh p1 p2
      go_enter Tryd.func58, Tryd.ntmps58
      go_wp2
      go_ret2
      exact ⟨ret_two (by rw [HE.out]; rfl) (by rw [HE.out]; rfl), 0, rfl⟩
    · rw [if_neg p2] at he
      have HE := Lib.hid he
      have k110 : ((s[0].toNat : Int) == 110) = false := bneI (by omega)
      by_cases p3 : s[0].toNat = 120
      · have k120 : ((s[0].toNat : Int) == 120) = true := beqI (by omega)
        have l3 : s.size < 3 := by omega
        clear he hh p1 p2 p3
        go_enter Tryd.func58, Tryd.ntmps58
        go_wp2
        go_ret2
        exact ⟨ret_two (by rw [HE.out]; rfl) (by rw [HE.out]; rfl), 0, rfl⟩
      · have k120 : ((s[0].toNat : Int) == 120) = false := bneI (by omega)
        clear he hh p1 p2 p3
        go_enter Tryd.func58, Tryd.ntmps58
        go_wp2
        go_ret2
        exact ⟨ret_two (by rw [HE.out]; rfl) (by rw [HE.out]; rfl), 0, rfl⟩
theorem esc_any (s : ByteArray) (w : World) (hs : s.size ≤ maxLen) : Calls Tryd.prog 58 #[.string s] w (EscPost s.data.toList w) := by
  by_cases h0 : s.data.toList = []
  · exact esc_none s w h0
  · have h1 : 1 ≤ s.size := by
      have : s.data.toList.length = s.size := rfl
      cases hl : s.data.toList with
      | nil => exact absurd hl h0
      | cons a l => rw [hl] at this; simp at this; omega
    by_cases hh : s[0].toNat = 120 ∧ 3 ≤ s.size
    · exact esc_hex s w hh.2 hs hh.1
    · exact esc_plain s w h1 hs hh
end Go.Proofs.YthbdnbeiafpkcaaDoor
