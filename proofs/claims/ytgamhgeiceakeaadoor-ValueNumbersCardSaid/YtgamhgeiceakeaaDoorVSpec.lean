/- Values as plain data: right ones, their bytes, what stands at a place of bytes. No program stands here. -/
import Derived.Test.YtgamhgeiceakeaaDoorBSpec
set_option linter.unusedVariables false
set_option linter.unusedSimpArgs false
namespace Go.Proofs.YtgamhgeiceakeaaDoor
namespace Va
open By (Bs)
inductive V where
  | mk (k : Nat) (n : Int) (s : ByteArray) (l : List V)
theorem V.ind {P : V → Prop} (h : ∀ k n s l, (∀ v ∈ l, P v) → P (.mk k n s l)) : ∀ v, P v := fun v =>
  V.rec (motive_1 := P) (motive_2 := fun l => ∀ v ∈ l, P v) (fun k n s l ih => h k n s l ih) (fun v hv => by cases hv) (fun v l hv hl u hu => by
    rcases List.mem_cons.1 hu with rfl | hu
    · exact hv
    · exact hl u hu) v
def em : ByteArray := ByteArray.empty
theorem em_of {s : ByteArray} (h : s.size = 0) : s = em := by
  obtain ⟨⟨l⟩⟩ := s
  have : l = [] := List.eq_nil_of_length_eq_zero h
  subst this; rfl
/-- a signed number as an unsigned one, and back -/
def zg (n : Int) : Nat := if 0 ≤ n then (2 * n).toNat else (-2 * n - 1).toNat
def ung (m : Nat) : Int := if m % 2 = 0 then ((m / 2 : Nat) : Int) else -((m / 2 : Nat) : Int) - 1
theorem ung_zg (n : Int) : ung (zg n) = n := by
  unfold ung zg
  by_cases h : 0 ≤ n
  · simp only [if_pos h]; rw [if_pos (by omega)]; omega
  · simp only [if_neg h]; rw [if_neg (by omega)]; omega
theorem zg_ung (m : Nat) : zg (ung m) = m := by
  unfold ung zg
  by_cases h : m % 2 = 0
  · simp only [if_pos h]; rw [if_pos (by omega)]; omega
  · simp only [if_neg h]; rw [if_neg (by omega)]; omega
def I64 (n : Int) : Prop := -9223372036854775808 ≤ n ∧ n ≤ 9223372036854775807
theorem zg_lt {n : Int} (h : I64 n) : zg n < 18446744073709551616 := by
  obtain ⟨h1, h2⟩ := h
  unfold zg; split <;> omega
theorem ung_64 {m : Nat} (h : m < 18446744073709551616) : I64 (ung m) := by
  unfold ung I64; split <;> omega
mutual
/-- a right value's bytes -/
def enc : V → Bs
  | .mk k n s l => UInt8.ofNat k :: (if k = 2 then [UInt8.ofNat n.toNat] else if k = 3 then By.blob s.data.toList else if k = 4 then By.uv l.length ++ encL l else By.uv (zg n))
termination_by structural v => v
def encL : List V → Bs
  | [] => []
  | v :: l => enc v ++ encL l
termination_by structural l => l
end
mutual
/-- right but for how many there are -/
def okV : V → Nat → Bool
  | .mk k n s l, lv => decide (0 < lv) && (
    if k = 1 then s.size == 0 && l.isEmpty
    else if k = 2 then s.size == 0 && l.isEmpty && (n == 0 || n == 1)
    else if k = 5 then s.size == 0 && l.isEmpty && decide (0 ≤ n)
    else if k = 3 then n == 0 && l.isEmpty && decide (s.size ≤ 4096)
    else if k = 4 then n == 0 && s.size == 0 && okL l (lv - 1)
    else false)
termination_by structural v => v
def okL : List V → Nat → Bool
  | [], _ => true
  | v :: l, lv => okV v lv && okL l lv
termination_by structural l => l
end
mutual
def cnt : V → Nat
  | .mk _ _ _ l => 1 + cntL l
termination_by structural v => v
def cntL : List V → Nat
  | [] => 0
  | v :: l => cnt v + cntL l
termination_by structural l => l
end
def right (v : V) : Bool := okV v 16 && decide (cnt v ≤ 256)
mutual
/-- the program's own way: is it right, and how many may still come -/
def rgt : V → Nat → Int → Bool × Int
  | .mk k n s l, lv, left =>
    if k = 1 then (decide (0 ≤ left - 1) && decide (0 < lv) && (s.size == 0 && l.isEmpty), left - 1)
    else if k = 2 then (decide (0 ≤ left - 1) && decide (0 < lv) && (s.size == 0 && l.isEmpty) && (n == 0 || n == 1), left - 1)
    else if k = 5 then (decide (0 ≤ left - 1) && decide (0 < lv) && (s.size == 0 && l.isEmpty) && decide (0 ≤ n), left - 1)
    else if k = 3 then (decide (0 ≤ left - 1) && decide (0 < lv) && (n == 0) && l.isEmpty && decide (s.size ≤ 4096), left - 1)
    else if k = 4 then rgtL l (lv - 1) (decide (0 ≤ left - 1) && decide (0 < lv) && (n == 0) && (s.size == 0)) (left - 1)
    else (false, left - 1)
termination_by structural v => v
def rgtL : List V → Nat → Bool → Int → Bool × Int
  | [], _, ok, left => (ok, left)
  | v :: l, lv, ok, left => rgtL l lv (ok && (rgt v lv left).1) (if ok then (rgt v lv left).2 else left)
termination_by structural l => l
end
theorem rgtL_false : ∀ (l : List V) (lv : Nat) (left : Int), rgtL l lv false left = (false, left)
  | [], _, _ => rfl
  | v :: l, lv, left => by unfold rgtL; simp only [Bool.false_and, Bool.false_eq_true, if_false]; exact rgtL_false l lv left
def RgP (v : V) : Prop := ∀ (lv : Nat) (left : Int), 0 ≤ left → (okV v lv = true ∧ (cnt v : Int) ≤ left → rgt v lv left = (true, left - cnt v)) ∧ (¬ (okV v lv = true ∧ (cnt v : Int) ≤ left) → (rgt v lv left).1 = false ∧ -1 ≤ (rgt v lv left).2 ∧ (rgt v lv left).2 ≤ left)
theorem cnt_pos (v : V) : 1 ≤ cnt v := by cases v; unfold cnt; omega
theorem rgtL_ok : ∀ (l : List V), (∀ v ∈ l, RgP v) → ∀ (lv : Nat) (left : Int), 0 ≤ left → (okL l lv = true ∧ (cntL l : Int) ≤ left → rgtL l lv true left = (true, left - cntL l)) ∧ (¬ (okL l lv = true ∧ (cntL l : Int) ≤ left) → (rgtL l lv true left).1 = false ∧ -1 ≤ (rgtL l lv true left).2 ∧ (rgtL l lv true left).2 ≤ left)
  | [], _, lv, left, h0 => by
    unfold okL cntL rgtL
    exact ⟨fun _ => by simp, fun h => absurd ⟨rfl, by simpa using h0⟩ h⟩
  | v :: l, hP, lv, left, h0 => by
    have hv := hP v (List.mem_cons_self ..) lv left h0
    have ih := rgtL_ok l (fun u hu => hP u (List.mem_cons_of_mem _ hu)) lv
    unfold okL cntL rgtL
    by_cases h : okV v lv = true ∧ (cnt v : Int) ≤ left
    · rw [hv.1 h]
      simp only [Bool.true_and, if_true]
      have ih2 := ih (left - cnt v) (by omega)
      constructor
      · rintro ⟨h1, h2⟩
        rw [Bool.and_eq_true] at h1
        rw [ih2.1 ⟨h1.2, by push_cast at h2; omega⟩]
        congr 1; push_cast; omega
      · intro hn
        have := ih2.2 (fun ⟨h1, h2⟩ => hn ⟨by rw [h.1, h1]; rfl, by push_cast; omega⟩)
        refine ⟨this.1, this.2.1, ?_⟩
        have := this.2.2; have := cnt_pos v; omega
    · obtain ⟨h1, h2, h3⟩ := hv.2 h
      simp only [h1, Bool.and_false, if_true]
      rw [rgtL_false]
      refine ⟨fun ⟨a, b⟩ => ?_, fun _ => ⟨rfl, h2, h3⟩⟩
      exfalso
      rw [Bool.and_eq_true] at a
      push_cast at b
      exact h ⟨a.1, by omega⟩
theorem rgt_ok : ∀ v, RgP v := V.ind fun k n s l ih => by
  intro lv left h0
  have hL := rgtL_ok l ih (lv - 1) (left - 1)
  unfold okV cnt rgt
  have hc : l.isEmpty = true → cntL l = 0 := fun h => by
    have : l = [] := List.isEmpty_iff.1 h
    subst this; rfl
  by_cases h1 : k = 1
  · simp only [if_pos h1]
    refine ⟨fun ⟨a, b⟩ => ?_, fun hn => ⟨?_, by omega, by omega⟩⟩
    · simp only [Bool.and_eq_true, decide_eq_true_eq] at a
      rw [hc a.2.2] at b ⊢
      simp only [a.2.1, a.2.2, Bool.and_true, a.1, decide_true]
      push_cast at b
      rw [decide_eq_true (by omega)]; rfl
    · cases hx : (decide (0 ≤ left - 1) && decide (0 < lv) && (s.size == 0 && l.isEmpty)) with
      | false => rfl
      | true =>
        exfalso
        simp only [Bool.and_eq_true, decide_eq_true_eq] at hx
        exact hn ⟨by simp only [Bool.and_eq_true, decide_eq_true_eq]; exact ⟨hx.1.2, hx.2⟩, by rw [hc hx.2.2]; push_cast; omega⟩
  simp only [if_neg h1]
  by_cases h2 : k = 2
  · simp only [if_pos h2]
    refine ⟨fun ⟨a, b⟩ => ?_, fun hn => ⟨?_, by omega, by omega⟩⟩
    · simp only [Bool.and_eq_true, decide_eq_true_eq] at a
      rw [hc a.2.1.2] at b ⊢
      simp only [a.2.1.1, a.2.1.2, a.2.2, Bool.and_true, a.1, decide_true]
      push_cast at b
      rw [decide_eq_true (by omega)]; rfl
    · cases hx : (decide (0 ≤ left - 1) && decide (0 < lv) && (s.size == 0 && l.isEmpty) && (n == 0 || n == 1)) with
      | false => rfl
      | true =>
        exfalso
        simp only [Bool.and_eq_true, decide_eq_true_eq] at hx
        exact hn ⟨by simp only [Bool.and_eq_true, decide_eq_true_eq]; exact ⟨hx.1.1.2, hx.1.2, hx.2⟩, by rw [hc hx.1.2.2]; push_cast; omega⟩
  simp only [if_neg h2]
  by_cases h5 : k = 5
  · simp only [if_pos h5]
    refine ⟨fun ⟨a, b⟩ => ?_, fun hn => ⟨?_, by omega, by omega⟩⟩
    · simp only [Bool.and_eq_true, decide_eq_true_eq] at a
      rw [hc a.2.1.2] at b ⊢
      simp only [a.2.1.1, a.2.1.2, a.2.2, Bool.and_true, a.1, decide_true]
      push_cast at b
      rw [decide_eq_true (by omega)]; rfl
    · cases hx : (decide (0 ≤ left - 1) && decide (0 < lv) && (s.size == 0 && l.isEmpty) && decide (0 ≤ n)) with
      | false => rfl
      | true =>
        exfalso
        simp only [Bool.and_eq_true, decide_eq_true_eq] at hx
        exact hn ⟨by simp only [Bool.and_eq_true, decide_eq_true_eq]; exact ⟨hx.1.1.2, hx.1.2, hx.2⟩, by rw [hc hx.1.2.2]; push_cast; omega⟩
  simp only [if_neg h5]
  by_cases h3 : k = 3
  · simp only [if_pos h3]
    refine ⟨fun ⟨a, b⟩ => ?_, fun hn => ⟨?_, by omega, by omega⟩⟩
    · simp only [Bool.and_eq_true, decide_eq_true_eq] at a
      rw [hc a.2.1.2] at b ⊢
      simp only [a.2.1.1, a.2.1.2, a.2.2, Bool.and_true, a.1, decide_true]
      push_cast at b
      rw [decide_eq_true (by omega)]; rfl
    · cases hx : (decide (0 ≤ left - 1) && decide (0 < lv) && (n == 0) && l.isEmpty && decide (s.size ≤ 4096)) with
      | false => rfl
      | true =>
        exfalso
        simp only [Bool.and_eq_true, decide_eq_true_eq] at hx
        exact hn ⟨by simp only [Bool.and_eq_true, decide_eq_true_eq]; exact ⟨hx.1.1.1.2, ⟨hx.1.1.2, hx.1.2⟩, hx.2⟩, by rw [hc hx.1.2]; push_cast; omega⟩
  simp only [if_neg h3]
  by_cases h4 : k = 4
  · simp only [if_pos h4]
    by_cases hg : decide (0 ≤ left - 1) && decide (0 < lv) && (n == 0) && (s.size == 0)
    · rw [hg]
      simp only [Bool.and_eq_true, decide_eq_true_eq] at hg
      have hL2 := hL hg.1.1.1
      refine ⟨fun ⟨a, b⟩ => ?_, fun hn => ?_⟩
      · simp only [Bool.and_eq_true, decide_eq_true_eq] at a
        rw [hL2.1 ⟨a.2.2, by push_cast at b; omega⟩]
        congr 1; push_cast; omega
      · obtain ⟨q1, q2, q3⟩ := hL2.2 (fun ⟨a, b⟩ => hn ⟨by simp only [Bool.and_eq_true, decide_eq_true_eq]; exact ⟨hg.1.1.2, ⟨hg.1.2, hg.2⟩, a⟩, by push_cast; omega⟩)
        exact ⟨q1, q2, by omega⟩
    · have hg' : (decide (0 ≤ left - 1) && decide (0 < lv) && (n == 0) && (s.size == 0)) = false := by simpa using hg
      rw [hg', rgtL_false]
      refine ⟨fun ⟨a, b⟩ => ?_, fun _ => ⟨rfl, by omega, by omega⟩⟩
      exfalso
      simp only [Bool.and_eq_true, decide_eq_true_eq] at a
      push_cast at b
      rw [decide_eq_true a.1, a.2.1.1, a.2.1.2, decide_eq_true (show 0 ≤ left - 1 by omega)] at hg'
      cases hg'
  · simp only [if_neg h4]
    refine ⟨fun ⟨a, _⟩ => ?_, fun _ => ⟨trivial, by omega, by omega⟩⟩
    exfalso
    simp at a
/-- the program's way tells what is right -/
theorem rgt_right (v : V) : (rgt v 16 256).1 = right v := by
  have h := rgt_ok v 16 256 (by omega)
  unfold right
  by_cases hr : okV v 16 = true ∧ (cnt v : Int) ≤ 256
  · rw [h.1 hr, hr.1, decide_eq_true (by have := hr.2; omega)]; rfl
  · rw [(h.2 hr).1]
    cases h1 : okV v 16 with
    | false => rfl
    | true => rw [decide_eq_false (fun h2 => hr ⟨h1, by omega⟩)]; rfl
end Va
end Go.Proofs.YtgamhgeiceakeaaDoor
