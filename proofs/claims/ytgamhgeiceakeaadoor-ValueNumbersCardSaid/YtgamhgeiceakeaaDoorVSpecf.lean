/- Values as plain data: their text. No program stands here. -/
import Derived.Test.YtgamhgeiceakeaaDoorVSpecd
import Derived.Lib.Join
import Derived.Lib.ItoaNum
set_option linter.unusedVariables false
set_option linter.unusedSimpArgs false
namespace Go.Proofs.YtgamhgeiceakeaaDoor
namespace Va
open By (Bs)
def hexd (n : Nat) : UInt8 := if n < 10 then UInt8.ofNat (48 + n) else UInt8.ofNat (87 + n)
def isPl (c : UInt8) : Prop := 32 ≤ c.toNat ∧ c.toNat ≤ 126 ∧ c.toNat ≠ 34 ∧ c.toNat ≠ 92
instance (c : UInt8) : Decidable (isPl c) := by unfold isPl; infer_instance
def qt1 (c : UInt8) : Bs := if isPl c then [c] else [92, hexd (c.toNat / 16), hexd (c.toNat % 16)]
def qtB (l : Bs) : Bs := l.flatMap qt1
def qt (l : Bs) : Bs := 34 :: (qtB l ++ [34])
theorem qtB_at (l : Bs) (k : Nat) (h : k < l.length) : qtB (l.take (k + 1)) = qtB (l.take k) ++ qt1 l[k] := by
  unfold qtB; rw [List.take_succ_eq_append_getElem h, List.flatMap_append]; simp
theorem qt1_le (c : UInt8) : (qt1 c).length ≤ 3 := by unfold qt1; split <;> simp
theorem qtB_le (l : Bs) : (qtB l).length ≤ 3 * l.length := by
  induction l with
  | nil => exact Nat.le_refl _
  | cons c l ih =>
    have : qtB (c :: l) = qt1 c ++ qtB l := rfl
    rw [this, List.length_append, List.length_cons]
    have := qt1_le c
    omega
def bt (b : Bool) : Bs := if b then [116, 114, 117, 101] else [102, 97, 108, 115, 101]
def tup (ps : List Bs) : Bs := if ps.length = 1 then 40 :: (ps.flatten ++ [44, 41]) else 40 :: (Lib.join ps [44, 32] ++ [41])
mutual
def txt : V → Bs
  | .mk k n s l => if k = 2 then bt (n == 1) else if k = 3 then qt s.data.toList else if k = 5 then 64 :: Lib.itoa n else if k = 4 then tup (txtL l) else Lib.itoa n
termination_by structural v => v
def txtL : List V → List Bs
  | [] => []
  | v :: l => txt v :: txtL l
termination_by structural l => l
end
theorem txtL_map (l : List V) : txtL l = l.map txt := by
  induction l with
  | nil => rfl
  | cons v l ih => show txt v :: txtL l = _; rw [ih]; rfl
theorem dec_len : ∀ (k u : Nat), u < 10 ^ (k + 1) → (Lib.decDigits u).length ≤ k + 1
  | 0, u, h => by unfold Lib.decDigits; rw [dif_pos (by simpa using h)]; simp
  | k + 1, u, h => by
    unfold Lib.decDigits
    by_cases h2 : u < 10
    · rw [dif_pos h2]; simp
    · rw [dif_neg h2, List.length_append, List.length_singleton]
      have h3 : u / 10 < 10 ^ (k + 1) := by
        rw [Nat.pow_succ] at h; omega
      have := dec_len k (u / 10) h3
      omega
theorem dec_le (u : Nat) (h : u < 2 ^ 64) : (Lib.decDigits u).length ≤ 64 := by
  have := dec_len 19 u (by omega)
  omega
theorem itoa_le (n : Int) (h : I64 n) : (Lib.itoa n).length ≤ 65 := by
  obtain ⟨h1, h2⟩ := h
  unfold Lib.itoa
  split
  · have := dec_le n.natAbs (by omega); rw [List.length_cons]; omega
  · have := dec_le n.toNat (by omega); omega
theorem join_le (ps : List Bs) : (Lib.join ps [44, 32]).length ≤ ps.flatten.length + 2 * ps.length := by
  cases ps with
  | nil => simp [Lib.join_nil]
  | cons p ps =>
    rw [Lib.join_cons]
    have : ∀ ps : List Bs, (Lib.joinTail [44, 32] ps).length = ps.flatten.length + 2 * ps.length := by
      intro ps
      induction ps with
      | nil => rfl
      | cons q ps ih =>
        unfold Lib.joinTail at ih ⊢
        simp only [List.map_cons, List.flatten_cons, List.length_append, List.length_cons, List.length_nil] at ih ⊢
        omega
    rw [List.length_append, this, List.flatten_cons, List.length_append, List.length_cons]; omega
/-- how long a right value's text is at most -/
theorem txt_len : ∀ v : V, ∀ lv, okV v lv = true → wf v → (txt v).length + 4 ≤ cnt v * 16384 := V.ind fun k n s l ih => by
  intro lv hok hwf
  have hL : ∀ l : List V, (∀ v ∈ l, ∀ lv, okV v lv = true → wf v → (txt v).length + 4 ≤ cnt v * 16384) → ∀ lv, okL l lv = true → wfL l → (txtL l).flatten.length + 4 * l.length ≤ cntL l * 16384 := by
    intro l
    induction l with
    | nil => intro _ _ _ _; simp [txtL]
    | cons v l ih2 =>
      intro hP lv h hw
      unfold okL at h
      unfold wfL at hw
      rw [Bool.and_eq_true] at h
      have h1 := hP v (List.mem_cons_self ..) lv h.1 hw.1
      have h2 := ih2 (fun u hu => hP u (List.mem_cons_of_mem _ hu)) lv h.2 hw.2
      rw [show txtL (v :: l) = txt v :: txtL l from rfl, show cntL (v :: l) = cnt v + cntL l from rfl, List.flatten_cons, List.length_append, Nat.add_mul, List.length_cons]
      omega
  have hLl := hL l ih (lv - 1)
  unfold wf at hwf
  obtain ⟨_, hn, hwl⟩ := hwf
  have hi := itoa_le n hn
  unfold okV at hok
  unfold txt cnt
  rw [Nat.add_mul]
  by_cases h2 : k = 2
  · rw [if_pos h2]; unfold bt; split <;> simp <;> omega
  rw [if_neg h2]
  by_cases h3 : k = 3
  · subst h3
    rw [if_pos rfl]
    simp only [Nat.reduceEqDiff, if_false, if_true, Bool.and_eq_true, beq_iff_eq, decide_eq_true_eq] at hok
    have hs4 : s.data.toList.length ≤ 4096 := by rw [Array.length_toList]; exact hok.2.2
    have := qtB_le s.data.toList
    unfold qt
    rw [List.length_cons, List.length_append]
    simp only [List.length_cons, List.length_nil]; omega
  rw [if_neg h3]
  by_cases h5 : k = 5
  · rw [if_pos h5, List.length_cons]; omega
  rw [if_neg h5]
  by_cases h4 : k = 4
  · subst h4
    rw [if_pos rfl]
    simp only [Nat.reduceEqDiff, if_false, if_true, Bool.and_eq_true, beq_iff_eq, decide_eq_true_eq] at hok
    have h1 := hLl hok.2.2 hwl
    have h2 := join_le (txtL l)
    have h6 : (txtL l).length = l.length := by rw [txtL_map]; simp
    unfold tup
    by_cases hl1 : (txtL l).length = 1
    · rw [if_pos hl1, List.length_cons, List.length_append]; simp only [List.length_cons, List.length_nil]; omega
    · rw [if_neg hl1, List.length_cons, List.length_append]; simp only [List.length_cons, List.length_nil]
      omega
  · rw [if_neg h4]; omega
end Va
end Go.Proofs.YtgamhgeiceakeaaDoor
