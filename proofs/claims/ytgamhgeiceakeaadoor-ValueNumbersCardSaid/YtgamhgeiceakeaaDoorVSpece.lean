/- Values as plain data: how they compare. No program stands here. -/
import Derived.Test.YtgamhgeiceakeaaDoorVSpecd
import Derived.Lib.Bytealg
set_option linter.unusedVariables false
set_option linter.unusedSimpArgs false
namespace Go.Proofs.YtgamhgeiceakeaaDoor
namespace Va
open By (Bs)
def cmpI (a b : Int) : Int := if a < b then -1 else if b < a then 1 else 0
def cmpS (a b : ByteArray) : Int := Lib.compareBytes a.data.toList b.data.toList
mutual
def cmpV : V → V → Nat → Int
  | .mk k n s l, u, lv => match u with
    | .mk k' n' s' l' =>
      if k ≠ k' ∨ lv = 0 then cmpI k k' else if k = 1 ∨ k = 2 ∨ k = 5 then cmpI n n' else if k = 3 then cmpS s s'
      else if k = 4 then (if l.length ≠ l'.length then cmpI l.length l'.length else cmpL l l' (lv - 1)) else 0
termination_by structural v => v
def cmpL : List V → List V → Nat → Int
  | [], _, _ => 0
  | v :: l, r, lv => match r with
    | [] => 0
    | u :: r => if cmpV v u lv ≠ 0 then cmpV v u lv else cmpL l r lv
termination_by structural l => l
end
/-- what three comparisons owe one another -/
def Tri (x y z : Int) : Prop := x ≤ 0 → y ≤ 0 → z ≤ 0 ∧ (z = 0 → x = 0 ∧ y = 0)
theorem tri_if (A B C x y z : Int) (h : Tri A B C) (k : Tri x y z) : Tri (if A ≠ 0 then A else x) (if B ≠ 0 then B else y) (if C ≠ 0 then C else z) := by
  unfold Tri at *
  repeat' split
  all_goals omega
theorem cmpI_anti (a b : Int) : cmpI b a = - cmpI a b := by
  unfold cmpI
  repeat' split
  all_goals omega
theorem cmpI_bd (a b : Int) : -1 ≤ cmpI a b ∧ cmpI a b ≤ 1 := by
  unfold cmpI
  repeat' split
  all_goals omega
theorem cmpI_tri (a b c : Int) : Tri (cmpI a b) (cmpI b c) (cmpI a c) := by
  unfold Tri cmpI
  repeat' split
  all_goals omega
theorem cmpI_zero (a b : Int) : cmpI a b = 0 ↔ a = b := by
  unfold cmpI
  repeat' split
  all_goals omega
theorem u8_lt (a b : UInt8) : a < b ↔ a.toNat < b.toNat := UInt8.lt_iff_toNat_lt
theorem u8_eq {a b : UInt8} (h1 : ¬ a < b) (h2 : ¬ b < a) : a = b := by
  rw [u8_lt] at h1 h2
  exact UInt8.toNat_inj.1 (by omega)
theorem cmpB_cons (x y : UInt8) (a b : List UInt8) : Lib.compareBytes (x :: a) (y :: b) = if x < y then -1 else if y < x then 1 else Lib.compareBytes a b := rfl
theorem cmpB_anti : ∀ (a b : List UInt8), Lib.compareBytes b a = - Lib.compareBytes a b
  | [], [] => rfl
  | [], _ :: _ => rfl
  | _ :: _, [] => rfl
  | x :: a, y :: b => by
    rw [cmpB_cons, cmpB_cons]
    by_cases h : x < y
    · have h2 : ¬ y < x := by rw [u8_lt] at h ⊢; omega
      simp only [if_pos h, if_neg h2]; rfl
    · by_cases h2 : y < x
      · simp only [if_neg h, if_pos h2]
      · simp only [if_neg h, if_neg h2]; exact cmpB_anti a b
theorem cmpB_bd : ∀ (a b : List UInt8), -1 ≤ Lib.compareBytes a b ∧ Lib.compareBytes a b ≤ 1
  | [], [] => by decide
  | [], _ :: _ => by unfold Lib.compareBytes; decide
  | _ :: _, [] => by unfold Lib.compareBytes; decide
  | x :: a, y :: b => by
    rw [cmpB_cons]
    have := cmpB_bd a b
    split <;> (try split) <;> omega
theorem cmpB_zero : ∀ (a b : List UInt8), Lib.compareBytes a b = 0 ↔ a = b
  | [], [] => by decide
  | [], _ :: _ => by unfold Lib.compareBytes; simp
  | _ :: _, [] => by unfold Lib.compareBytes; simp
  | x :: a, y :: b => by
    rw [cmpB_cons]
    have ih := cmpB_zero a b
    by_cases h : x < y
    · rw [if_pos h]
      refine ⟨fun h => by omega, fun e => ?_⟩
      cases e; rw [u8_lt] at h; omega
    · by_cases h2 : y < x
      · rw [if_neg h, if_pos h2]
        refine ⟨fun h => by omega, fun e => ?_⟩
        cases e; rw [u8_lt] at h2; omega
      · rw [if_neg h, if_neg h2, ih, u8_eq h h2]; simp
theorem cmpB_tri : ∀ (a b c : List UInt8), Tri (Lib.compareBytes a b) (Lib.compareBytes b c) (Lib.compareBytes a c)
  | [], [], [] => by unfold Tri Lib.compareBytes; omega
  | [], [], _ :: _ => by unfold Tri Lib.compareBytes; omega
  | [], _ :: _, [] => by unfold Tri Lib.compareBytes; omega
  | [], _ :: _, _ :: _ => by unfold Tri; rw [show ∀ (x : UInt8) (a : List UInt8), Lib.compareBytes [] (x :: a) = -1 from fun _ _ => rfl, show ∀ (x : UInt8) (a : List UInt8), Lib.compareBytes [] (x :: a) = -1 from fun _ _ => rfl]; omega
  | _ :: _, [], [] => by unfold Tri Lib.compareBytes; omega
  | _ :: _, [], _ :: _ => by unfold Tri; rw [show ∀ (x : UInt8) (a : List UInt8), Lib.compareBytes (x :: a) [] = 1 from fun _ _ => rfl]; omega
  | _ :: _, _ :: _, [] => by
    unfold Tri
    rw [show ∀ (x : UInt8) (a : List UInt8), Lib.compareBytes (x :: a) [] = 1 from fun _ _ => rfl, show ∀ (x : UInt8) (a : List UInt8), Lib.compareBytes (x :: a) [] = 1 from fun _ _ => rfl]; omega
  | x :: a, y :: b, z :: c => by
    have ih := cmpB_tri a b c
    unfold Tri at ih ⊢
    rw [cmpB_cons, cmpB_cons, cmpB_cons]
    by_cases h1 : x < y
    · rw [if_pos h1]
      by_cases h2 : y < z
      · have h3 : x < z := by rw [u8_lt] at *; omega
        rw [if_pos h2, if_pos h3]; omega
      · by_cases h2' : z < y
        · rw [if_neg h2, if_pos h2']; omega
        · obtain rfl := u8_eq h2 h2'
          simp only [if_pos h1]; omega
    · by_cases h1' : y < x
      · rw [if_neg h1, if_pos h1']; omega
      · obtain rfl := u8_eq h1 h1'
        simp only [if_neg h1]
        by_cases h2 : x < z
        · simp only [if_pos h2]; omega
        · by_cases h2' : z < x
          · simp only [if_neg h2, if_pos h2']; omega
          · simp only [if_neg h2, if_neg h2']; exact ih
def CmpP (v : V) : Prop := (∀ u lv, cmpV u v lv = - cmpV v u lv) ∧ (∀ u lv, -1 ≤ cmpV v u lv ∧ cmpV v u lv ≤ 1)
theorem cmpL_anti (l : List V) (h : ∀ v ∈ l, CmpP v) : ∀ (r : List V) (lv : Nat), l.length = r.length → cmpL r l lv = - cmpL l r lv := by
  induction l with
  | nil => intro r lv hl; cases r with | nil => rfl | cons _ _ => simp at hl
  | cons v l ih =>
    intro r lv hl
    match r, hl with
    | u :: r, hl =>
      have h1 := (h v (List.mem_cons_self ..)).1 u lv
      have h2 := ih (fun x hx => h x (List.mem_cons_of_mem _ hx)) r lv (by simpa using hl)
      show (if cmpV u v lv ≠ 0 then cmpV u v lv else cmpL r l lv) = - (if cmpV v u lv ≠ 0 then cmpV v u lv else cmpL l r lv)
      rw [h1, h2]
      by_cases h0 : cmpV v u lv = 0
      · rw [h0]; simp
      · rw [if_pos (by omega), if_pos h0]
theorem cmpL_bd (l : List V) (h : ∀ v ∈ l, CmpP v) : ∀ (r : List V) (lv : Nat), -1 ≤ cmpL l r lv ∧ cmpL l r lv ≤ 1 := by
  induction l with
  | nil => intro r lv; show -1 ≤ (0 : Int) ∧ (0 : Int) ≤ 1; omega
  | cons v l ih =>
    intro r lv
    cases r with
    | nil => show -1 ≤ (0 : Int) ∧ (0 : Int) ≤ 1; omega
    | cons u r =>
      have h1 := (h v (List.mem_cons_self ..)).2 u lv
      have h2 := ih (fun x hx => h x (List.mem_cons_of_mem _ hx)) r lv
      show -1 ≤ (if cmpV v u lv ≠ 0 then cmpV v u lv else cmpL l r lv) ∧ (if cmpV v u lv ≠ 0 then cmpV v u lv else cmpL l r lv) ≤ 1
      split <;> assumption
theorem cmpV_def (k : Nat) (n : Int) (s : ByteArray) (l : List V) (k' : Nat) (n' : Int) (s' : ByteArray) (l' : List V) (lv : Nat) : cmpV (.mk k n s l) (.mk k' n' s' l') lv =
    if k ≠ k' ∨ lv = 0 then cmpI k k' else if k = 1 ∨ k = 2 ∨ k = 5 then cmpI n n' else if k = 3 then cmpS s s'
      else if k = 4 then (if l.length ≠ l'.length then cmpI l.length l'.length else cmpL l l' (lv - 1)) else 0 := rfl
theorem cmp_P : ∀ v, CmpP v := V.ind fun k n s l ih => by
  constructor
  · rintro ⟨k', n', s', l'⟩ lv
    rw [cmpV_def, cmpV_def]
    by_cases h1 : k ≠ k' ∨ lv = 0
    · rw [if_pos h1, if_pos (h1.imp_left Ne.symm)]; exact cmpI_anti _ _
    rw [if_neg h1, if_neg (fun h => h1 (h.imp_left Ne.symm))]
    obtain rfl : k = k' := Classical.byContradiction fun h => h1 (Or.inl h)
    by_cases h2 : k = 1 ∨ k = 2 ∨ k = 5
    · rw [if_pos h2, if_pos h2]; exact cmpI_anti _ _
    rw [if_neg h2, if_neg h2]
    by_cases h3 : k = 3
    · rw [if_pos h3, if_pos h3]; exact cmpB_anti _ _
    rw [if_neg h3, if_neg h3]
    by_cases h4 : k = 4
    · rw [if_pos h4, if_pos h4]
      by_cases h5 : l.length = l'.length
      · rw [if_neg (by omega), if_neg (by omega)]; exact cmpL_anti l ih l' _ h5
      · rw [if_pos (by omega), if_pos h5]; exact cmpI_anti _ _
    · rw [if_neg h4, if_neg h4]; rfl
  · rintro ⟨k', n', s', l'⟩ lv
    rw [cmpV_def]
    have := cmpL_bd l ih l' (lv - 1)
    have := cmpB_bd s.data.toList s'.data.toList
    unfold cmpS
    split
    · exact cmpI_bd _ _
    · split
      · exact cmpI_bd _ _
      · split
        · assumption
        · split
          · split
            · exact cmpI_bd _ _
            · assumption
          · omega
theorem cmp_anti (a b : V) (lv : Nat) : cmpV b a lv = - cmpV a b lv := (cmp_P a).1 b lv
theorem cmp_bd (a b : V) (lv : Nat) : -1 ≤ cmpV a b lv ∧ cmpV a b lv ≤ 1 := (cmp_P a).2 b lv
theorem cmp_refl (a : V) (lv : Nat) : cmpV a a lv = 0 := by have := cmp_anti a a lv; omega
theorem cmpL_tri (l : List V) (h : ∀ v ∈ l, ∀ b c lv, Tri (cmpV v b lv) (cmpV b c lv) (cmpV v c lv)) : ∀ (r t : List V) (lv : Nat), l.length = r.length → r.length = t.length → Tri (cmpL l r lv) (cmpL r t lv) (cmpL l t lv) := by
  induction l with
  | nil => intro r t lv h1 h2; cases r with
    | nil => cases t with
      | nil => unfold Tri; show (0 : Int) ≤ 0 → (0 : Int) ≤ 0 → _; intro _ _; exact ⟨Int.le_refl _, fun _ => ⟨rfl, rfl⟩⟩
      | cons _ _ => simp at h2
    | cons _ _ => simp at h1
  | cons v l ih =>
    intro r t lv h1 h2
    match r, t, h1, h2 with
    | u :: r, x :: t, h1, h2 =>
      have h3 := h v (List.mem_cons_self ..) u x lv
      have h4 := ih (fun x hx => h x (List.mem_cons_of_mem _ hx)) r t lv (by simpa using h1) (by simpa using h2)
      exact tri_if _ _ _ _ _ _ h3 h4
theorem cmp_tri : ∀ (a b c : V) (lv : Nat), Tri (cmpV a b lv) (cmpV b c lv) (cmpV a c lv) := V.ind fun k n s l ih => by
  rintro ⟨k', n', s', l'⟩ ⟨k2, n2, s2, l2⟩ lv
  rw [cmpV_def, cmpV_def, cmpV_def]
  by_cases h0 : lv = 0
  · rw [if_pos (Or.inr h0), if_pos (Or.inr h0), if_pos (Or.inr h0)]; exact cmpI_tri _ _ _
  by_cases h1 : k = k'
  case neg =>
    rw [if_pos (show k ≠ k' ∨ lv = 0 from Or.inl h1)]
    have hz := cmpI_zero k k'
    by_cases h2 : k' = k2
    · subst h2
      rw [if_pos (show k ≠ k' ∨ lv = 0 from Or.inl h1)]
      unfold Tri; omega
    · rw [if_pos (show k' ≠ k2 ∨ lv = 0 from Or.inl h2)]
      by_cases h3 : k = k2
      · subst h3
        have := cmpI_tri k k' k
        have h4 := cmpI_anti k k'
        unfold Tri; omega
      · rw [if_pos (show k ≠ k2 ∨ lv = 0 from Or.inl h3)]; exact cmpI_tri _ _ _
  subst h1
  have hc : ¬ (k ≠ k ∨ lv = 0) := by simp [h0]
  by_cases h2 : k = k2
  case neg =>
    rw [if_neg hc, if_pos (show k ≠ k2 ∨ lv = 0 from Or.inl h2), if_pos (show k ≠ k2 ∨ lv = 0 from Or.inl h2)]
    have hz := cmpI_zero k k2
    unfold Tri; omega
  subst h2
  simp only [if_neg hc]
  by_cases g1 : k = 1 ∨ k = 2 ∨ k = 5
  · simp only [if_pos g1]; exact cmpI_tri _ _ _
  simp only [if_neg g1]
  by_cases g3 : k = 3
  · simp only [if_pos g3]; exact cmpB_tri _ _ _
  simp only [if_neg g3]
  by_cases g4 : k = 4
  case neg => simp only [if_neg g4]; unfold Tri; omega
  simp only [if_pos g4]
  have hz := cmpI_zero l.length l'.length
  have hz2 := cmpI_zero l'.length l2.length
  by_cases e1 : l.length = l'.length <;> by_cases e2 : l'.length = l2.length
  · have f1 : ¬ l.length ≠ l'.length := by omega
    have f2 : ¬ l'.length ≠ l2.length := by omega
    have f3 : ¬ l.length ≠ l2.length := by omega
    simp only [if_neg f1, if_neg f2, if_neg f3]; exact cmpL_tri l ih l' l2 _ e1 e2
  · have f1 : ¬ l.length ≠ l'.length := by omega
    have f3 : l.length ≠ l2.length := by omega
    simp only [if_neg f1, if_pos e2, if_pos f3]
    rw [e1]; unfold Tri; omega
  · have f2 : ¬ l'.length ≠ l2.length := by omega
    have f3 : l.length ≠ l2.length := by omega
    simp only [if_pos e1, if_neg f2, if_pos f3]
    rw [← e2]; unfold Tri; omega
  · by_cases e3 : l.length = l2.length
    · have h4 := cmpI_anti l.length l'.length
      have f3 : ¬ l.length ≠ l2.length := by omega
      simp only [if_pos e1, if_pos e2, if_neg f3]
      rw [← e3] at hz2 ⊢
      unfold Tri; omega
    · have h5 := cmpI_tri l.length l'.length l2.length
      simp only [if_pos e1, if_pos e2, if_pos e3]
      exact h5
/-- right ones compare as the same just if they are -/
theorem cmp_zero : ∀ (a b : V) (lv : Nat), okV a lv = true → okV b lv = true → (cmpV a b lv = 0 ↔ a = b) := V.ind fun k n s l ih => by
  rintro ⟨k', n', s', l'⟩ lv ha hb
  have hL : ∀ (l r : List V) (lv : Nat), (∀ v ∈ l, ∀ (b : V) (lv : Nat), okV v lv = true → okV b lv = true → (cmpV v b lv = 0 ↔ v = b)) → l.length = r.length → okL l lv = true → okL r lv = true → (cmpL l r lv = 0 ↔ l = r) := by
    intro l
    induction l with
    | nil => intro r lv _ h _ _; cases r with | nil => simp [cmpL] | cons _ _ => simp at h
    | cons v l ih2 =>
      intro r lv hP h h1 h2
      match r, h with
      | u :: r, h =>
        unfold okL at h1 h2
        rw [Bool.and_eq_true] at h1 h2
        have e1 := hP v (List.mem_cons_self ..) u lv h1.1 h2.1
        have e2 := ih2 r lv (fun x hx => hP x (List.mem_cons_of_mem _ hx)) (by simpa using h) h1.2 h2.2
        show (if cmpV v u lv ≠ 0 then cmpV v u lv else cmpL l r lv) = 0 ↔ _
        by_cases e0 : cmpV v u lv = 0
        · rw [if_neg (by omega), e2]
          have := e1.1 e0
          subst this; simp
        · rw [if_pos e0]
          refine ⟨fun h => absurd h e0, fun h => absurd (e1.2 (by cases h; rfl)) e0⟩
  refine ⟨fun h => ?_, fun h => by rw [h]; exact cmp_refl _ _⟩
  rw [cmpV_def] at h
  unfold okV at ha hb
  rw [Bool.and_eq_true, decide_eq_true_eq] at ha hb
  by_cases h1 : k = k'
  case neg =>
    rw [if_pos (Or.inl h1)] at h
    have := (cmpI_zero k k').1 h
    omega
  subst h1
  rw [if_neg (by omega)] at h
  have hnil : ∀ (l : List V), l.isEmpty = true → l = [] := fun l h => List.isEmpty_iff.1 h
  have hem : ∀ (s : ByteArray), (s.size == 0) = true → s = em := fun s h => em_of (by simpa using h)
  obtain ⟨_, ha⟩ := ha
  obtain ⟨_, hb⟩ := hb
  by_cases g1 : k = 1
  · subst g1
    simp only [if_true, Bool.and_eq_true] at ha hb h
    simp only [true_or, if_true] at h
    rw [(cmpI_zero n n').1 h, hem s ha.1, hem s' hb.1, hnil l ha.2, hnil l' hb.2]
  by_cases g2 : k = 2
  · subst g2
    simp only [Nat.reduceEqDiff, if_true, if_false, Bool.and_eq_true] at ha hb h
    simp only [false_or, true_or, if_true] at h
    rw [(cmpI_zero n n').1 h, hem s ha.1.1, hem s' hb.1.1, hnil l ha.1.2, hnil l' hb.1.2]
  by_cases g5 : k = 5
  · subst g5
    simp only [Nat.reduceEqDiff, if_true, if_false, Bool.and_eq_true] at ha hb h
    simp only [or_true, if_true] at h
    rw [(cmpI_zero n n').1 h, hem s ha.1.1, hem s' hb.1.1, hnil l ha.1.2, hnil l' hb.1.2]
  rw [if_neg g1, if_neg g2, if_neg g5] at ha hb
  rw [if_neg (by omega)] at h
  by_cases g3 : k = 3
  · subst g3
    simp only [if_true, Bool.and_eq_true, beq_iff_eq] at ha hb h
    rw [ha.1.1, hb.1.1, ba_ext ((cmpB_zero _ _).1 h), hnil l ha.1.2, hnil l' hb.1.2]
  rw [if_neg g3] at ha hb h
  by_cases g4 : k = 4
  · subst g4
    simp only [if_true, Bool.and_eq_true, beq_iff_eq] at ha hb h
    rw [ha.1.1, hb.1.1, em_of ha.1.2, em_of hb.1.2]
    by_cases e : l.length = l'.length
    · rw [if_neg (by omega)] at h
      rw [(hL l l' (lv - 1) ih e ha.2 hb.2).1 h]
    · rw [if_pos e] at h
      have := (cmpI_zero l.length l'.length).1 h
      omega
  · rw [if_neg g4] at ha
    exact absurd ha (by decide)
end Va
end Go.Proofs.YtgamhgeiceakeaaDoor
