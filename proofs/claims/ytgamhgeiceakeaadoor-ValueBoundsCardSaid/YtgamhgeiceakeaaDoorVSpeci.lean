/- Values as plain data: tuples, their parts. No program stands here. -/
import Derived.Test.YtgamhgeiceakeaaDoorVSpece
import Derived.Test.YtgamhgeiceakeaaDoorVSpecf
set_option linter.unusedVariables false
set_option linter.unusedSimpArgs false
namespace Go.Proofs.YtgamhgeiceakeaaDoor
namespace Va
open By (Bs)
theorem okV_mono : ∀ (v : V) (lv lv' : Nat), lv ≤ lv' → okV v lv = true → okV v lv' = true := V.ind fun k n s l ih => by
  intro lv lv' hle h
  unfold okV at h ⊢
  rw [Bool.and_eq_true, decide_eq_true_eq] at h
  obtain ⟨h0, h⟩ := h
  rw [decide_eq_true (show 0 < lv' by omega), Bool.true_and]
  by_cases g1 : k = 1
  · rw [if_pos g1] at h ⊢; exact h
  rw [if_neg g1] at h ⊢
  by_cases g2 : k = 2
  · rw [if_pos g2] at h ⊢; exact h
  rw [if_neg g2] at h ⊢
  by_cases g5 : k = 5
  · rw [if_pos g5] at h ⊢; exact h
  rw [if_neg g5] at h ⊢
  by_cases g3 : k = 3
  · rw [if_pos g3] at h ⊢; exact h
  rw [if_neg g3] at h ⊢
  by_cases g4 : k = 4
  · rw [if_pos g4] at h ⊢
    rw [Bool.and_eq_true] at h ⊢
    exact ⟨h.1, (okL_iff l _).2 fun v hv => ih v hv (lv - 1) (lv' - 1) (by omega) ((okL_iff l _).1 h.2 v hv)⟩
  · rw [if_neg g4] at h; cases h
theorem cmp_lv : ∀ (v u : V) (lv lv' : Nat), lv ≤ lv' → okV v lv = true → okV u lv = true → cmpV v u lv' = cmpV v u lv := V.ind fun k n s l ih => by
  rintro ⟨k', n', s', l'⟩ lv lv' hle h1 h2
  have hL : ∀ (l r : List V) (lv lv' : Nat), lv ≤ lv' → (∀ v ∈ l, ∀ (u : V) (lv lv' : Nat), lv ≤ lv' → okV v lv = true → okV u lv = true → cmpV v u lv' = cmpV v u lv) → okL l lv = true → okL r lv = true → cmpL l r lv' = cmpL l r lv := by
    intro l
    induction l with
    | nil => intro r lv lv' _ _ _ _; rfl
    | cons v l ih2 =>
      intro r lv lv' hle hP h1 h2
      cases r with
      | nil => rfl
      | cons u r =>
        unfold okL at h1 h2
        rw [Bool.and_eq_true] at h1 h2
        show (if cmpV v u lv' ≠ 0 then cmpV v u lv' else cmpL l r lv') = (if cmpV v u lv ≠ 0 then cmpV v u lv else cmpL l r lv)
        rw [hP v (List.mem_cons_self ..) u lv lv' hle h1.1 h2.1, ih2 r lv lv' hle (fun x hx => hP x (List.mem_cons_of_mem _ hx)) h1.2 h2.2]
  rw [cmpV_def, cmpV_def]
  unfold okV at h1 h2
  rw [Bool.and_eq_true, decide_eq_true_eq] at h1 h2
  by_cases hk : k = k'
  case neg => rw [if_pos (Or.inl hk), if_pos (Or.inl hk)]
  subst hk
  have hlv := h1.1
  have c1 : ¬ (k ≠ k ∨ lv' = 0) := by omega
  have c2 : ¬ (k ≠ k ∨ lv = 0) := by omega
  simp only [if_neg c1, if_neg c2]
  by_cases g1 : k = 1 ∨ k = 2 ∨ k = 5
  · simp only [if_pos g1]
  simp only [if_neg g1]
  by_cases g3 : k = 3
  · simp only [if_pos g3]
  simp only [if_neg g3]
  by_cases g4 : k = 4
  · subst g4
    simp only [Nat.reduceEqDiff, if_false, if_true, Bool.and_eq_true] at h1 h2 ⊢
    by_cases e : l.length = l'.length
    · rw [if_neg (by omega), if_neg (by omega)]
      exact hL l l' (lv - 1) (lv' - 1) (by omega) ih h1.2.2 h2.2.2
    · rw [if_pos e, if_pos e]
  · simp only [if_neg g4]
theorem okL_drop (l : List V) (lv i : Nat) (h : okL l lv = true) : okL (l.drop i) lv = true := (okL_iff _ lv).2 fun v hv => (okL_iff l lv).1 h v (List.mem_of_mem_drop hv)
/-- a tuple's part is right -/
theorem part_right (l : List V) (h : right (.mk 4 0 em l) = true) (i : Nat) (hi : i < l.length) : right l[i] = true ∧ okV l[i] 15 = true := by
  unfold right at h ⊢
  rw [Bool.and_eq_true, decide_eq_true_eq] at h ⊢
  obtain ⟨h1, h2⟩ := h
  unfold okV at h1
  simp only [Nat.reduceEqDiff, if_false, if_true, Bool.and_eq_true] at h1
  have h3 := (okL_iff l 15).1 h1.2.2 _ (List.getElem_mem hi)
  refine ⟨⟨okV_mono _ 15 16 (by omega) h3, ?_⟩, h3⟩
  unfold cnt at h2
  have h4 : l = l.take i ++ l[i] :: l.drop (i + 1) := by rw [← List.drop_eq_getElem_cons hi, List.take_append_drop]
  have h5 := congrArg cntL h4
  rw [cntL_app] at h5
  have h6 : cntL (l[i] :: l.drop (i + 1)) = cnt l[i] + cntL (l.drop (i + 1)) := rfl
  omega
theorem encL_at (l : List V) (i : Nat) (h : i < l.length) : encL (l.take (i + 1)) = encL (l.take i) ++ enc l[i] := by
  rw [List.take_succ_eq_append_getElem h, encL_app]; congr 1; exact List.append_nil _
/-- the text of the first parts, joined -/
def pre (l : List V) (i : Nat) : Bs := 40 :: Lib.join (txtL (l.take i)) [44, 32]
theorem join_snoc (ps : List Bs) (q : Bs) (h : ps ≠ []) : Lib.join (ps ++ [q]) [44, 32] = Lib.join ps [44, 32] ++ [44, 32] ++ q := by
  cases ps with
  | nil => exact absurd rfl h
  | cons p ps =>
    rw [List.cons_append, Lib.join_cons, Lib.join_cons]
    unfold Lib.joinTail
    simp
theorem pre_zero (l : List V) : pre l 0 = [40] := rfl
theorem pre_at (l : List V) (i : Nat) (h : i < l.length) : pre l (i + 1) = if i = 0 then pre l i ++ txt l[i] else pre l i ++ [44, 32] ++ txt l[i] := by
  unfold pre
  rw [List.take_succ_eq_append_getElem h, txtL_map, txtL_map, List.map_append]
  by_cases h0 : i = 0
  · subst h0; rw [if_pos rfl]; simp [Lib.join_one, Lib.join_nil]
  · rw [if_neg h0]
    have hne : (l.take i).map txt ≠ [] := by
      intro e
      have := congrArg List.length e
      rw [List.length_map, List.length_take, List.length_nil] at this; omega
    rw [show [l[i]].map txt = [txt l[i]] from rfl, join_snoc _ _ hne]
    simp
theorem txt_tuple (l : List V) : txt (.mk 4 0 em l) = (if l.length = 1 then pre l l.length ++ [44] else pre l l.length) ++ [41] := by
  show tup (txtL l) = _
  unfold pre
  rw [List.take_length]
  unfold tup
  have hl : (txtL l).length = l.length := by rw [txtL_map, List.length_map]
  rw [hl]
  by_cases h1 : l.length = 1
  · rw [if_pos h1, if_pos h1]
    obtain ⟨p, rfl⟩ := List.length_eq_one_iff.1 h1
    show 40 :: (([txt p] : List Bs).flatten ++ [44, 41]) = (40 :: Lib.join [txt p] [44, 32]) ++ [44] ++ [41]
    rw [Lib.join_one]; simp
  · rw [if_neg h1, if_neg h1]; rfl
theorem enc_tuple (l : List V) (h : l.length ≤ 10) : enc (.mk 4 0 em l) = [4, UInt8.ofNat l.length] ++ encL l := by
  have : enc (.mk 4 0 em l) = UInt8.ofNat 4 :: (By.uv l.length ++ encL l) := by unfold enc; rfl
  rw [this, By.uv_small _ (by omega)]; rfl
/-- how many bytes the text of parts has -/
theorem pre_len (l : List V) (h : right (.mk 4 0 em l) = true) (hw : wf (.mk 4 0 em l)) (i : Nat) : (pre l i).length ≤ 8388608 := by
  unfold right at h
  rw [Bool.and_eq_true, decide_eq_true_eq] at h
  obtain ⟨h1, h2⟩ := h
  unfold okV at h1
  simp only [Nat.reduceEqDiff, if_false, if_true, Bool.and_eq_true] at h1
  have hok := (okL_iff l 15).1 h1.2.2
  unfold wf at hw
  have hwl := (wfL_iff l).1 hw.2.2
  have htot : ∀ m : List V, (∀ v ∈ m, okV v 15 = true) → (∀ v ∈ m, wf v) → (txtL m).flatten.length + 4 * m.length ≤ cntL m * 16384 := by
    intro m
    induction m with
    | nil => intro _ _; simp [txtL]
    | cons v m ih2 =>
      intro h hw
      have h1 := txt_len v 15 (h v (List.mem_cons_self ..)) (hw v (List.mem_cons_self ..))
      have h2 := ih2 (fun x hx => h x (List.mem_cons_of_mem _ hx)) (fun x hx => hw x (List.mem_cons_of_mem _ hx))
      rw [show txtL (v :: m) = txt v :: txtL m from rfl, show cntL (v :: m) = cnt v + cntL m from rfl, List.flatten_cons, List.length_append, Nat.add_mul, List.length_cons]
      omega
  have h3 := htot (l.take i) (fun v hv => hok v (List.mem_of_mem_take hv)) (fun v hv => hwl v (List.mem_of_mem_take hv))
  have h4 := join_le (txtL (l.take i))
  have h5 : (txtL (l.take i)).length = (l.take i).length := by rw [txtL_map, List.length_map]
  have h6 : cntL (l.take i) ≤ cntL l := by
    have := congrArg cntL (List.take_append_drop i l)
    rw [cntL_app] at this; omega
  unfold cnt at h2
  unfold pre
  rw [List.length_cons]
  omega
end Va
end Go.Proofs.YtgamhgeiceakeaaDoor
