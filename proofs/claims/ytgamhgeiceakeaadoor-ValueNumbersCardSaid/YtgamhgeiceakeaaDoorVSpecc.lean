/- What was put is told: a right value's bytes say it, whatever stands ahead and behind. No program stands here. -/
import Derived.Test.YtgamhgeiceakeaaDoorVSpecb
set_option linter.unusedVariables false
set_option linter.unusedSimpArgs false
namespace Go.Proofs.YtgamhgeiceakeaaDoor
namespace Va
open By (Bs)
mutual
/-- its numbers are ones of 64 bits -/
def wf : V → Prop
  | .mk k n s l => k < 256 ∧ I64 n ∧ wfL l
termination_by structural v => v
def wfL : List V → Prop
  | [] => True
  | v :: l => wf v ∧ wfL l
termination_by structural l => l
end
theorem wfL_iff (l : List V) : wfL l ↔ ∀ v ∈ l, wf v := by
  induction l with
  | nil => unfold wfL; simp
  | cons v l ih => unfold wfL; rw [ih]; simp
theorem cntL_len (l : List V) : l.length ≤ cntL l := by
  induction l with
  | nil => unfold cntL; simp
  | cons v l ih => unfold cntL; have := cnt_pos v; simp; omega
def EncP (v : V) : Prop := ∀ (lv left : Nat) (b : Bs) (at' : Nat) (post : Bs), okV v lv = true → wf v → cnt v ≤ left → left ≤ 256 → b.drop at' = enc v ++ post → gv b lv at' left = .ok (v, at' + (enc v).length, left - cnt v)
theorem gvN_enc (b : Bs) (lv : Nat) : ∀ (l : List V), (∀ v ∈ l, EncP v) → ∀ (at' left : Nat) (acc : List V) (post : Bs), okL l lv = true → wfL l → cntL l ≤ left → left ≤ 256 → b.drop at' = encL l ++ post →
    gvN (gv b lv) l.length at' left acc = .ok (acc ++ l, at' + (encL l).length, left - cntL l)
  | [], _, at', left, acc, post, _, _, _, _, _ => by simp [gvN, encL, cntL]
  | v :: l, hP, at', left, acc, post, ho, hw, hc, hl, hb => by
    unfold okL at ho
    unfold wfL at hw
    unfold cntL at hc
    rw [Bool.and_eq_true] at ho
    unfold encL at hb
    rw [List.append_assoc] at hb
    have h1 := hP v (List.mem_cons_self ..) lv left b at' (encL l ++ post) ho.1 hw.1 (by omega) hl hb
    have hb2 : b.drop (at' + (enc v).length) = encL l ++ post := by rw [← List.drop_drop, hb, List.drop_left]
    have h2 := gvN_enc b lv l (fun u hu => hP u (List.mem_cons_of_mem _ hu)) (at' + (enc v).length) (left - cnt v) (acc ++ [v]) post ho.2 hw.2 (by omega) (by omega) hb2
    rw [List.length_cons]
    unfold gvN
    rw [h1]
    simp only
    rw [h2]
    rw [show encL (v :: l) = enc v ++ encL l from rfl, show cntL (v :: l) = cnt v + cntL l from rfl, List.length_append, List.append_assoc, Nat.add_assoc, Nat.sub_sub]
    rfl
theorem gv_enc : ∀ v, EncP v := V.ind fun k n s l ih => by
  intro lv left b at' post ho hw hc hl hb
  obtain ⟨lv', rfl⟩ : ∃ lv', lv = lv' + 1 := by
    unfold okV at ho
    rw [Bool.and_eq_true] at ho
    have := of_decide_eq_true ho.1
    exact ⟨lv - 1, by omega⟩
  have hcp := cnt_pos (.mk k n s l)
  unfold wf at hw
  obtain ⟨hk, hn, hwl⟩ := hw
  unfold okV at ho
  rw [Bool.and_eq_true] at ho
  have ho2 := ho.2
  clear ho
  unfold enc at hb ⊢
  unfold gv gv1
  rw [if_neg (by omega), hb, List.cons_append]
  have hkk : (UInt8.ofNat k).toNat = k := by rw [UInt8.toNat_ofNat']; omega
  simp only [hkk]
  have hcl : l.isEmpty = true → cnt (.mk k n s l) = 1 ∧ l = [] := fun h => by
    have : l = [] := List.isEmpty_iff.1 h
    subst this; exact ⟨rfl, rfl⟩
  by_cases h1 : k = 1
  · simp only [if_pos h1, Bool.and_eq_true, beq_iff_eq] at ho2
    obtain ⟨e1, e2⟩ := hcl ho2.2
    rw [e1, e2, em_of ho2.1]
    subst h1
    simp only [Nat.reduceEqDiff, if_false, if_true, true_or]
    rw [By.gu_uv _ (zg_lt hn)]
    simp [ung_zg]; omega
  by_cases h2 : k = 2
  · simp only [if_neg h1, if_pos h2, Bool.and_eq_true, beq_iff_eq, Bool.or_eq_true] at ho2
    obtain ⟨e1, e2⟩ := hcl ho2.1.2
    rw [e1, e2, em_of ho2.1.1]
    subst h2
    have hn2 : (UInt8.ofNat n.toNat).toNat = n.toNat := by rw [UInt8.toNat_ofNat']; omega
    have hn3 : ((n.toNat : Nat) : Int) = n := by omega
    simp [hn2, hn3]; omega
  by_cases h5 : k = 5
  · simp only [if_neg h1, if_neg h2, if_pos h5, Bool.and_eq_true, beq_iff_eq, decide_eq_true_eq] at ho2
    obtain ⟨e1, e2⟩ := hcl ho2.1.2
    rw [e1, e2, em_of ho2.1.1]
    subst h5
    simp only [Nat.reduceEqDiff, if_false, if_true, or_true, or_false]
    rw [By.gu_uv _ (zg_lt hn)]
    have : ¬ n < 0 := by omega
    simp [ung_zg, this]; omega
  by_cases h3 : k = 3
  · simp only [if_neg h1, if_neg h2, if_neg h5, if_pos h3, Bool.and_eq_true, beq_iff_eq, decide_eq_true_eq] at ho2
    obtain ⟨e1, e2⟩ := hcl ho2.1.2
    rw [e1, e2, ho2.1.1]
    subst h3
    have hs : s.data.toList.length ≤ 4096 := by
      show s.data.toList.length ≤ 4096
      rw [Array.length_toList]
      exact ho2.2
    simp only [Nat.reduceEqDiff, if_false, if_true, or_self]
    rw [By.getBlob_blob 4096 _ _ hs (by omega)]
    simp; omega
  by_cases h4 : k = 4
  · simp only [if_neg h1, if_neg h2, if_neg h5, if_neg h3, if_pos h4, Bool.and_eq_true, beq_iff_eq] at ho2
    subst h4
    rw [ho2.1.1, em_of ho2.1.2]
    unfold cnt at hc ⊢
    have hll := cntL_len l
    simp only [Nat.reduceEqDiff, if_false, if_true, or_self]
    have hbd : b.drop (at' + 1 + (By.uv l.length).length) = encL l ++ post := by
      rw [Nat.add_assoc, ← List.drop_drop, hb]
      simp only [Nat.reduceEqDiff, if_false, if_true]
      rw [List.cons_append, show 1 + (By.uv l.length).length = (By.uv l.length).length + 1 by omega, List.drop_succ_cons, List.append_assoc, List.drop_left]
    rw [List.append_assoc, By.gu_uv _ (by omega)]
    simp only
    rw [if_neg (by simp), if_neg (by omega), gvN_enc b lv' l ih (at' + 1 + (By.uv l.length).length) (left - 1) [] post ho2.2 hwl (by omega) (by omega) hbd]
    simp only [List.nil_append, List.length_cons, List.length_append]
    congr 3 <;> omega
  · simp [h1, h2, h5, h3, h4] at ho2
/-- what was put is told -/
theorem get_enc (v : V) (b : Bs) (at' : Nat) (post : Bs) (h : right v = true) (hw : wf v) (hb : b.drop at' = enc v ++ post) : get b at' = .ok (v, at' + (enc v).length, 256 - cnt v) := by
  unfold right at h
  rw [Bool.and_eq_true, decide_eq_true_eq] at h
  exact gv_enc v 16 256 b at' post h.1 hw h.2 (Nat.le_refl _) hb
/-- what is told is right, and put again is the same bytes -/
theorem get_right (b : Bs) (at' : Nat) (v : V) (at2 left2 : Nat) (ha : at' ≤ b.length) (h : get b at' = .ok (v, at2, left2)) : right v = true ∧ at' < at2 ∧ at2 ≤ b.length ∧ enc v = (b.drop at').take (at2 - at') := by
  obtain ⟨h1, h2, h3, h4, h5⟩ := gv_told b 16 at' 256 ha v at2 left2 h
  refine ⟨?_, h3, h4, h5⟩
  unfold right
  rw [h1, decide_eq_true (by omega)]; rfl
end Va
end Go.Proofs.YtgamhgeiceakeaaDoor
