/- Values as plain data: bytes cut short are none. No program stands here. -/
import Derived.Test.YtgamhgeiceakeaaDoorVSpecc
set_option linter.unusedVariables false
set_option linter.unusedSimpArgs false
namespace Go.Proofs.YtgamhgeiceakeaaDoor
namespace Va
open By (Bs)
theorem guF_cut : ∀ (f i acc n c : Nat), n < 128 ^ (f + 1) → i + f = 9 → n * 128 ^ i < 18446744073709551616 → (0 < i → 0 < n) → c < (By.uvF f n).length → By.guF i acc ((By.uvF f n).take c) = (0, 0, 11)
  | f, i, acc, n, 0, _, _, _, _, _ => rfl
  | 0, i, acc, n, c + 1, _, _, _, _, hc => by
    unfold By.uvF at hc; simp at hc
  | f + 1, i, acc, n, c + 1, h, hi, h1, h0, hc => by
    by_cases hn : n < 128
    · unfold By.uvF at hc; rw [if_pos hn] at hc; simp at hc
    · have ee : By.uvF (f + 1) n = UInt8.ofNat (n % 128 + 128) :: By.uvF f (n / 128) := if_neg hn
      have e : (UInt8.ofNat (n % 128 + 128)).toNat = n % 128 + 128 := by simp; omega
      rw [ee] at hc ⊢
      rw [List.take_succ_cons]
      unfold By.guF
      rw [e, if_neg (by omega), if_neg (by omega), if_neg (by omega)]
      have hlt : n / 128 < 128 ^ (f + 1) := Nat.div_lt_of_lt_mul (by rw [Nat.pow_succ, Nat.mul_comm] at h; exact h)
      have hdm := Nat.div_add_mod n 128
      have e3 : n / 128 * (128 ^ i * 128) = 128 * (n / 128) * 128 ^ i := by rw [Nat.mul_comm (128 ^ i) 128, ← Nat.mul_assoc, Nat.mul_comm (n / 128) 128]
      have e4 : n * 128 ^ i = 128 * (n / 128) * 128 ^ i + n % 128 * 128 ^ i := by rw [← Nat.add_mul, hdm]
      exact guF_cut f (i + 1) _ (n / 128) c hlt (by omega) (by rw [Nat.pow_succ, e3]; omega) (fun _ => by omega) (by simpa using hc)
theorem gu_cut (n c : Nat) (h : n < 18446744073709551616) (hc : c < (By.uv n).length) : By.gu ((By.uv n).take c) = (0, 0, 11) :=
  guF_cut 9 0 0 n c (Nat.lt_of_lt_of_le h By.p64) rfl (by simpa using h) (fun h => absurd h (Nat.lt_irrefl 0)) hc
theorem getBlob_cut (most : Nat) (d : Bs) (c : Nat) (h : d.length ≤ most) (h64 : d.length < 18446744073709551616) (hc : c < (By.blob d).length) : (By.getBlob most ((By.blob d).take c)).2.2 = 11 := by
  unfold By.blob at hc ⊢
  rw [List.take_append]
  by_cases h1 : c < (By.uv d.length).length
  · have e : c - (By.uv d.length).length = 0 := by omega
    rw [e, List.take_zero, List.append_nil]
    unfold By.getBlob
    rw [gu_cut _ _ h64 h1]; rfl
  · rw [List.take_of_length_le (by omega)]
    unfold By.getBlob
    rw [By.gu_uv _ h64]
    rw [List.length_append] at hc
    simp only [ne_eq, not_true_eq_false, if_false]
    rw [if_neg (by omega), if_pos (by simp only [List.length_append, List.length_take]; omega)]
def CutP (v : V) : Prop := ∀ (lv left : Nat) (b : Bs) (at' c : Nat), okV v lv = true → wf v → cnt v ≤ left → left ≤ 256 → c < (enc v).length → b.drop at' = (enc v).take c → gv b lv at' left = .error 11
theorem gvN_cut (b : Bs) (lv : Nat) : ∀ (l : List V), (∀ v ∈ l, CutP v) → ∀ (at' left : Nat) (acc : List V) (c : Nat), okL l lv = true → wfL l → cntL l ≤ left → left ≤ 256 → c < (encL l).length → b.drop at' = (encL l).take c → gvN (gv b lv) l.length at' left acc = .error 11
  | [], _, at', left, acc, c, _, _, _, _, hc, _ => by simp [encL] at hc
  | v :: l, hP, at', left, acc, c, ho, hw, hcn, hl, hc, hb => by
    unfold okL at ho
    unfold wfL at hw
    unfold cntL at hcn
    rw [Bool.and_eq_true] at ho
    unfold encL at hb hc
    rw [List.length_append] at hc
    rw [List.length_cons]
    unfold gvN
    by_cases h1 : c < (enc v).length
    · rw [List.take_append, show c - (enc v).length = 0 by omega, List.take_zero, List.append_nil] at hb
      rw [hP v (List.mem_cons_self ..) lv left b at' c ho.1 hw.1 (by omega) hl h1 hb]
    · rw [List.take_append, List.take_of_length_le (by omega)] at hb
      have h2 := gv_enc v lv left b at' _ ho.1 hw.1 (by omega) hl hb
      rw [h2]
      simp only
      have hb2 : b.drop (at' + (enc v).length) = (encL l).take (c - (enc v).length) := by rw [← List.drop_drop, hb, List.drop_left]
      exact gvN_cut b lv l (fun u hu => hP u (List.mem_cons_of_mem _ hu)) _ _ _ _ ho.2 hw.2 (by omega) (by omega) (by omega) hb2
theorem gv_cut : ∀ v, CutP v := V.ind fun k n s l ih => by
  intro lv left b at' c ho hw hcn hl hc hb
  obtain ⟨lv', rfl⟩ : ∃ lv', lv = lv' + 1 := by
    unfold okV at ho
    rw [Bool.and_eq_true] at ho
    exact ⟨lv - 1, by have := of_decide_eq_true ho.1; omega⟩
  have hpos := cnt_pos (.mk k n s l)
  unfold gv gv1
  rw [if_neg (by omega), hb]
  have hE : enc (.mk k n s l) = UInt8.ofNat k :: (if k = 2 then [UInt8.ofNat n.toNat] else if k = 3 then By.blob s.data.toList else if k = 4 then By.uv l.length ++ encL l else By.uv (zg n)) := by unfold enc; rfl
  rw [hE] at hb hc ⊢
  cases c with
  | zero => rfl
  | succ c =>
    rw [List.take_succ_cons] at hb ⊢
    simp only [List.length_cons] at hc
    unfold wf at hw
    obtain ⟨hk, hn, hwl⟩ := hw
    have hko : (UInt8.ofNat k).toNat = k := by rw [UInt8.toNat_ofNat']; omega
    simp only [hko]
    unfold okV at ho
    rw [Bool.and_eq_true] at ho
    obtain ⟨_, ho⟩ := ho
    by_cases k2 : k = 2
    · subst k2
      have hc0 : c = 0 := by simp at hc; omega
      subst hc0
      rfl
    by_cases k3 : k = 3
    · subst k3
      simp only [Nat.reduceEqDiff, if_false, if_true, Bool.and_eq_true, beq_iff_eq, decide_eq_true_eq] at ho hc ⊢
      have hs4 : s.data.toList.length ≤ 4096 := by rw [Array.length_toList]; exact ho.2
      have := getBlob_cut 4096 s.data.toList c hs4 (by omega) (by omega)
      simp only [this]
      rfl
    by_cases k4 : k = 4
    · subst k4
      simp only [Nat.reduceEqDiff, if_false, if_true, Bool.and_eq_true, beq_iff_eq, decide_eq_true_eq] at ho hc ⊢
      unfold cnt at hcn
      have hlc := cntL_len l
      rw [List.take_append]
      by_cases h1 : c < (By.uv l.length).length
      · rw [show c - (By.uv l.length).length = 0 by omega, List.take_zero, List.append_nil]
        have := gu_cut l.length c (by omega) h1
        simp only [this]; rfl
      · rw [List.take_of_length_le (by omega)]
        have hg := By.gu_uv l.length (by omega) ((encL l).take (c - (By.uv l.length).length))
        simp only [hg]
        rw [List.length_append] at hc
        have hb2 : b.drop (at' + 1 + (By.uv l.length).length) = (encL l).take (c - (By.uv l.length).length) := by
          rw [Nat.add_assoc, ← List.drop_drop, hb]
          simp only [Nat.reduceEqDiff, if_false, if_true]
          rw [Nat.add_comm 1, List.drop_succ_cons, List.take_append, List.take_of_length_le (by omega), List.drop_left]
        have h2 := gvN_cut b lv' l ih (at' + 1 + (By.uv l.length).length) (left - 1) [] (c - (By.uv l.length).length) ho.2 hwl (by omega) (by omega) (by omega) hb2
        have h256 : ¬ 256 < l.length := by omega
        simp only [ne_eq, not_true_eq_false, if_false, if_neg h256, h2]
        simp
    by_cases k15 : k = 1 ∨ k = 5
    · rw [if_pos k15]
      simp only [if_neg k2, if_neg k3, if_neg k4] at hc ⊢
      have := gu_cut (zg n) c (zg_lt hn) (by omega)
      simp only [this]; rfl
    · exfalso
      simp only [show k ≠ 1 from fun h => k15 (Or.inl h), k2, show k ≠ 5 from fun h => k15 (Or.inr h), k3, k4, if_false] at ho
      cases ho
/-- what is cut short is told as short -/
theorem get_cut (v : V) (c : Nat) (h : right v = true) (hw : wf v) (hc : c < (enc v).length) : get ((enc v).take c) 0 = .error 11 := by
  unfold right at h
  rw [Bool.and_eq_true, decide_eq_true_eq] at h
  exact gv_cut v 16 256 _ 0 c h.1 hw h.2 (Nat.le_refl _) hc rfl
/-- no right value's bytes are the begin of another one's -/
theorem enc_pre (a b : V) (ha : right a = true) (hwa : wf a) (hb : right b = true) (hwb : wf b) : ((enc a).take (min (enc a).length (enc b).length) = (enc b).take (min (enc a).length (enc b).length)) ↔ a = b := by
  refine ⟨fun h => ?_, fun h => by rw [h]⟩
  have key : ∀ (a b : V), right a = true → wf a → right b = true → wf b → (enc a).length ≤ (enc b).length → enc a = (enc b).take (enc a).length → a = b := by
    intro a b ha hwa hb hwb hl he
    have e : enc b = enc a ++ (enc b).drop (enc a).length := by
      conv => lhs; rw [← List.take_append_drop (enc a).length (enc b)]
      rw [← he]
    have h1 := get_enc a (enc b) 0 ((enc b).drop (enc a).length) ha hwa (by rw [List.drop_zero]; exact e)
    have h2 := get_enc b (enc b) 0 [] hb hwb (by simp)
    rw [h1] at h2
    cases h2; rfl
  rcases Nat.le_total (enc a).length (enc b).length with hl | hl
  · rw [Nat.min_eq_left hl, List.take_length] at h
    exact key a b ha hwa hb hwb hl h
  · rw [Nat.min_eq_right hl, List.take_length] at h
    exact (key b a hb hwb ha hwa hl h.symm).symm
theorem enc_inj (a b : V) (ha : right a = true) (hwa : wf a) (hb : right b = true) (hwb : wf b) (h : enc a = enc b) : a = b :=
  (enc_pre a b ha hwa hb hwb).1 (by rw [h])
end Va
end Go.Proofs.YtgamhgeiceakeaaDoor
