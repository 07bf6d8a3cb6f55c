/- What a value's bytes say: what is told of any bytes is right and has these bytes; what was put is told. No program stands here. -/
import Derived.Test.YtgamhgeiceakeaaDoorVSpec
set_option linter.unusedVariables false
set_option linter.unusedSimpArgs false
namespace Go.Proofs.YtgamhgeiceakeaaDoor
namespace Va
open By (Bs)
theorem guF_inv : ∀ (l : Bs) (i acc m c : Nat), i ≤ 9 → By.guF i acc l = (m, c, 0) → ∃ q, m = acc + q * 128 ^ i ∧ By.uvF (9 - i) q = l.take (c - i) ∧ (0 < i → 0 < q) ∧ q < 2 * 128 ^ (9 - i)
  | [], i, acc, m, c, _, h => by cases h
  | x :: r, i, acc, m, c, hi, h => by
    have hx := x.toNat_lt
    have hxo : UInt8.ofNat x.toNat = x := by simp
    unfold By.guF at h
    split at h
    · cases h
    · rename_i h1
      split at h
      · rename_i h2
        cases h
        refine ⟨x.toNat, by rw [Nat.mod_eq_of_lt h2], ?_, fun h0 => by omega, ?_⟩
        · rw [show i + 1 - i = 1 by omega]
          simp only [List.take_succ_cons, List.take_zero]
          rcases Nat.eq_zero_or_pos (9 - i) with h9 | h9
          · rw [h9]; unfold By.uvF; rw [hxo]
          · obtain ⟨f, hf⟩ : ∃ f, 9 - i = f + 1 := ⟨9 - i - 1, by omega⟩
            rw [hf]; unfold By.uvF; rw [if_pos h2, hxo]
        · rcases Nat.eq_zero_or_pos (9 - i) with h9 | h9
          · rw [h9]; simp; omega
          · have : 128 ^ 1 ≤ 128 ^ (9 - i) := Nat.pow_le_pow_right (by decide) h9
            omega
      · rename_i h2
        split at h
        · cases h
        · rename_i h3
          obtain ⟨q, e1, e2, e3, e4⟩ := guF_inv r (i + 1) _ m c (by omega) h
          have hlen := By.guF_len r (i + 1) _ (by rw [h])
          rw [h] at hlen
          simp only at hlen
          have hq := e3 (by omega)
          refine ⟨x.toNat % 128 + 128 * q, ?_, ?_, fun _ => by omega, ?_⟩
          · rw [e1, Nat.pow_succ, Nat.add_mul, ← Nat.add_assoc]; congr 1
            rw [Nat.mul_comm 128 q, Nat.mul_assoc, Nat.mul_comm 128]
          · obtain ⟨f, hf⟩ : ∃ f, 9 - i = f + 1 := ⟨9 - i - 1, by omega⟩
            rw [hf]
            unfold By.uvF
            rw [if_neg (by omega), show (x.toNat % 128 + 128 * q) / 128 = q by omega, show (x.toNat % 128 + 128 * q) % 128 + 128 = x.toNat by omega, hxo,
              show c - i = (c - (i + 1)) + 1 by omega, List.take_succ_cons, ← e2, show 9 - (i + 1) = f by omega]
          · have : 2 * 128 ^ (9 - i) = 128 * (2 * 128 ^ (9 - (i + 1))) := by
              rw [show 9 - i = (9 - (i + 1)) + 1 by omega, Nat.pow_succ]; omega
            omega
theorem gu_inv (l : Bs) (m c : Nat) (h : By.gu l = (m, c, 0)) : By.uv m = l.take c ∧ c ≤ l.length ∧ 0 < c ∧ m < 18446744073709551616 := by
  obtain ⟨q, e1, e2, e3, e4⟩ := guF_inv l 0 0 m c (by omega) h
  have hl := By.gu_len l (by rw [h])
  rw [h] at hl
  simp only at hl
  have hm : m = q := by simpa using e1
  subst hm
  refine ⟨e2, hl.1, hl.2, ?_⟩
  have : (128 : Nat) ^ (9 - 0) = 9223372036854775808 := By.pow9
  omega
theorem getBlob_inv (most : Nat) (l d : Bs) (c : Nat) (h : By.getBlob most l = (d, c, 0)) : By.blob d = l.take c ∧ c ≤ l.length ∧ d.length ≤ most ∧ 0 < c := by
  unfold By.getBlob at h
  rcases hg : By.gu l with ⟨m, c1, e⟩
  rw [hg] at h
  simp only at h
  split at h
  · rename_i h1; cases h; exact absurd rfl h1
  · rename_i h1
    have he : e = 0 := by omega
    subst he
    obtain ⟨g1, g2, g3, g4⟩ := gu_inv l m c1 hg
    split at h
    · cases h
    · rename_i h2
      split at h
      · cases h
      · rename_i h3
        cases h
        have hd : ((l.drop c1).take m).length = m := by rw [List.length_take, List.length_drop]; omega
        refine ⟨?_, by omega, by omega, by omega⟩
        unfold By.blob
        rw [hd, g1, List.take_add]
/-- what stands at a place: a value of so many levels, where so many may still come: it, the place behind, how many then -/
abbrev Rs := Except Nat (V × Nat × Nat)
def gvN (f : Nat → Nat → Rs) : Nat → Nat → Nat → List V → Except Nat (List V × Nat × Nat)
  | 0, at', left, acc => .ok (acc, at', left)
  | m + 1, at', left, acc => match f at' left with
    | .error e => .error e
    | .ok (v, at2, left2) => gvN f m at2 left2 (acc ++ [v])
def gv1 (f : Nat → Nat → Rs) (b : Bs) (at' left : Nat) : Rs :=
  if left = 0 then .error 13 else
  match b.drop at' with
  | [] => .error 11
  | x :: r =>
    if x.toNat = 1 ∨ x.toNat = 5 then (
      if (By.gu r).2.2 ≠ 0 then .error (By.gu r).2.2 else if x.toNat = 5 ∧ ung (By.gu r).1 < 0 then .error 13 else .ok (.mk x.toNat (ung (By.gu r).1) em [], at' + 1 + (By.gu r).2.1, left - 1))
    else if x.toNat = 2 then (
      match r with
      | [] => .error 11
      | y :: _ => if 1 < y.toNat then .error 10 else .ok (.mk 2 y.toNat em [], at' + 2, left - 1))
    else if x.toNat = 3 then (
      if (By.getBlob 4096 r).2.2 ≠ 0 then .error (By.getBlob 4096 r).2.2 else .ok (.mk 3 0 ⟨(By.getBlob 4096 r).1.toArray⟩ [], at' + 1 + (By.getBlob 4096 r).2.1, left - 1))
    else if x.toNat = 4 then (
      if (By.gu r).2.2 ≠ 0 then .error (By.gu r).2.2 else if 256 < (By.gu r).1 then .error 13 else
      match gvN f (By.gu r).1 (at' + 1 + (By.gu r).2.1) (left - 1) [] with
      | .error e => .error e
      | .ok (l, at2, left2) => .ok (.mk 4 0 em l, at2, left2))
    else .error 10
def gv (b : Bs) : Nat → Nat → Nat → Rs
  | 0, _, _ => .error 13
  | lv + 1, at', left => gv1 (gv b lv) b at' left
/-- Get -/
def get (b : Bs) (at' : Nat) : Rs := gv b 16 at' 256
theorem okL_iff (l : List V) (lv : Nat) : okL l lv = true ↔ ∀ v ∈ l, okV v lv = true := by
  induction l with
  | nil => unfold okL; simp
  | cons v l ih => unfold okL; rw [Bool.and_eq_true, ih]; simp
theorem encL_app (l r : List V) : encL (l ++ r) = encL l ++ encL r := by
  induction l with
  | nil => rfl
  | cons v l ih => show enc v ++ encL (l ++ r) = (enc v ++ encL l) ++ encL r; rw [ih, List.append_assoc]
theorem cntL_app (l r : List V) : cntL (l ++ r) = cntL l + cntL r := by
  induction l with
  | nil => show cntL r = 0 + cntL r; omega
  | cons v l ih => show cnt v + cntL (l ++ r) = (cnt v + cntL l) + cntL r; rw [ih]; omega
/-- what is told -/
def Told (b : Bs) (lv at' left : Nat) (r : Rs) : Prop := ∀ v at2 left2, r = .ok (v, at2, left2) → okV v lv = true ∧ left2 + cnt v = left ∧ at' < at2 ∧ at2 ≤ b.length ∧ enc v = (b.drop at').take (at2 - at')
theorem drop_take_add (b : Bs) (a c d : Nat) (h : a ≤ c) (h2 : c ≤ d) : (b.drop a).take (d - a) = (b.drop a).take (c - a) ++ (b.drop c).take (d - c) := by
  rw [show d - a = (c - a) + (d - c) by omega, List.take_add, List.drop_drop, show a + (c - a) = c by omega]
theorem gvN_told (b : Bs) (lv : Nat) (f : Nat → Nat → Rs) (hf : ∀ a left, a ≤ b.length → Told b lv a left (f a left)) : ∀ (m at' left : Nat) (acc : List V) (l : List V) (at2 left2 : Nat), at' ≤ b.length → gvN f m at' left acc = .ok (l, at2, left2) →
    ∃ l', l = acc ++ l' ∧ l'.length = m ∧ (∀ v ∈ l', okV v lv = true) ∧ left2 + cntL l' = left ∧ at' ≤ at2 ∧ at2 ≤ b.length ∧ encL l' = (b.drop at').take (at2 - at')
  | 0, at', left, acc, l, at2, left2, ha, h => by
    unfold gvN at h
    cases h
    exact ⟨[], by simp, rfl, by simp, by unfold cntL; omega, Nat.le_refl _, ha, by simp [encL]⟩
  | m + 1, at', left, acc, l, at2, left2, ha, h => by
    unfold gvN at h
    split at h
    · cases h
    · rename_i v a3 l3 heq
      obtain ⟨k1, k2, k3, k4, k5⟩ := hf at' left ha v a3 l3 heq
      obtain ⟨l', e1, e2, e3, e4, e5, e6, e7⟩ := gvN_told b lv f hf m a3 l3 _ l at2 left2 k4 h
      refine ⟨v :: l', by rw [e1]; simp, by simp [e2], fun u hu => ?_, by unfold cntL; omega, by omega, e6, ?_⟩
      · rcases List.mem_cons.1 hu with rfl | hu
        · exact k1
        · exact e3 u hu
      · unfold encL
        rw [k5, e7, ← drop_take_add b at' a3 at2 (by omega) e5]
theorem told_one {b r : Bs} {x : UInt8} {at' : Nat} (h : b.drop at' = x :: r) (c : Nat) (hc : c ≤ r.length) : at' + 1 + c ≤ b.length ∧ (b.drop at').take (at' + 1 + c - at') = x :: r.take c := by
  have hl := congrArg List.length h
  rw [List.length_drop, List.length_cons] at hl
  refine ⟨by omega, ?_⟩
  rw [h, show at' + 1 + c - at' = c + 1 by omega, List.take_succ_cons]
theorem gv_told (b : Bs) : ∀ (lv at' left : Nat), at' ≤ b.length → Told b lv at' left (gv b lv at' left)
  | 0, at', left, _ => fun v a2 l2 h => by unfold gv at h; cases h
  | lv + 1, at', left, ha => fun v a2 l2 h => by
    unfold gv gv1 at h
    split at h
    · cases h
    · rename_i hl0
      split at h
      · cases h
      · rename_i x r hd
        have hx := x.toNat_lt
        have hxo : UInt8.ofNat x.toNat = x := by simp
        split at h
        · rename_i hk
          split at h
          · cases h
          · rename_i he
            rcases hg : By.gu r with ⟨m, c, e⟩
            rw [hg] at h he
            simp only at h he
            have he0 : e = 0 := by omega
            subst he0
            obtain ⟨g1, g2, g3, g4⟩ := gu_inv r m c hg
            split at h
            · cases h
            · rename_i hneg
              cases h
              obtain ⟨t1, t2⟩ := told_one hd c g2
              refine ⟨?_, ?_, by omega, t1, ?_⟩
              · unfold okV
                rcases hk with hk | hk
                · simp [hk, em]
                · have : 0 ≤ ung m := by
                    rcases Int.lt_or_le (ung m) 0 with h | h
                    · exact absurd ⟨hk, h⟩ hneg
                    · exact h
                  simp [hk, em, this]
              · unfold cnt cntL; omega
              · rw [t2]
                unfold enc
                rw [hxo]
                congr 1
                rcases hk with hk | hk <;> simp [hk, zg_ung, g1]
        · rename_i hk1
          split at h
          · rename_i hk2
            split at h
            · cases h
            · rename_i y r'
              split at h
              · cases h
              · rename_i hy
                cases h
                obtain ⟨t1, t2⟩ := told_one hd 1 (by simp)
                refine ⟨?_, ?_, by omega, t1, ?_⟩
                · unfold okV
                  have : ((y.toNat : Int) == 0 || (y.toNat : Int) == 1) = true := by
                    simp only [Bool.or_eq_true, beq_iff_eq]; omega
                  simp [em, this]
                · unfold cnt cntL; omega
                · rw [show at' + 2 - at' = at' + 1 + 1 - at' by omega, t2]
                  unfold enc
                  have h2 : UInt8.ofNat 2 = x := by rw [← hk2]; exact hxo
                  simp [h2]
          · rename_i hk2
            split at h
            · rename_i hk3
              split at h
              · cases h
              · rename_i he
                rcases hg : By.getBlob 4096 r with ⟨d, c, e⟩
                rw [hg] at h he
                simp only at h he
                have he0 : e = 0 := by omega
                subst he0
                obtain ⟨g1, g2, g3, g4⟩ := getBlob_inv 4096 r d c hg
                cases h
                obtain ⟨t1, t2⟩ := told_one hd c g2
                refine ⟨?_, ?_, by omega, t1, ?_⟩
                · unfold okV
                  have : (⟨d.toArray⟩ : ByteArray).size ≤ 4096 := by simpa [ByteArray.size] using g3
                  simp [this]
                · unfold cnt cntL; omega
                · rw [t2]
                  unfold enc
                  have h2 : UInt8.ofNat 3 = x := by rw [← hk3]; exact hxo
                  simp [h2, g1]
            · rename_i hk3
              split at h
              · rename_i hk4
                split at h
                · cases h
                · rename_i he
                  rcases hg : By.gu r with ⟨m, c, e⟩
                  rw [hg] at h he
                  simp only at h he
                  have he0 : e = 0 := by omega
                  subst he0
                  obtain ⟨g1, g2, g3, g4⟩ := gu_inv r m c hg
                  split at h
                  · cases h
                  · rename_i hm
                    split at h
                    · cases h
                    · rename_i l a3 l3 heq
                      cases h
                      obtain ⟨t1, t2⟩ := told_one hd c g2
                      obtain ⟨l', e1, e2, e3, e4, e5, e6, e7⟩ := gvN_told b lv (gv b lv) (fun a lf hle => gv_told b lv a lf hle) m (at' + 1 + c) (left - 1) [] l a2 l2 t1 heq
                      rw [List.nil_append] at e1
                      subst e1
                      refine ⟨?_, ?_, by omega, e6, ?_⟩
                      · unfold okV
                        have : okL l lv = true := (okL_iff l lv).2 e3
                        simp [em, this]
                      · unfold cnt; omega
                      · rw [drop_take_add b at' (at' + 1 + c) a2 (by omega) e5, t2, ← e7]
                        unfold enc
                        have h2 : UInt8.ofNat 4 = x := by rw [← hk4]; exact hxo
                        simp [h2, e2, g1]
              · cases h
end Va
end Go.Proofs.YtgamhgeiceakeaaDoor
