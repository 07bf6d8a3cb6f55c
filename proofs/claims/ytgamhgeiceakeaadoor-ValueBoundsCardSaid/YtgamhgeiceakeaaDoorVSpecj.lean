/- Values as plain data: the bounds of what is right. No program stands here. -/
import Derived.Test.YtgamhgeiceakeaaDoorVSpeci
set_option linter.unusedVariables false
set_option linter.unusedSimpArgs false
namespace Go.Proofs.YtgamhgeiceakeaaDoor
namespace Va
open By (Bs)
/-- so many tuples about a number -/
def chain : Nat → V
  | 0 => .mk 1 5 em []
  | n + 1 => .mk 4 0 em [chain n]
def half (i : Nat) : V := .mk 2 ((i % 2 : Nat) : Int) em []
def halves (m : Nat) : List V := (List.range m).map half
theorem halves_len (m : Nat) : (halves m).length = m := by unfold halves; simp
def nought (k : Nat) : ByteArray := ⟨Array.replicate k 0⟩
theorem nought_size (k : Nat) : (nought k).size = k := by
  show (Array.replicate k (0 : UInt8)).size = k; simp
theorem em0 : em.size = 0 := rfl
theorem okV_chain : ∀ (n lv : Nat), okV (chain n) lv = decide (n + 1 ≤ lv)
  | 0, lv => by
    unfold chain okV
    rw [em0, Bool.eq_iff_iff]
    simp
    omega
  | n + 1, lv => by
    unfold chain okV
    have h : okL [chain n] (lv - 1) = decide (n + 1 ≤ lv - 1) := by
      show (okV (chain n) (lv - 1) && true) = _
      rw [okV_chain n (lv - 1), Bool.and_true]
    rw [em0, h, Bool.eq_iff_iff]
    simp
    omega
theorem cnt_chain : ∀ n, cnt (chain n) = n + 1
  | 0 => rfl
  | n + 1 => by
    show 1 + (cnt (chain n) + 0) = _
    rw [cnt_chain n]; omega
theorem right_chain (n : Nat) : right (chain n) = decide (n + 1 ≤ 16) := by
  unfold right
  rw [okV_chain, cnt_chain, Bool.eq_iff_iff]
  simp
  omega
theorem ok_half (i lv : Nat) (h : 0 < lv) : okV (half i) lv = true := by
  unfold half okV
  rw [em0]
  have : i % 2 = 0 ∨ i % 2 = 1 := by omega
  rcases this with h2 | h2 <;> simp [h2, h]
theorem cntL_flat : ∀ l : List V, (∀ v ∈ l, cnt v = 1) → cntL l = l.length
  | [], _ => rfl
  | v :: l, h => by
    show cnt v + cntL l = _
    rw [h v (by simp), cntL_flat l (fun u hu => h u (by simp [hu])), List.length_cons]; omega
theorem cnt_halves (m : Nat) : cntL (halves m) = m := by
  rw [cntL_flat _ (fun v hv => by
    unfold halves at hv
    obtain ⟨i, _, rfl⟩ := List.mem_map.1 hv
    rfl), halves_len]
theorem ok_halves (m lv : Nat) (h : 0 < lv) : okL (halves m) lv = true := (okL_iff _ lv).2 fun v hv => by
  unfold halves at hv
  obtain ⟨i, _, rfl⟩ := List.mem_map.1 hv
  exact ok_half i lv h
theorem right_wide (m : Nat) : right (.mk 4 0 em (halves m)) = decide (m + 1 ≤ 256) := by
  unfold right
  have h : okV (.mk 4 0 em (halves m)) 16 = true := by
    unfold okV
    rw [em0, ok_halves m _ (by omega)]
    simp
  have h2 : cnt (.mk 4 0 em (halves m)) = 1 + m := by
    show 1 + cntL (halves m) = _
    rw [cnt_halves]
  rw [h, h2, Bool.true_and, Bool.eq_iff_iff]
  simp
  omega
theorem right_long (k : Nat) : right (.mk 3 0 (nought k) []) = decide (k ≤ 4096) := by
  unfold right
  have h2 : cnt (.mk 3 0 (nought k) []) = 1 := rfl
  rw [h2]
  unfold okV
  rw [nought_size, Bool.eq_iff_iff]
  simp
theorem txt_chain : ∀ n, (txt (chain n) == [63]) = false
  | 0 => by
    have h : txt (chain 0) = Lib.itoa 5 := rfl
    rw [h, show Lib.itoa 5 = [53] by decide +kernel]; rfl
  | n + 1 => rfl
theorem txt_wide (m : Nat) : (txt (.mk 4 0 em (halves m)) == [63]) = false := by
  have h : txt (.mk 4 0 em (halves m)) = tup (txtL (halves m)) := rfl
  rw [h]; unfold tup; split <;> rfl
theorem txt_long (k : Nat) : (txt (.mk 3 0 (nought k) []) == [63]) = false := rfl
end Va
end Go.Proofs.YtgamhgeiceakeaaDoor
