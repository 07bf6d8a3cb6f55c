/- The signs; the token that a text begins with, whatever it is. -/
import Derived.Test.YthbdnbeiafpkcaaDoorWFive
set_option linter.unusedVariables false
namespace Go.Proofs.YthbdnbeiafpkcaaDoor
open Go.RowKit
def signAt (k : Nat) : List UInt8 := Wo.signs.getD k []
theorem find_at (p : List UInt8 → Bool) (k : Nat) (h : k < 24) : (Wo.signs.drop k).find? p = if p (signAt k) then some (signAt k) else (Wo.signs.drop (k + 1)).find? p := by
  have h' : k < Wo.signs.length := h
  rw [List.drop_eq_getElem_cons h', List.find?_cons]
  have : signAt k = Wo.signs[k] := by unfold signAt; simp [List.getD, h']
  rw [this]
  cases p Wo.signs[k] <;> rfl
set_option maxRecDepth 100000 in
theorem sign_index (k : Nat) (h : k < 24) (w : World) : (Instr.index 75 (.agg #[.string ⟨#[38, 38]⟩, .string ⟨#[124, 124]⟩, .string ⟨#[61, 61]⟩, .string ⟨#[33, 61]⟩, .string ⟨#[60, 61]⟩, .string ⟨#[62, 61]⟩, .string ⟨#[43, 43]⟩, .string ⟨#[60]⟩, .string ⟨#[62]⟩, .string ⟨#[43]⟩, .string ⟨#[45]⟩, .string ⟨#[42]⟩, .string ⟨#[47]⟩, .string ⟨#[37]⟩, .string ⟨#[33]⟩, .string ⟨#[40]⟩, .string ⟨#[41]⟩, .string ⟨#[91]⟩, .string ⟨#[93]⟩, .string ⟨#[123]⟩, .string ⟨#[125]⟩, .string ⟨#[44]⟩, .string ⟨#[59]⟩, .string ⟨#[61]⟩]) (.int .i64 k)).run Tryd.prog w = .ok (.string ⟨(signAt k).toArray⟩) w := by
  exact match k, h with
  | 0, _ => rfl
  | 1, _ => rfl
  | 2, _ => rfl
  | 3, _ => rfl
  | 4, _ => rfl
  | 5, _ => rfl
  | 6, _ => rfl
  | 7, _ => rfl
  | 8, _ => rfl
  | 9, _ => rfl
  | 10, _ => rfl
  | 11, _ => rfl
  | 12, _ => rfl
  | 13, _ => rfl
  | 14, _ => rfl
  | 15, _ => rfl
  | 16, _ => rfl
  | 17, _ => rfl
  | 18, _ => rfl
  | 19, _ => rfl
  | 20, _ => rfl
  | 21, _ => rfl
  | 22, _ => rfl
  | 23, _ => rfl
  | k + 24, h => absurd h (by omega)
theorem sign_size (k : Nat) (h : k < 24) : (signAt k).length ≤ 2 ∧ 1 ≤ (signAt k).length := by
  have : ∀ k : Fin 24, (signAt k.val).length ≤ 2 ∧ 1 ≤ (signAt k.val).length := by decide
  exact this ⟨k, h⟩
set_option maxHeartbeats 1600000 in
set_option maxRecDepth 1000000 in
theorem found_sign (s : ByteArray) (w : World) (h1 : 1 ≤ s.size) (hs : s.size ≤ 1048576) (hd : Wo.isDigit s[0] = false) (hq : s[0].toNat ≠ 34) (hn : Wo.isLetter s[0] = false) :
    Calls Tryd.prog 20 #[.string s] w (FoundPost (Wo.signL s.data.toList) w) := by
  have b1 : (0 : Int) < (s.size : Int) := by omega
  have b2 : 0 < s.size := by omega
  have k34 : ((s[0].toNat : Int) == 34) = false := bneI (by omega)
  have hf : Wo.signL s.data.toList = (match (Wo.signs.drop 0).find? (fun x => x.isPrefixOf s.data.toList) with
    | some x => ⟨5, x, 0, x.length⟩
    | none => Wo.noTok) := rfl
  generalize Wo.signL s.data.toList = r at hf
  have HS := Lib.hid hf
  have HD := Lib.hid hd
  have HN := Lib.hid hn
  clear hf hd hq hn
  go_enter Tryd.func20, Tryd.ntmps20
  go_wp2_with fail
  with_reducible refine (digit_any _ _).mono ?_
  rintro e w' ⟨rfl, rfl⟩
  have hd := HD.out
  go_wp2_with fail
  with_reducible refine (letter_any _ _).mono ?_
  rintro e w' ⟨rfl, rfl⟩
  have hn := HN.out
  go_wp2_with fail
  go_loop [62] (fun i => ∃ k : Nat, k ≤ 24 ∧ i = .int .i64 k ∧ (Wo.signs.drop 0).find? (fun x => x.isPrefixOf s.data.toList) = (Wo.signs.drop k).find? (fun x => x.isPrefixOf s.data.toList)) (fun i => 24 - (intOf i).toNat)
  case atStart => exact ⟨0, Nat.zero_le _, rfl, rfl⟩
  case round =>
    obtain ⟨k, hk, rfl, hall⟩ := hrel
    have HA := Lib.hid hall
    clear hall
    by_cases hlt : k < 24
    · have hi := fun w => sign_index k hlt w
      have hlen := sign_size k hlt
      have hfa := find_at (fun x => x.isPrefixOf s.data.toList) k hlt
      have c := fun w => Tryd.strings_HasPrefix s ⟨(signAt k).toArray⟩ w
      rw [show (⟨(signAt k).toArray⟩ : ByteArray).data.toList = signAt k by simp] at c
      unfold Lib.hasPrefix at c
      have hsz : (⟨(signAt k).toArray⟩ : ByteArray).size = (signAt k).length := rfl
      generalize signAt k = x at *
      cases hp : x.isPrefixOf s.data.toList with
      | true =>
        simp only [hp, if_true] at c hfa
        have hfin : r = ⟨5, x, 0, x.length⟩ := by rw [HS.out, HA.out, hfa]
        have HF := Lib.hid hfin
        have C := Lib.hid c
        clear hfa hfin c hp
        clear hsz
        go_wp2_with fail
        with_reducible refine (C.out _).mono ?_
        rintro e w' ⟨rfl, rfl⟩
        go_wp2
        exact bodyPost_ret (v := .tuple #[wordV 5 x 0 0 0 0, .int .i64 x.length]) (by unfold wordV; simp [results, Tryd.results20, go_sem]) rfl ⟨by rw [HF.out], (Below.refl w.heap.size w).alloc (Nat.le_refl _) _⟩
      | false =>
        simp only [hp, if_neg Bool.false_ne_true] at c hfa
        have HT := Lib.hid (HA.out.trans hfa)
        have C := Lib.hid c
        clear hfa c hp hsz
        go_wp2_with fail
        with_reducible refine (C.out _).mono ?_
        rintro e w' ⟨rfl, rfl⟩
        go_wp2
        go_round
        case rel => exact ⟨k + 1, by omega, by go_num, HT.out⟩
        case measure => simp [intOf]; omega
    · obtain rfl : k = 24 := by omega
      have hfin : r = Wo.noTok := by rw [HS.out, HA.out]; rfl
      have HF := Lib.hid hfin
      clear hfin
      go_wp2
      exact bodyPost_ret (v := .tuple #[wordV 0 [] 0 0 0 0, .int .i64 0]) (by unfold wordV; simp [results, Tryd.results20, go_sem]) rfl ⟨by rw [HF.out]; rfl, (Below.refl w.heap.size w).alloc (Nat.le_refl _) _⟩
theorem found_any (s : ByteArray) (w : World) (hl : LaidW w) (h1 : 1 ≤ s.size) (hs : s.size ≤ 1048576) : Calls Tryd.prog 20 #[.string s] w (FoundPost (Wo.foundL s.data.toList) w) := by
  obtain ⟨c, r, hcr⟩ : ∃ c r, s.data.toList = c :: r := by
    have : s.data.toList.length = s.size := rfl
    cases hl : s.data.toList with
    | nil => rw [hl] at this; simp at this; omega
    | cons a l => exact ⟨a, l, rfl⟩
  have h0 : s[0] = c := by
    have : s.data.toList[0]'(by rw [hcr]; simp) = c := by simp [hcr]
    exact this
  have hf : Wo.foundL s.data.toList = if Wo.isDigit s[0] then (if Wo.decL (s.data.toList.take (Wo.runL Wo.isDigit s.data.toList)) < 9223372036854775808 then ⟨1, [], Wo.decL (s.data.toList.take (Wo.runL Wo.isDigit s.data.toList)), Wo.runL Wo.isDigit s.data.toList⟩ else Wo.noTok)
    else if s[0].toNat = 34 then ⟨2, (Wo.textL s.data.toList).1, 0, (Wo.textL s.data.toList).2⟩
    else if Wo.isLetter s[0] then ⟨if Wo.keys.contains (s.data.toList.take (Wo.runL Wo.alnum s.data.toList)) then 4 else 3, s.data.toList.take (Wo.runL Wo.alnum s.data.toList), 0, Wo.runL Wo.alnum s.data.toList⟩
    else Wo.signL s.data.toList := by
    rw [h0]; conv => lhs; rw [hcr]
    unfold Wo.foundL
    simp only [← hcr]
  rw [hf]
  cases hd : Wo.isDigit s[0] with
  | true =>
    rw [if_pos rfl]
    by_cases hr : Wo.decL (s.data.toList.take (Wo.runL Wo.isDigit s.data.toList)) < 9223372036854775808
    · rw [if_pos hr]; exact found_int s w hl h1 hs hd hr
    · rw [if_neg hr]; exact found_range s w hl h1 hs hd hr
  | false =>
    rw [if_neg Bool.false_ne_true]
    by_cases hq : s[0].toNat = 34
    · rw [if_pos hq]; exact found_text s w h1 hs hd hq
    · rw [if_neg hq]
      cases hn : Wo.isLetter s[0] with
      | true => rw [if_pos rfl]; exact found_name s w hl h1 hs hd hq hn
      | false => rw [if_neg Bool.false_ne_true]; exact found_sign s w h1 hs hd hq hn
end Go.Proofs.YthbdnbeiafpkcaaDoor
