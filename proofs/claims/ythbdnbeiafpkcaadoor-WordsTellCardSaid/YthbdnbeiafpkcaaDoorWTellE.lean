/- The document's own words: Quote. -/
import Derived.Test.YthbdnbeiafpkcaaDoorWTellA
import Derived.Test.YthbdnbeiafpkcaaDoorWQuotes
set_option linter.unusedVariables false
namespace Go.Proofs.YthbdnbeiafpkcaaDoor
open Go.RowKit
theorem quote_next (L : List UInt8) (k : Nat) (T T' : ByteArray) (l : List UInt8) (h : k < L.length) (hT : T.data.toList = 34 :: Wo.quoteB (L.take k)) (hq : Wo.quote1 L[k] = l) (hT' : T'.data.toList = T.data.toList ++ l) :
    T'.data.toList = 34 :: Wo.quoteB (L.take (k + 1)) := by
  rw [hT', hT, quoteB_at L k h, hq, List.cons_append]
theorem cat1' (t s : ByteArray) (k : Nat) (h : k < s.size) : (t ++ s.extract k (k + 1)).data.toList = t.data.toList ++ [s[k]] := by
  rw [ByteArray.data_append, Array.toList_append, extract1 s k h]
theorem hexd_at (n : Nat) (h : n < 16) : ((⟨#[48, 49, 50, 51, 52, 53, 54, 55, 56, 57, 97, 98, 99, 100, 101, 102]⟩ : ByteArray).extract n (n + 1)).data.toList = [Wo.hexd n] := by
  rw [extract1 (⟨#[48, 49, 50, 51, 52, 53, 54, 55, 56, 57, 97, 98, 99, 100, 101, 102]⟩ : ByteArray) n (by exact h), hex_index n h]
set_option maxHeartbeats 4000000 in
set_option maxRecDepth 100000 in
theorem rquote_any (s : ByteArray) (w : World) (hs : s.size ≤ 1048576) : Calls Tryd.prog 13 #[.string s] w fun e w' => e = .returned (.string (bsOf (Wo.quoteL s.data.toList))) ∧ Below w.heap.size w w' := by
  go_enter Tryd.func13, Tryd.ntmps13
  go_wp2
  go_loopw [4, 5] (fun t i wr => ∃ (k : Nat) (T : ByteArray), k ≤ s.size ∧ t = .string T ∧ i = .int .i64 k ∧ Below w.heap.size w wr ∧ T.data.toList = 34 :: Wo.quoteB (s.data.toList.take k)) (fun _ i _ => s.size - (intOf i).toNat)
  case atStart => exact ⟨0, ⟨#[34]⟩, Nat.zero_le _, rfl, rfl, Below.refl _ _, rfl⟩
  case round =>
    obtain ⟨k, T, hk, rfl, rfl, hbel, hT⟩ := hrel
    have HB := Lib.hid hbel
    clear hbel
    have HT := Lib.hid hT
    have hTz : T.size ≤ 4 * k + 1 := by
      have h1 : T.size = T.data.toList.length := rfl
      have h2 := quoteB_le (s.data.toList.take k)
      have h3 : (s.data.toList.take k).length ≤ k := List.length_take_le _ _
      rw [h1, hT, List.length_cons]; omega
    clear hT
    by_cases hlt : k < s.size
    · have hc : s[k].toNat < 256 := s[k].toNat_lt
      have hmin : min (k + 1) s.size = k + 1 := by omega
      by_cases p1 : s[k].toNat = 34 ∨ s[k].toNat = 92
      · have hq1 : Wo.quote1 s[k] = [92, s[k]] := by unfold Wo.quote1; rw [if_pos p1]
        have HQ1 := Lib.hid hq1
        clear hq1
        rcases p1 with p1 | p1
        all_goals
          first | (have k1 : ((s[k].toNat : Int) == 34) = true := beqI (by omega); clear p1) | (have k1 : ((s[k].toNat : Int) == 34) = false := bneI (by omega); have k2 : ((s[k].toNat : Int) == 92) = true := beqI (by omega); clear p1)
          go_wp2
          go_roundw
          case rel => exact ⟨k + 1, T ++ ⟨#[92]⟩ ++ s.extract k (k + 1), by omega, rfl, by go_num, HB.out, quote_next _ k T _ _ hlt HT.out HQ1.out (by rw [cat1' _ _ _ hlt, ByteArray.data_append, Array.toList_append]; simp)⟩
          case measure => simp [intOf]; omega
      · have k1 : ((s[k].toNat : Int) == 34) = false := bneI (by omega)
        have k2 : ((s[k].toNat : Int) == 92) = false := bneI (by omega)
        by_cases p2 : s[k].toNat = 10
        · have hq1 : Wo.quote1 s[k] = [92, 110] := by unfold Wo.quote1; rw [if_neg p1, if_pos p2]
          have HQ1 := Lib.hid hq1
          have k3 : ((s[k].toNat : Int) == 10) = true := beqI (by omega)
          clear hq1 p1 p2
          go_wp2
          go_roundw
          case rel => exact ⟨k + 1, T ++ ⟨#[92, 110]⟩, by omega, rfl, by go_num, HB.out, quote_next _ k T _ _ hlt HT.out HQ1.out (by rw [ByteArray.data_append, Array.toList_append])⟩
          case measure => simp [intOf]; omega
        · have k3 : ((s[k].toNat : Int) == 10) = false := bneI (by omega)
          by_cases p3 : 32 ≤ s[k].toNat ∧ s[k].toNat ≤ 126
          · have hq1 : Wo.quote1 s[k] = [s[k]] := by unfold Wo.quote1; rw [if_neg p1, if_neg p2, if_pos p3]
            have HQ1 := Lib.hid hq1
            obtain ⟨p4, p5⟩ := p3
            have k4 : (32 : Int) ≤ (s[k].toNat : Int) := by omega
            have k5 : (s[k].toNat : Int) ≤ 126 := by omega
            clear hq1 p1 p2
            go_wp2
            go_roundw
            case rel => exact ⟨k + 1, T ++ s.extract k (k + 1), by omega, rfl, by go_num, HB.out, quote_next _ k T _ _ hlt HT.out HQ1.out (cat1' _ _ _ hlt)⟩
            case measure => simp [intOf]; omega
          · have hq1 : Wo.quote1 s[k] = [92, 120, Wo.hexd (s[k].toNat / 16), Wo.hexd (s[k].toNat % 16)] := by unfold Wo.quote1; rw [if_neg p1, if_neg p2, if_neg p3]
            have HQ1 := Lib.hid hq1
            clear hq1 p1 p2
            have h16 : s[k].toNat / 16 < 16 := by omega
            have h17 : s[k].toNat % 16 < 16 := by omega
            have X1 := Lib.hid (hexd_at _ h16)
            have X2 := Lib.hid (hexd_at _ h17)
            have w1 : IntKind.u8.wrap ((s[k].toNat : Int) / 16 + 1) = (s[k].toNat : Int) / 16 + 1 := IntWalk.u8_in _ (by omega)
            have w2 : IntKind.u8.wrap ((s[k].toNat : Int) % 16 + 1) = (s[k].toNat : Int) % 16 + 1 := IntWalk.u8_in _ (by omega)
            have m1 : (s[k].toNat : Int) / 16 + 1 ≤ 16 := by omega
            have m2 : (s[k].toNat : Int) % 16 + 1 ≤ 16 := by omega
            by_cases p4 : (32 : Int) ≤ (s[k].toNat : Int)
            · have p5 : ¬ (s[k].toNat : Int) ≤ 126 := by omega
              go_wp2_with fail
              go_quiet (fail)
              go_wp2
              go_roundw
              case rel => exact ⟨k + 1, T ++ ⟨#[92, 120]⟩ ++ (⟨#[48, 49, 50, 51, 52, 53, 54, 55, 56, 57, 97, 98, 99, 100, 101, 102]⟩ : ByteArray).extract (s[k].toNat / 16) (s[k].toNat / 16 + 1) ++ (⟨#[48, 49, 50, 51, 52, 53, 54, 55, 56, 57, 97, 98, 99, 100, 101, 102]⟩ : ByteArray).extract (s[k].toNat % 16) (s[k].toNat % 16 + 1), by omega, rfl, by go_num, belowN HB.out nq, quote_next _ k T _ _ hlt HT.out HQ1.out (by rw [ByteArray.data_append, ByteArray.data_append, ByteArray.data_append, Array.toList_append, Array.toList_append, Array.toList_append, X1.out, X2.out]; simp)⟩
              case measure => simp [intOf]; omega
            · go_wp2_with fail
              go_quiet (fail)
              go_wp2
              go_roundw
              case rel => exact ⟨k + 1, T ++ ⟨#[92, 120]⟩ ++ (⟨#[48, 49, 50, 51, 52, 53, 54, 55, 56, 57, 97, 98, 99, 100, 101, 102]⟩ : ByteArray).extract (s[k].toNat / 16) (s[k].toNat / 16 + 1) ++ (⟨#[48, 49, 50, 51, 52, 53, 54, 55, 56, 57, 97, 98, 99, 100, 101, 102]⟩ : ByteArray).extract (s[k].toNat % 16) (s[k].toNat % 16 + 1), by omega, rfl, by go_num, belowN HB.out nq, quote_next _ k T _ _ hlt HT.out HQ1.out (by rw [ByteArray.data_append, ByteArray.data_append, ByteArray.data_append, Array.toList_append, Array.toList_append, Array.toList_append, X1.out, X2.out]; simp)⟩
              case measure => simp [intOf]; omega
    · obtain rfl : k = s.size := by omega
      have hX : T ++ ⟨#[34]⟩ = bsOf (Wo.quoteL s.data.toList) := by
        apply bs_ext
        rw [bsOf_list, ByteArray.data_append, Array.toList_append, HT.out, List.take_of_length_le (by exact Nat.le_refl _)]
        rfl
      have HX := Lib.hid hX
      clear hX
      go_wp2
      go_ret
      exact ⟨by rw [HX.out]; rfl, HB.out⟩
end Go.Proofs.YthbdnbeiafpkcaaDoor
