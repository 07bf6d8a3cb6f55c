/- The document's own words: said. -/
import Derived.Test.YthbdnbeiafpkcaaDoorWTellA
import Derived.Test.YthbdnbeiafpkcaaDoorWQuotes
set_option linter.unusedVariables false
namespace Go.Proofs.YthbdnbeiafpkcaaDoor
open Go.RowKit
namespace Wo
theorem esc_at (L : Bs) (k : Nat) (h : k < L.length) : esc (L.drop k) = if L[k].toNat = 34 ∨ L[k].toNat = 92 then (L[k], 1) else if L[k].toNat = 110 then (10, 1) else if L[k].toNat = 120 then escX (L.drop (k + 1)) else (0, 0) := by
  rw [List.drop_eq_getElem_cons h]; rfl
theorem esc_past (L : Bs) (k : Nat) (h : L.length ≤ k) : esc (L.drop k) = (0, 0) := by
  rw [List.drop_of_length_le h]; rfl
theorem escX_past (L : Bs) (k : Nat) (h : L.length ≤ k + 1) : escX (L.drop k) = (0, 0) := by
  have hl : (L.drop k).length ≤ 1 := by rw [List.length_drop]; omega
  match L.drop k, hl with
  | [], _ => rfl
  | [_], _ => rfl
  | _ :: _ :: _, h => simp at h
theorem escX_at (L : Bs) (k : Nat) (h : k + 1 < L.length) : escX (L.drop k) = (match hexv L[k], hexv L[k + 1] with
    | some x, some y => (UInt8.ofNat (16 * x + y), 3)
    | _, _ => (0, 0)) := by
  rw [List.drop_eq_getElem_cons (by omega : k < L.length), List.drop_eq_getElem_cons h]; rfl
end Wo
theorem cat1 (t s : ByteArray) (k : Nat) (h : k < s.size) : (t ++ s.extract k (k + 1)).data.toList = t.data.toList ++ [s[k]] := by
  rw [ByteArray.data_append, Array.toList_append, extract1 s k h]
theorem hexi_some (c : UInt8) (x : Nat) (h : Wo.hexv c = some x) : hexi c = x := by unfold hexi; rw [h]
theorem hexi_none (c : UInt8) (h : Wo.hexv c = none) : hexi c = -1 := by unfold hexi; rw [h]
def saidV (r : Option (List UInt8 × Nat)) : Value := match r with
  | some (o, n) => .tuple #[.string (bsOf o), .int .i64 ((n : Int) + 1), .bool true]
  | none => .tuple #[.string ⟨#[]⟩, .int .i64 0, .bool false]
def SaidPost (r : Option (List UInt8 × Nat)) (w : World) (e : Ending) (w' : World) : Prop := e = .returned (saidV r) ∧ Below w.heap.size w w'
theorem said_some (r : Option (List UInt8 × Nat)) (T : ByteArray) (j : Nat) (h : r = some (T.data.toList, j)) : Ending.returned (.tuple #[.string T, .int .i64 ((j : Int) + 1), .bool true]) = .returned (saidV r) := by
  rw [h]; unfold saidV; simp only [bs_back]
theorem said_none (r : Option (List UInt8 × Nat)) (h : r = none) : Ending.returned (.tuple #[.string ⟨#[]⟩, .int .i64 0, .bool false]) = .returned (saidV r) := by
  rw [h]; rfl
set_option maxHeartbeats 4000000 in
set_option maxRecDepth 100000 in
theorem said_any (s : ByteArray) (a : Nat) (w : World) (ha : a < s.size) (hs : s.size ≤ 1048576) : Calls Tryd.prog 46 #[.string s, .int .i64 a] w (SaidPost (Wo.txAt s.data.toList [] (a + 1)) w) := by
  go_enter Tryd.func46, Tryd.ntmps46
  go_wp2
  go_loopw [7, 8] (fun t i wr => ∃ (j : Nat) (T : ByteArray), 1 ≤ j ∧ j ≤ s.size ∧ T.size ≤ j ∧ t = .string T ∧ i = .int .i64 j ∧ Below w.heap.size w wr ∧ Wo.txAt s.data.toList [] (a + 1) = Wo.txAt s.data.toList T.data.toList j)
    (fun _ i _ => s.size + 1 - (intOf i).toNat)
  case atStart => exact ⟨a + 1, ⟨#[]⟩, by omega, by omega, Nat.zero_le _, rfl, by go_num, Below.refl _ _, rfl⟩
  case round =>
    obtain ⟨j, T, hj1, hj, hol, rfl, rfl, hbel, hall⟩ := hrel
    have HA := Lib.hid hall
    have HB := Lib.hid hbel
    have HL := Lib.hid hol
    clear hall hbel hol
    by_cases hlt : j < s.size
    · have hat := Wo.txAt_at s.data.toList T.data.toList j hlt hj1
      change Wo.txAt s.data.toList T.data.toList j = (if s[j].toNat = 34 then some (T.data.toList, j) else if s[j].toNat < 32 then none else if s[j].toNat = 92 then
        (if (Wo.esc (s.data.toList.drop (j + 1))).2 = 0 then none else Wo.txAt s.data.toList (T.data.toList ++ [(Wo.esc (s.data.toList.drop (j + 1))).1]) (j + (Wo.esc (s.data.toList.drop (j + 1))).2 + 1))
        else Wo.txAt s.data.toList (T.data.toList ++ [s[j]]) (j + 1)) at hat
      by_cases p1 : s[j].toNat = 34
      · rw [if_pos p1] at hat
        have HF := Lib.hid (HA.out.trans hat)
        have k1 : ((s[j].toNat : Int) == 34) = true := beqI (by omega)
        have k2 : ¬ ((s.size : Int) ≤ (j : Int)) := by omega
        clear hat p1
        go_wp2
        exact bodyPost_ret (v := .tuple #[.string T, .int .i64 ((j : Int) + 1), .bool true]) (by simp [results, Tryd.results46, go_sem]) rfl ⟨said_some _ _ _ HF.out, HB.out⟩
      · rw [if_neg p1] at hat
        have k1 : ((s[j].toNat : Int) == 34) = false := bneI (by omega)
        by_cases p2 : s[j].toNat < 32
        · rw [if_pos p2] at hat
          have HF := Lib.hid (HA.out.trans hat)
          have k2 : (s[j].toNat : Int) < 32 := by omega
          clear hat p1 p2
          go_wp2
          exact bodyPost_ret (v := .tuple #[.string ⟨#[]⟩, .int .i64 0, .bool false]) (by simp [results, Tryd.results46, go_sem]) rfl ⟨said_none _ HF.out, HB.out⟩
        · rw [if_neg p2] at hat
          have k2 : ¬ (s[j].toNat : Int) < 32 := by omega
          by_cases p3 : s[j].toNat = 92
          · rw [if_pos p3] at hat
            have k3 : ((s[j].toNat : Int) == 92) = true := beqI (by omega)
            clear p1 p2 p3
            by_cases e1 : j + 1 < s.size
            · have k4 : ¬ ((s.size : Int) ≤ (j : Int) + 1) := by omega
              have he := Wo.esc_at s.data.toList (j + 1) e1
              change Wo.esc (s.data.toList.drop (j + 1)) = (if s[j + 1].toNat = 34 ∨ s[j + 1].toNat = 92 then (s[j + 1], 1) else if s[j + 1].toNat = 110 then (10, 1) else if s[j + 1].toNat = 120 then Wo.escX (s.data.toList.drop (j + 1 + 1)) else (0, 0)) at he
              by_cases q1 : s[j + 1].toNat = 34 ∨ s[j + 1].toNat = 92
              · rw [he, if_pos q1] at hat
                have HT := Lib.hid (HA.out.trans hat)
                clear he hat
                rcases q1 with q1 | q1
                all_goals
                  first | (have k5 : ((s[j + 1].toNat : Int) == 34) = true := beqI (by omega); clear q1) | (have k5 : ((s[j + 1].toNat : Int) == 34) = false := bneI (by omega); have k6 : ((s[j + 1].toNat : Int) == 92) = true := beqI (by omega); clear q1)
                  have hL := HL.out
                  go_wp2
                  go_roundw
                  case rel => exact ⟨j + 2, T ++ s.extract (j + 1) (j + 2), by omega, by omega, by rw [ByteArray.size_append, ByteArray.size_extract]; omega, rfl, by go_num, HB.out, by rw [cat1 T s (j + 1) e1]; exact HT.out⟩
                  case measure => simp [intOf]; omega
              · have k5 : ((s[j + 1].toNat : Int) == 34) = false := bneI (by omega)
                have k6 : ((s[j + 1].toNat : Int) == 92) = false := bneI (by omega)
                rw [if_neg q1] at he
                clear q1
                by_cases q2 : s[j + 1].toNat = 110
                · rw [if_pos q2] at he
                  rw [he] at hat
                  have HT := Lib.hid (HA.out.trans hat)
                  have k7 : ((s[j + 1].toNat : Int) == 110) = true := beqI (by omega)
                  clear he hat q2
                  have hL := HL.out
                  go_wp2
                  go_roundw
                  case rel => exact ⟨j + 2, T ++ ⟨#[10]⟩, by omega, by omega, by rw [ByteArray.size_append]; show T.size + 1 ≤ _; omega, rfl, by go_num, HB.out, by rw [ByteArray.data_append, Array.toList_append]; exact HT.out⟩
                  case measure => simp [intOf]; omega
                · rw [if_neg q2] at he
                  have k7 : ((s[j + 1].toNat : Int) == 110) = false := bneI (by omega)
                  clear q2
                  by_cases q3 : s[j + 1].toNat = 120
                  · rw [if_pos q3] at he
                    have k8 : ((s[j + 1].toNat : Int) == 120) = true := beqI (by omega)
                    clear q3
                    by_cases e3 : j + 3 < s.size
                    · have k9 : ¬ ((s.size : Int) ≤ (j : Int) + 3) := by omega
                      have hx := Wo.escX_at s.data.toList (j + 2) (by show j + 3 < s.size; omega)
                      change Wo.escX (s.data.toList.drop (j + 1 + 1)) = (match Wo.hexv s[j + 2], Wo.hexv s[j + 3] with
                        | some x, some y => (UInt8.ofNat (16 * x + y), 3)
                        | _, _ => (0, 0)) at hx
                      rw [hx] at he
                      clear hx
                      cases h1 : Wo.hexv s[j + 2] with
                      | none =>
                        rw [h1] at he
                        rw [he, if_pos rfl] at hat
                        have HF := Lib.hid (HA.out.trans hat)
                        have x1 := hexi_none _ h1
                        clear he hat h1
                        go_wp2_with (go_at_call 60; refine (rhex_any _ _).mono ?_; rintro e w' ⟨rfl, rfl⟩)
                        exact bodyPost_ret (v := .tuple #[.string ⟨#[]⟩, .int .i64 0, .bool false]) (by simp [results, Tryd.results46, go_sem]) rfl ⟨said_none _ HF.out, HB.out⟩
                      | some x =>
                        have x1 := hexi_some _ _ h1
                        have xl := hexv_lt _ _ h1
                        cases h2 : Wo.hexv s[j + 3] with
                        | none =>
                          rw [h1, h2] at he
                          rw [he, if_pos rfl] at hat
                          have HF := Lib.hid (HA.out.trans hat)
                          have x2 := hexi_none _ h2
                          clear he hat h1 h2
                          go_wp2_with (go_at_call 60; refine (rhex_any _ _).mono ?_; rintro e w' ⟨rfl, rfl⟩)
                          exact bodyPost_ret (v := .tuple #[.string ⟨#[]⟩, .int .i64 0, .bool false]) (by simp [results, Tryd.results46, go_sem]) rfl ⟨said_none _ HF.out, HB.out⟩
                        | some y =>
                          rw [h1, h2] at he
                          rw [he] at hat
                          have HT := Lib.hid (HA.out.trans hat)
                          have x2 := hexi_some _ _ h2
                          have yl := hexv_lt _ _ h2
                          clear he hat h1 h2
                          have hL := HL.out
                          have hc : (((UInt8.ofNat (16 * x + y)).toNat : Nat) : Int) = 16 * (x : Int) + (y : Int) := by rw [UInt8.toNat_ofNat_of_lt' (by show 16 * x + y < 256; omega)]; omega
                          have m1 : (j : Int) + 2 < (s.size : Int) := by omega
                          have m2 : (j : Int) + 3 < (s.size : Int) := by omega
                          have m3 : j + 2 < s.size := by omega
                          have m5 : (0 : Int) ≤ (j : Int) + 2 := by omega
                          have m6 : (0 : Int) ≤ (j : Int) + 3 := by omega
                          have m4 : ¬ 9223372036854775807 < T.size + 1 := by omega
                          have hm : (16 * (x : Int) + (y : Int)) % 256 = 16 * (x : Int) + (y : Int) := by omega
                          have ho : (wr.alloc (.cells #[.int .u8 ((UInt8.ofNat (16 * x + y)).toNat : Int)] 5)).drew.ownsRow w.heap.size 5 1 (.slice (some ⟨wr.heap.size, 0, none⟩) 1 1) 1 (u8s [UInt8.ofNat (16 * x + y)]) := World.ownsRow_lit (size := 1) (base := w.heap.size) (e := 5) wr #[.int .u8 ((UInt8.ofNat (16 * x + y)).toNat : Int)] 1 HB.out.size (by decide) rfl
                          have hv := conv_own (l := [UInt8.ofNat (16 * x + y)]) ho
                          clear ho
                          rw [hc] at hv
                          clear hc
                          go_wp2_with (go_at_call 60; refine (rhex_any _ _).mono ?_; rintro e w' ⟨rfl, rfl⟩)
                          have m7 : (0 : Int) ≤ (j : Int) + 2 ∧ (j : Int) + 2 < (s.size : Int) := by omega
                          have m8 : (0 : Int) ≤ (j : Int) + 3 ∧ (j : Int) + 3 < (s.size : Int) := by omega
                          have w2 : IntKind.i64.wrap ((j : Int) + 2) = (j : Int) + 2 := IntWalk.i64_in _ (by omega)
                          have w3 : IntKind.i64.wrap ((j : Int) + 3) = (j : Int) + 3 := IntWalk.i64_in _ (by omega)
                          have w4 : IntKind.i64.wrap (16 * (x : Int)) = 16 * (x : Int) := IntWalk.i64_in _ (by omega)
                          have w5 : IntKind.i64.wrap (16 * (x : Int) + (y : Int)) = 16 * (x : Int) + (y : Int) := IntWalk.i64_in _ (by omega)
                          have w6 : IntKind.u8.wrap (16 * (x : Int) + (y : Int)) = 16 * (x : Int) + (y : Int) := IntWalk.u8_in _ (by omega)
                          have w7 : ((j : Int) + 2).toNat = j + 2 := by omega
                          have w8 : ((j : Int) + 3).toNat = j + 3 := by omega
                          go_region_with (first | (go_at_call 60; refine (rhex_any _ _).mono ?_; rintro e w' ⟨rfl, rfl⟩; try rw [x1]; try rw [x2]))
                          all_goals
                            go_wp2
                            go_roundw
                            case rel => exact ⟨j + 4, T ++ ⟨#[UInt8.ofNat (16 * x + y)]⟩, by omega, by omega, by rw [ByteArray.size_append]; show T.size + 1 ≤ _; omega, (by simp), by go_num, (HB.out.alloc HB.out.size _).drew, by rw [ByteArray.data_append, Array.toList_append]; exact HT.out⟩
                            case measure => simp [intOf]; omega
                    · have k9 : (s.size : Int) ≤ (j : Int) + 3 := by omega
                      rw [Wo.escX_past _ _ (by show s.size ≤ j + 3; omega)] at he
                      rw [he, if_pos rfl] at hat
                      have HF := Lib.hid (HA.out.trans hat)
                      clear he hat
                      go_wp2
                      exact bodyPost_ret (v := .tuple #[.string ⟨#[]⟩, .int .i64 0, .bool false]) (by simp [results, Tryd.results46, go_sem]) rfl ⟨said_none _ HF.out, HB.out⟩
                  · rw [if_neg q3] at he
                    rw [he, if_pos rfl] at hat
                    have HF := Lib.hid (HA.out.trans hat)
                    have k8 : ((s[j + 1].toNat : Int) == 120) = false := bneI (by omega)
                    clear he hat q3
                    go_wp2
                    exact bodyPost_ret (v := .tuple #[.string ⟨#[]⟩, .int .i64 0, .bool false]) (by simp [results, Tryd.results46, go_sem]) rfl ⟨said_none _ HF.out, HB.out⟩
            · have k4 : (s.size : Int) ≤ (j : Int) + 1 := by omega
              rw [Wo.esc_past _ _ (by show s.size ≤ _; omega), if_pos rfl] at hat
              have HF := Lib.hid (HA.out.trans hat)
              clear hat
              go_wp2
              exact bodyPost_ret (v := .tuple #[.string ⟨#[]⟩, .int .i64 0, .bool false]) (by simp [results, Tryd.results46, go_sem]) rfl ⟨said_none _ HF.out, HB.out⟩
          · rw [if_neg p3] at hat
            have k3 : ((s[j].toNat : Int) == 92) = false := bneI (by omega)
            have HT := Lib.hid (HA.out.trans hat)
            clear hat p1 p2 p3
            have hL := HL.out
            go_wp2
            go_roundw
            case rel => exact ⟨j + 1, T ++ s.extract j (j + 1), by omega, by omega, by rw [ByteArray.size_append, ByteArray.size_extract]; omega, rfl, by go_num, HB.out, by rw [cat1 _ _ _ hlt]; exact HT.out⟩
            case measure => simp [intOf]; omega
    · have HF := Lib.hid (HA.out.trans (Wo.txAt_end s.data.toList T.data.toList j (by show s.size ≤ j; omega)))
      have k2 : (s.size : Int) ≤ (j : Int) := by omega
      go_wp2
      exact bodyPost_ret (v := .tuple #[.string ⟨#[]⟩, .int .i64 0, .bool false]) (by simp [results, Tryd.results46, go_sem]) rfl ⟨said_none _ HF.out, HB.out⟩
end Go.Proofs.YthbdnbeiafpkcaaDoor
