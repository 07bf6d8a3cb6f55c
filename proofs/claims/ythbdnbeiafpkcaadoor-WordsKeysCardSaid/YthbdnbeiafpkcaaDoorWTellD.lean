/- The document's own words: in, and one at a name. -/
import Derived.Test.YthbdnbeiafpkcaaDoorWTellC
set_option linter.unusedVariables false
namespace Go.Proofs.YthbdnbeiafpkcaaDoor
open Go.RowKit
theorem addP (B j : Nat) : (⟨B, 0, none⟩ : Addr).add j = ⟨B, j, none⟩ := by
  unfold Addr.add
  split
  · subst_vars; rfl
  · simp
def keyB (k : Nat) : ByteArray := ⟨(Wo.keys.getD k []).toArray⟩
theorem key_cell (b k : Nat) (w : World) (h : w.heap[b]? = some keysBlk) (hk : k < 18) : w.cell? ⟨b, k, none⟩ = some (.string (keyB k)) := by
  unfold keysBlk at h
  have hk' : k < Wo.keys.length := hk
  unfold keyB
  simp [World.cell?, h, List.getD, hk']
theorem keys_drop (x : List UInt8) (k : Nat) (hk : k < 18) : (Wo.keys.drop k).contains x = (x == (keyB k).data.toList || (Wo.keys.drop (k + 1)).contains x) := by
  have hk' : k < Wo.keys.length := hk
  rw [List.drop_eq_getElem_cons hk', List.contains_cons]
  have e : (keyB k).data.toList = Wo.keys[k] := by unfold keyB; simp [List.getD, hk']
  rw [e]
set_option maxRecDepth 100000 in
theorem in_any (x : ByteArray) (b : Nat) (w : World) (h : w.heap[b]? = some keysBlk) : Calls Tryd.prog 48 #[.string x, .slice (some ⟨b, 0, none⟩) 18 18] w fun e w' => e = .returned (.bool (Wo.keys.contains x.data.toList)) ∧ w = w' := by
  have HC := Lib.hid (fun k hk => key_cell b k w h hk)
  clear h
  go_enter Tryd.func48, Tryd.ntmps48
  go_wp2
  go_loop [5] (fun i => ∃ k : Nat, k ≤ 18 ∧ i = .int .i64 k ∧ Wo.keys.contains x.data.toList = (Wo.keys.drop k).contains x.data.toList) (fun i => 18 - (intOf i).toNat)
  case atStart => exact ⟨0, by omega, rfl, rfl⟩
  case round =>
    obtain ⟨k, hk, rfl, hall⟩ := hrel
    by_cases hlt : k < 18
    · have hck := HC.out k hlt
      have hck2 : w.cell? ((⟨b, 0, none⟩ : Addr).add k) = some (.string (keyB k)) := by rw [addP]; exact hck
      have hd := keys_drop x.data.toList k hlt
      generalize keyB k = y at hck hck2 hd
      have HA := Lib.hid (hall.trans hd)
      clear hall hd
      by_cases e : y = x
      · subst e
        have hx : Wo.keys.contains y.data.toList = true := by rw [HA.out]; simp
        have HX := Lib.hid hx
        clear hx
        go_wp2
        go_ret
        exact ⟨ret_bool (by have h := HX.out; simp only [List.contains_eq_mem] at h; exact h.symm), rfl⟩
      · have e2 : (x.data.toList == y.data.toList) = false := by rw [beq_eq_false_iff_ne]; intro h; exact e (bs_ext _ _ h.symm)
        have hx := HA.out
        rw [e2, Bool.false_or] at hx
        have HX := Lib.hid hx
        have k1 : (y.toList == x.toList) = false := by rw [ByteArray.toList_eq, ByteArray.toList_eq, beq_eq_false_iff_ne]; intro h; exact e (bs_ext _ _ h)
        clear hx e2
        go_wp2
        go_roundw
        case rel => exact ⟨k + 1, by omega, by go_num, HX.out⟩
        case measure => simp [intOf]; omega
    · obtain rfl : k = 18 := by omega
      have HX := Lib.hid (hall.trans (show (Wo.keys.drop 18).contains x.data.toList = false from rfl))
      clear hall
      go_wp2
      go_ret
      exact ⟨ret_bool (by have h := HX.out; simp only [List.contains_eq_mem] at h; exact h.symm), rfl⟩
theorem extractS (s : ByteArray) (a q : Nat) : (s.extract a q).data.toList = (s.data.toList.drop a).take (q - a) := by
  simp [ByteArray.extract, ByteArray.copySlice]
set_option maxHeartbeats 4000000 in
set_option maxRecDepth 100000 in
theorem one_name (s : ByteArray) (a : Nat) (w : World) (ha : a < s.size) (hs : s.size ≤ 1048576) (hd : Wo.isDigit s[a] = false) (hq : s[a].toNat ≠ 34) (hl : Wo.isLetter s[a] = true) :
    Calls Tryd.prog 23 #[.string s, .int .i64 a] w (OnePost (Wo.foundL (s.data.toList.drop a)) a w) := by
  have hf := foundL_cons s.data.toList a ha
  rw [if_neg (by rw [show s.data.toList[a] = s[a] from rfl, hd]; decide), if_neg (show ¬ s.data.toList[a].toNat = 34 from hq), if_pos (show Wo.isLetter s.data.toList[a] = true from hl)] at hf
  have hrun := Wo.runL_at Wo.alnum s.data.toList a ha
  rw [if_pos (show Wo.alnum s.data.toList[a] = true from by unfold Wo.alnum; rw [show s.data.toList[a] = s[a] from rfl, hl]; rfl)] at hrun
  have k34 : ((s[a].toNat : Int) == 34) = false := bneI (by omega)
  have HF := Lib.hid hf
  have HR := Lib.hid hrun
  have HD := Lib.hid hd
  have HL := Lib.hid hl
  clear hf hrun hd hl hq
  go_enter Tryd.func23, Tryd.ntmps23
  go_wp2_with fail
  with_reducible refine (rdigit_any _ _).mono ?_
  rintro e w' ⟨rfl, rfl⟩
  rw [HD.out]
  go_wp2_with fail
  with_reducible refine (rletter_any _ _).mono ?_
  rintro e w' ⟨rfl, rfl⟩
  rw [HL.out]
  go_wp2_with fail
  go_loop [6] (fun en => ∃ q : Nat, q ≤ s.size ∧ a ≤ q ∧ en = .int .i64 q ∧ a + Wo.runL Wo.alnum (s.data.toList.drop a) = q + Wo.runL Wo.alnum (s.data.toList.drop q)) (fun en => s.size - (intOf en).toNat)
  case atStart => exact ⟨a, by omega, Nat.le_refl _, rfl, rfl⟩
  case round =>
    obtain ⟨q, hk, haq, rfl, hr⟩ := hrel
    have HR1 := Lib.hid hr
    clear hr
    have hfin : Wo.runL Wo.alnum (s.data.toList.drop q) = 0 → Wo.foundL (s.data.toList.drop a) = ⟨if Wo.keys.contains (s.extract a q).data.toList then 4 else 3, (s.extract a q).data.toList, 0, q - a⟩ ∧ a < q := by
      intro h0
      have h2 := HR1.out
      rw [h0] at h2
      have h3 := HR.out
      have h4 := HF.out
      rw [show Wo.runL Wo.alnum (s.data.toList.drop a) = q - a by omega, ← extractS] at h4
      exact ⟨h4, by omega⟩
    by_cases hlt : q < s.size
    · have hrn := Wo.runL_at Wo.alnum s.data.toList q hlt
      change Wo.runL Wo.alnum (s.data.toList.drop q) = (if Wo.alnum s[q] then Wo.runL Wo.alnum (s.data.toList.drop (q + 1)) + 1 else 0) at hrn
      by_cases h1 : Wo.isLetter s[q] = true
      · rw [if_pos (by unfold Wo.alnum; rw [h1]; rfl)] at hrn
        have HRN := Lib.hid hrn
        have H1 := Lib.hid h1
        clear hrn h1 hfin
        go_wp2_with fail
        with_reducible refine (rletter_any _ _).mono ?_
        rintro e w' ⟨rfl, rfl⟩
        rw [H1.out]
        go_wp2
        go_roundw
        case rel => exact ⟨q + 1, by omega, by omega, by go_num, by have := HR1.out; have := HRN.out; omega⟩
        case measure => simp [intOf]; omega
      · have H1 := Lib.hid (Bool.eq_false_iff.2 h1)
        by_cases h2 : Wo.isDigit s[q] = true
        · rw [if_pos (by unfold Wo.alnum; rw [h2, Bool.or_true])] at hrn
          have HRN := Lib.hid hrn
          have H2 := Lib.hid h2
          clear hrn h1 h2 hfin
          go_wp2_with fail
          with_reducible refine (rletter_any _ _).mono ?_
          rintro e w' ⟨rfl, rfl⟩
          rw [H1.out]
          go_wp2_with fail
          with_reducible refine (rdigit_any _ _).mono ?_
          rintro e w' ⟨rfl, rfl⟩
          rw [H2.out]
          go_wp2
          go_roundw
          case rel => exact ⟨q + 1, by omega, by omega, by go_num, by have := HR1.out; have := HRN.out; omega⟩
          case measure => simp [intOf]; omega
        · have H2 := Lib.hid (Bool.eq_false_iff.2 h2)
          rw [if_neg (by unfold Wo.alnum; rw [H1.out, H2.out]; decide)] at hrn
          obtain ⟨hx, hlt2⟩ := hfin hrn
          have hin := fun b w h => in_any (s.extract a q) b w h
          have HX := Lib.hid hx
          have HI := Lib.hid hin
          clear hx hin hrn h1 h2 hfin
          go_wp2_with fail
          with_reducible refine (rletter_any _ _).mono ?_
          rintro e w' ⟨rfl, rfl⟩
          rw [H1.out]
          go_wp2_with fail
          with_reducible refine (rdigit_any _ _).mono ?_
          rintro e w' ⟨rfl, rfl⟩
          rw [H2.out]
          go_wp2_with fail
          with_reducible refine (HI.out _ _ ?_).mono ?_
          · rw [show w.heap.size + 1 + 1 = (w.alloc (.cells #[.int .u8 0, .string ⟨#[]⟩, .int .i64 0, .int .i64 0, .int .i64 0, .int .i64 0] 24)).heap.size + 1 by simp]; exact heap_two _ _
          rintro e w' ⟨rfl, rfl⟩
          cases hkb : Wo.keys.contains (s.extract a q).data.toList with
          | true =>
            have HX2 := Lib.hid (HX.out.trans (by rw [hkb]; rfl) : Wo.foundL (s.data.toList.drop a) = ⟨4, (s.extract a q).data.toList, 0, q - a⟩)
            clear hkb
            go_wp2
            exact bodyPost_ret (v := wordV 4 (s.extract a q).data.toList 0 0 a q) (by unfold wordV; rw [show (⟨(s.extract a q).data.toList.toArray⟩ : ByteArray) = s.extract a q from bs_back _]; simp [results, Tryd.results23, go_sem]) rfl ⟨one_some _ a q 4 _ 0 hlt2 HX2.out, (((Below.refl w.heap.size w).alloc (Nat.le_refl _) _).alloc (by simp) _).alloc (by simp; try omega) _⟩
          | false =>
            have HX2 := Lib.hid (HX.out.trans (by rw [hkb]; rfl) : Wo.foundL (s.data.toList.drop a) = ⟨3, (s.extract a q).data.toList, 0, q - a⟩)
            clear hkb
            go_wp2
            exact bodyPost_ret (v := wordV 3 (s.extract a q).data.toList 0 0 a q) (by unfold wordV; rw [show (⟨(s.extract a q).data.toList.toArray⟩ : ByteArray) = s.extract a q from bs_back _]; simp [results, Tryd.results23, go_sem]) rfl ⟨one_some _ a q 3 _ 0 hlt2 HX2.out, (((Below.refl w.heap.size w).alloc (Nat.le_refl _) _).alloc (by simp) _).alloc (by simp; try omega) _⟩
    · obtain rfl : q = s.size := by omega
      obtain ⟨hx, hlt2⟩ := hfin (by rw [List.drop_of_length_le (by exact Nat.le_refl _)]; rfl)
      have hin := fun b w h => in_any (s.extract a s.size) b w h
      have HX := Lib.hid hx
      have HI := Lib.hid hin
      clear hx hin hfin
      go_wp2_with fail
      with_reducible refine (HI.out _ _ ?_).mono ?_
      · rw [show w.heap.size + 1 + 1 = (w.alloc (.cells #[.int .u8 0, .string ⟨#[]⟩, .int .i64 0, .int .i64 0, .int .i64 0, .int .i64 0] 24)).heap.size + 1 by simp]; exact heap_two _ _
      rintro e w' ⟨rfl, rfl⟩
      cases hkb : Wo.keys.contains (s.extract a s.size).data.toList with
      | true =>
        have HX2 := Lib.hid (HX.out.trans (by rw [hkb]; rfl) : Wo.foundL (s.data.toList.drop a) = ⟨4, (s.extract a s.size).data.toList, 0, s.size - a⟩)
        clear hkb
        go_wp2
        exact bodyPost_ret (v := wordV 4 (s.extract a s.size).data.toList 0 0 a s.size) (by unfold wordV; rw [show (⟨(s.extract a s.size).data.toList.toArray⟩ : ByteArray) = s.extract a s.size from bs_back _]; simp [results, Tryd.results23, go_sem]) rfl ⟨one_some _ a s.size 4 _ 0 hlt2 HX2.out, (((Below.refl w.heap.size w).alloc (Nat.le_refl _) _).alloc (by simp) _).alloc (by simp; try omega) _⟩
      | false =>
        have HX2 := Lib.hid (HX.out.trans (by rw [hkb]; rfl) : Wo.foundL (s.data.toList.drop a) = ⟨3, (s.extract a s.size).data.toList, 0, s.size - a⟩)
        clear hkb
        go_wp2
        exact bodyPost_ret (v := wordV 3 (s.extract a s.size).data.toList 0 0 a s.size) (by unfold wordV; rw [show (⟨(s.extract a s.size).data.toList.toArray⟩ : ByteArray) = s.extract a s.size from bs_back _]; simp [results, Tryd.results23, go_sem]) rfl ⟨one_some _ a s.size 3 _ 0 hlt2 HX2.out, (((Below.refl w.heap.size w).alloc (Nat.le_refl _) _).alloc (by simp) _).alloc (by simp; try omega) _⟩
end Go.Proofs.YthbdnbeiafpkcaaDoor
