/- droverlaw08.WordsKeys: the walk. -/
import Derived.Test.YthbdnbeiafpkcaaDoorWKeysB
set_option linter.unusedVariables false
namespace Go.Proofs.YthbdnbeiafpkcaaDoor
open Go.RowKit
theorem keyA (k : Nat) (hk : k < 18) (w : World) (hw : LaidW w) : Calls Tryd.prog 10 #[.string (keyB k), .int .i64 0] w fun e w' => e = .returned (.tuple #[.agg #[.int .u8 4, .string (keyB k), .int .i64 0, .int .i64 1, .int .i64 0, .int .i64 (keyB k).size], .agg #[.int .i64 0, .int .i64 0]]) ∧ Below w.heap.size w w' := by
  have c := next_any (keyB k) 0 w hw (by have := key_size k hk; unfold maxLen; omega)
  rw [key_next k hk] at c
  unfold NextPost wordV at c
  rw [show (⟨(keyB k).data.toList.toArray⟩ : ByteArray) = keyB k from bs_back _] at c
  exact c
theorem keyU (k : Nat) (hk : k < 18) (w : World) (hw : LaidW w) : Calls Tryd.prog 10 #[.string (keyB k ++ ⟨#[95]⟩), .int .i64 0] w fun e w' => e = .returned (.tuple #[.agg #[.int .u8 3, .string (keyB k ++ ⟨#[95]⟩), .int .i64 0, .int .i64 1, .int .i64 0, .int .i64 ((keyB k).size + 1 : Nat)], .agg #[.int .i64 0, .int .i64 0]]) ∧ Below w.heap.size w w' := by
  have c := next_any (keyB k ++ ⟨#[95]⟩) 0 w hw (by have := key_size k hk; rw [ByteArray.size_append]; show (keyB k).size + 1 ≤ _; unfold maxLen; omega)
  have e : (keyB k ++ ⟨#[95]⟩).data.toList = (keyB k).data.toList ++ [95] := by rw [ByteArray.data_append, Array.toList_append]
  rw [e, key_under k hk, ← e] at c
  unfold NextPost wordV at c
  rw [show (⟨(keyB k ++ ⟨#[95]⟩).data.toList.toArray⟩ : ByteArray) = keyB k ++ ⟨#[95]⟩ from bs_back _] at c
  exact c
set_option maxHeartbeats 4000000 in
set_option maxRecDepth 100000 in
theorem keys_some (bb oo cap : Nat) (l : List UInt8) (x : Int) (w : World) (hl : LaidW w) (hbb : bb < w.heap.size) (hr : ∀ i (h : i < l.length), w.cell? ⟨bb, oo + i, none⟩ = some (.int .u8 (l[i].toNat))) (hs : l.length ≤ maxLen) : Calls Tryd.prog 6 #[.slice (some ⟨bb, oo, none⟩) l.length cap, .int .i64 x] w (TruePost w) := by
  have HW := Lib.hid hl
  have HR := Lib.hid hr
  clear hl hr
  go_enter Tryd.func6, Tryd.ntmps6
  go_wp2_with fail
  refine (fields_any _ ?_ _ ?_).mono ?_
  · rfl
  · exact HW.out.tab
  rintro e w1 ⟨rfl, rfl⟩
  go_wp2_with fail
  with_reducible refine (pick18 _ _).mono ?_
  rintro e w' ⟨k, hk, rfl, rfl⟩
  have hck : (w.alloc keysBlk).cell? ⟨w.heap.size, k, none⟩ = some (.string (keyB k)) := key_cell _ k _ (heap_alloc_new _ _) hk
  have b1 : (0 : Int) ≤ (k : Int) := by omega
  have b2 : (k : Int) < 18 := by omega
  have hHL := Lib.hid (HW.out.alloc keysBlk)
  have HB := Lib.hid ((Below.refl w.heap.size w).alloc (Nat.le_refl _) keysBlk)
  have hkb : (w.alloc keysBlk).heap[w.heap.size]? = some keysBlk := heap_alloc_new _ _
  have HK := Lib.hid hkb
  clear hkb
  generalize w.alloc keysBlk = w1 at hck hHL HB HK ⊢
  have hsz := key_size k hk
  have C1 := Lib.hid (keyA k hk)
  have C2 := Lib.hid (keyU k hk)
  generalize keyB k = y at hck hsz C1 C2
  go_wp2_with fail
  with_reducible refine (C1.out _ hHL.out).mono ?_
  rintro e w2 ⟨rfl, hb⟩
  have HW2 := Lib.hid (hHL.out.below hb (Nat.le_refl _))
  have HB2 := Lib.hid (HB.out.trans (hb.mono HB.out.size))
  have H1 := Lib.hid hb
  clear hb
  go_wp2_with fail
  with_reducible refine (C2.out _ ?_).mono ?_
  · exact (HW2.out.alloc _).alloc _
  rintro e w3 ⟨rfl, hb⟩
  obtain ⟨q1, q2, s1, s2, hb2⟩ := cells_two hb
  have HW3 := Lib.hid (((HW2.out.alloc _).alloc _).below hb (Nat.le_refl _))
  have HB3 := Lib.hid (HB2.out.trans (hb2.mono HB2.out.size))
  have H2 := Lib.hid (H1.out.trans (hb2.mono H1.out.size))
  have HR3 : Hid (∀ i (h : i < l.length), w3.cell? ⟨bb, oo + i, none⟩ = some (.int .u8 (l[i].toNat))) := Lib.hid (fun i h => by rw [HB3.out.cell (p := ⟨bb, oo + i, none⟩) hbb]; exact HR.out i h)
  have hbb3 : bb < w3.heap.size := Nat.lt_of_lt_of_le hbb HB3.out.size
  have HK3 : Hid (w3.heap[w.heap.size]? = some keysBlk) := Lib.hid (by
    have hlt : w.heap.size < w1.heap.size := (Array.getElem?_eq_some_iff.1 HK.out).1
    rw [H2.out.block _ hlt]; exact HK.out)
  clear hb hb2 hck
  obtain ⟨i0, hi, hz0, hz1, hz2⟩ := info_parts Tryd.info_u8
  go_wp2_with fail
  go_loopw [12, 13] (fun nv i wr => ∃ (j : Nat) (D : List UInt8), j ≤ l.length ∧ j ≤ 40 ∧ D.length = j ∧ i = .int .i64 j ∧ IsName D ∧ wr.ownsRow w3.heap.size 5 1 nv D.length (u8s D) ∧ Below w3.heap.size w3 wr ∧ (D = [] → nv = .slice none 0 0)) (fun _ i _ => 40 - (intOf i).toNat)
  case atStart => exact ⟨0, [], Nat.zero_le _, Nat.zero_le _, rfl, rfl, IsName.nil, World.ownsRow_nil _ _ _ _, ((Below.refl _ _).alloc (Nat.le_refl _) _).alloc (by simp) _, fun _ => rfl⟩
  case round =>
    obtain ⟨j, D, hj, hj40, hDl, rfl, hn, hown, hbel, hnil⟩ := hrel
    have HN := Lib.hid hn
    have HN0 := Lib.hid hn
    have HO := Lib.hid hown
    have HBB := Lib.hid hbel
    have HNIL := Lib.hid hnil
    have HDL := Lib.hid hDl
    have hsz : w3.heap.size ≤ wr.heap.size := hbel.size
    clear hn hown hbel hnil hDl
    by_cases hlt : j < l.length ∧ j < 40
    · obtain ⟨h1, h2⟩ := hlt
      have hcell := HR3.out j h1
      rw [← HBB.out.cell (p := ⟨bb, oo + j, none⟩) hbb3] at hcell
      generalize l[j] = c at hcell
      have hc : c.toNat < 256 := c.toNat_lt
      by_cases j0 : j = 0
      · subst j0
        obtain rfl : D = [] := List.eq_nil_of_length_eq_zero HDL.out
        obtain rfl := HNIL.out rfl
        rw [Nat.add_zero] at hcell
        have hn53 : c.toNat % 53 % 63 < 53 := by omega
        have hlet := sign_letter (c.toNat % 53 % 63) hn53
        have HLET := Lib.hid hlet
        clear hlet
        go_wp2_with (at_builtin; refine wpList_append_own _ rfl _ _ 36 rfl w3.heap.size 5 i0 (.int .u8 0) 1 1 Tryd.underlying36 hi hz0 hz1 hz2 rfl (by decide) _ _ _ rfl (HO.out.alloc _) ⟨wr.heap.size, 0, none⟩ 1 1 [.int .u8 ((nameSigns[c.toNat % 53 % 63]'(by show _ < 63; omega)).toNat : Int)] rfl rfl ?c1 ?c2 ?c3 ?c4 ?c5 ?_)
        case c1 =>
          intro j u hj
          match j, hj with
          | 0, hj => simp only [List.getElem?_cons_zero, Option.some.injEq] at hj; subst hj; exact cell_new1 _ _ _
        case c2 => intro u hu; simp only [List.mem_singleton] at hu; subst hu; rfl
        case c3 => simp; unfold maxLen; omega
        case c4 => simp
        case c5 => simp; omega
        intro v' w4 hown' hgrow hnn
        have hown1 : w4.ownsRow w3.heap.size 5 1 v' ([] ++ [nameSigns[c.toNat % 53 % 63]'(by show _ < 63; omega)]).length (u8s ([] ++ [nameSigns[c.toNat % 53 % 63]'(by show _ < 63; omega)])) := by rw [u8s_app, List.length_append]; exact hown'
        have hb1 : Below w3.heap.size w3 w4 := (HBB.out.alloc hsz _).grown hgrow (by simp; omega) (fun k hk => (HO.out.lt k hk).1)
        have HO1 := Lib.hid hown1
        have HB1 := Lib.hid hb1
        clear hown' hgrow hnn hown1 hb1
        go_wp2
        go_roundw
        case rel => exact ⟨1, _, by omega, by omega, by simp, by go_num, IsName.first _ HLET.out, HO1.out, HB1.out, (fun h => by cases h)⟩
        case measure => simp [intOf]
      · have hD : D ≠ [] := by intro h; rw [h] at HDL; exact j0 HDL.out.symm
        have k0 : ((j : Int) == 0) = false := bneI (by omega)
        have hal := sign_alnum (c.toNat % 63) (Nat.mod_lt _ (by decide))
        have HAL := Lib.hid hal
        have HD := Lib.hid hD
        have hl41 : D.length < 41 := by have := HDL.out; omega
        clear hal hD j0
        go_wp2_with (at_builtin; refine wpList_append_own _ rfl _ _ 36 rfl w3.heap.size 5 i0 (.int .u8 0) 1 1 Tryd.underlying36 hi hz0 hz1 hz2 rfl (by decide) _ _ _ rfl (HO.out.alloc _) ⟨wr.heap.size, 0, none⟩ 1 1 [.int .u8 ((nameSigns[c.toNat % 63]'(by show _ < 63; omega)).toNat : Int)] rfl rfl ?c1 ?c2 ?c3 ?c4 ?c5 ?_)
        case c1 =>
          intro j u hj
          match j, hj with
          | 0, hj => simp only [List.getElem?_cons_zero, Option.some.injEq] at hj; subst hj; exact cell_new1 _ _ _
        case c2 => intro u hu; simp only [List.mem_singleton] at hu; subst hu; rfl
        case c3 => unfold maxLen; omega
        case c4 => omega
        case c5 => simp; omega
        intro v' w4 hown' hgrow hnn
        have hown1 : w4.ownsRow w3.heap.size 5 1 v' (D ++ [nameSigns[c.toNat % 63]'(by show _ < 63; omega)]).length (u8s (D ++ [nameSigns[c.toNat % 63]'(by show _ < 63; omega)])) := by rw [u8s_app, List.length_append]; exact hown'
        have hb1 : Below w3.heap.size w3 w4 := (HBB.out.alloc hsz _).grown hgrow (by simp; omega) (fun k hk => (HO.out.lt k hk).1)
        have HO1 := Lib.hid hown1
        have HB1 := Lib.hid hb1
        clear hown' hgrow hnn hown1 hb1
        go_wp2
        go_roundw
        case rel => exact ⟨j + 1, _, by omega, by omega, by rw [List.length_append, HDL.out]; rfl, by go_num, HN.out.add HD.out _ HAL.out, HO1.out, HB1.out, (fun h => absurd (List.append_eq_nil_iff.1 h).1 HD.out)⟩
        case measure => simp [intOf]; omega
    · have HW4 := Lib.hid (HW3.out.below HBB.out (Nat.le_refl _))
      have HB4 := Lib.hid (HB3.out.trans (HBB.out.mono HB3.out.size))
      by_cases hD : D = []
      · obtain rfl := HNIL.out hD
        have j0 : j = 0 := by rw [← HDL.out, hD]; rfl
        subst j0
        have hlt2 : ¬ 0 < l.length := by omega
        clear hlt hD HNIL HDL HO HN
        go_wp2_with fail
        with_reducible refine (awake_any _ HW4.out).mono ?_
        rintro e w5 ⟨rfl, hb5⟩
        have HB5 := Lib.hid (HB4.out.trans (hb5.mono HB4.out.size))
        clear hb5
        go_wp2
        go_ret
        exact ⟨rfl, HB5.out⟩
      · have hD1 : 1 ≤ D.length := by
          cases D with
          | nil => exact absurd rfl hD
          | cons a r => simp
        have hD40 : D.length ≤ 40 := by have := HDL.out; omega
        have hnx := HN.out.next hD hD40
        have hcv := conv_own HO.out
        have HCV : Hid (∀ W, Below wr.heap.size wr W → (convert 36 9 u12).run Tryd.prog W = .ok (.string ⟨D.toArray⟩) W) := Lib.hid (fun W hW => conv_own (own_belowK HO.out hW))
        have HNX := Lib.hid hnx
        have hKr : wr.heap[w.heap.size]? = some keysBlk := by
          have : w.heap.size < w3.heap.size := Nat.lt_of_lt_of_le (Array.getElem?_eq_some_iff.1 HK.out).1 H2.out.size
          rw [HBB.out.block _ this]; exact HK3.out
        have HKC := Lib.hid (fun i hi => key_cell w.heap.size i wr hKr hi)
        have hd0 : ((D.length : Int) == 0) = false := bneI (by omega)
        obtain ⟨g, cap', rfl⟩ : ∃ g cap', u12 = Value.slice (some ⟨g, 0, none⟩) D.length cap' := by
          rcases HO.out.2 with ⟨_, h0⟩ | ⟨g, cap, cur, q1, _⟩
          · omega
          · exact ⟨g, cap, q1⟩
        clear hnx hKr HNIL
        have hwsz : w.heap.size < wr.heap.size := Nat.lt_of_lt_of_le (Nat.lt_of_lt_of_le (Array.getElem?_eq_some_iff.1 HK.out).1 H2.out.size) HBB.out.size
        have hx : (j < l.length ∧ ¬ j < 40) ∨ ¬ j < l.length := by omega
        have hbbr : g < wr.heap.size := (HO.out.lt g rfl).2
        clear hlt HO HN HDL HNX HR HR3 HK HK3 H1 H2 C1 C2 hHL HB HB2 HB3 HW HW2 HW3 hbb hbb3 q1 q2 s1 s2
        have HNX := Lib.hid (IsName.next HN0.out hD hD40)
        rcases hx with ⟨hx1, hx2⟩ | hx1
        all_goals
          go_wp2_with fail
          obtain ⟨wo, hwo⟩ : ∃ wo : World, wo = wr := ⟨_, rfl⟩
          subst hwo
          go_loopw [15, 104] (fun b i wq => ∃ q : Nat, q ≤ 18 ∧ i = .int .i64 q ∧ b = .bool ((Wo.keys.take q).contains D) ∧ Below wo.heap.size wo wq) (fun _ i _ => 18 - (intOf i).toNat)
          case atStart => exact ⟨0, by omega, rfl, rfl, Below.refl _ _⟩
          case round =>
            obtain ⟨q, hq, rfl, rfl, hbq⟩ := hrel
            have HBQ := Lib.hid hbq
            have hcvq := HCV.out _ hbq
            clear hbq
            by_cases hq18 : q < 18
            · have hckq : wr.cell? ⟨w.heap.size, q, none⟩ = some (.string (keyB q)) := by rw [HBQ.out.cell (p := ⟨w.heap.size, q, none⟩) hwsz]; exact HKC.out q hq18
              have hd := keys_take D q hq18
              generalize keyB q = z at hckq hd
              have HDq := Lib.hid hd
              clear hd
              cases hb : (Wo.keys.take q).contains D with
              | true =>
                have HX := Lib.hid (HDq.out.trans (by rw [hb]; rfl) : (Wo.keys.take (q + 1)).contains D = true)
                clear hb
                go_wp2_with fail
                exact ⟨⟨q + 1, by omega, by go_num, by rw [HX.out], HBQ.out⟩, by simp [intOf]; omega⟩
              | false =>
                by_cases e : z = ⟨D.toArray⟩
                · have HX := Lib.hid (HDq.out.trans (by rw [hb, e]; exact beq_self_eq_true D) : (Wo.keys.take (q + 1)).contains D = true)
                  have k1 : (z.toList == D) = true := by rw [e]; simp
                  clear hb e
                  go_wp2_with fail
                  exact ⟨⟨q + 1, by omega, by go_num, by rw [HX.out], HBQ.out⟩, by simp [intOf]; omega⟩
                · have e2 : (D == z.data.toList) = false := by rw [beq_eq_false_iff_ne]; intro h; exact e (bs_ext _ _ h.symm)
                  have HX := Lib.hid (HDq.out.trans (by rw [hb, e2]; rfl) : (Wo.keys.take (q + 1)).contains D = false)
                  have k1 : (z.toList == D) = false := by rw [ByteArray.toList_eq, beq_eq_false_iff_ne]; intro h; exact e (bs_ext _ _ h)
                  clear hb e e2
                  go_wp2_with fail
                  exact ⟨⟨q + 1, by omega, by go_num, by rw [HX.out], HBQ.out⟩, by simp [intOf]; omega⟩
            · obtain rfl : q = 18 := by omega
              have HW5 := Lib.hid (HW4.out.below HBQ.out (Nat.le_refl _))
              have HB5 := Lib.hid (HB4.out.trans (HBQ.out.mono HB4.out.size))
              have hnx := HNX.out
              have c3 := fun w' hw => next_any ⟨D.toArray⟩ 0 w' hw (by show D.length ≤ _; unfold maxLen; omega)
              rw [show (Wo.keys.take 18).contains D = Wo.keys.contains D from rfl]
              rw [show (⟨D.toArray⟩ : ByteArray).data.toList = D from rfl, hnx] at c3
              unfold NextPost wordV at c3
              simp only at c3
              have C3 := Lib.hid c3
              clear c3 hnx
              cases hkb : Wo.keys.contains D with
              | true =>
                rw [hkb] at C3
                simp only [if_true] at C3
                go_wp2_with fail
                with_reducible refine (C3.out _ HW5.out).mono ?_
                rintro e w6 ⟨rfl, hb6⟩
                have HB6 := Lib.hid (HBQ.out.trans (hb6.mono HBQ.out.size))
                have HB06 := Lib.hid (HB5.out.trans (hb6.mono HB5.out.size))
                have HW6 := Lib.hid (HW5.out.below hb6 (Nat.le_refl _))
                clear hb6
                have hcv6 : ∀ o o', (convert 36 9 (.slice (some ⟨g, 0, none⟩) D.length cap')).run Tryd.prog ((w6.alloc o).alloc o') = .ok (.string ⟨D.toArray⟩) ((w6.alloc o).alloc o') := fun o o' => HCV.out _ ((HB6.out.alloc HB6.out.size o).alloc (by have := HB6.out.size; simp; omega) o')
                go_wp2_with fail
                with_reducible refine (awake_any _ ?_).mono ?_
                · exact (HW6.out.alloc _).alloc _
                rintro e w7 ⟨rfl, hb7⟩
                have HB7 := Lib.hid (((HB06.out.alloc HB06.out.size _).alloc (by have := HB06.out.size; simp; omega) _).trans (hb7.mono (by have := HB06.out.size; simp; omega)))
                clear hb7
                go_wp2
                go_ret
                exact ⟨rfl, HB7.out⟩
              | false =>
                rw [hkb] at C3
                simp only [Bool.false_eq_true, if_false] at C3
                go_wp2_with fail
                with_reducible refine (C3.out _ HW5.out).mono ?_
                rintro e w6 ⟨rfl, hb6⟩
                have HB6 := Lib.hid (HBQ.out.trans (hb6.mono HBQ.out.size))
                have HB06 := Lib.hid (HB5.out.trans (hb6.mono HB5.out.size))
                have HW6 := Lib.hid (HW5.out.below hb6 (Nat.le_refl _))
                clear hb6
                have hcv6 : ∀ o o', (convert 36 9 (.slice (some ⟨g, 0, none⟩) D.length cap')).run Tryd.prog ((w6.alloc o).alloc o') = .ok (.string ⟨D.toArray⟩) ((w6.alloc o).alloc o') := fun o o' => HCV.out _ ((HB6.out.alloc HB6.out.size o).alloc (by have := HB6.out.size; simp; omega) o')
                go_wp2_with fail
                with_reducible refine (awake_any _ ?_).mono ?_
                · exact (HW6.out.alloc _).alloc _
                rintro e w7 ⟨rfl, hb7⟩
                have HB7 := Lib.hid (((HB06.out.alloc HB06.out.size _).alloc (by have := HB06.out.size; simp; omega) _).trans (hb7.mono (by have := HB06.out.size; simp; omega)))
                clear hb7
                go_wp2
                go_ret
                exact ⟨rfl, HB7.out⟩
set_option maxHeartbeats 4000000 in
set_option maxRecDepth 100000 in
theorem keys_nil (a : Option Addr) (cap : Nat) (x : Int) (w : World) (hl : LaidW w) : Calls Tryd.prog 6 #[.slice a 0 cap, .int .i64 x] w (TruePost w) := by
  have HW := Lib.hid hl
  clear hl
  go_enter Tryd.func6, Tryd.ntmps6
  go_wp2_with fail
  refine (fields_any _ ?_ _ ?_).mono ?_
  · rfl
  · exact HW.out.tab
  rintro e w1 ⟨rfl, rfl⟩
  go_wp2_with fail
  with_reducible refine (pick18 _ _).mono ?_
  rintro e w' ⟨k, hk, rfl, rfl⟩
  have hck : (w.alloc keysBlk).cell? ⟨w.heap.size, k, none⟩ = some (.string (keyB k)) := key_cell _ k _ (heap_alloc_new _ _) hk
  have b1 : (0 : Int) ≤ (k : Int) := by omega
  have b2 : (k : Int) < 18 := by omega
  have hHL := Lib.hid (HW.out.alloc keysBlk)
  have HB := Lib.hid ((Below.refl w.heap.size w).alloc (Nat.le_refl _) keysBlk)
  generalize w.alloc keysBlk = w1 at hck hHL HB ⊢
  have hsz := key_size k hk
  have C1 := Lib.hid (keyA k hk)
  have C2 := Lib.hid (keyU k hk)
  generalize keyB k = y at hck hsz C1 C2
  go_wp2_with fail
  with_reducible refine (C1.out _ hHL.out).mono ?_
  rintro e w2 ⟨rfl, hb⟩
  have HW2 := Lib.hid (hHL.out.below hb (Nat.le_refl _))
  have HB2 := Lib.hid (HB.out.trans (hb.mono HB.out.size))
  clear hb
  go_wp2_with fail
  with_reducible refine (C2.out _ ?_).mono ?_
  · exact (HW2.out.alloc _).alloc _
  rintro e w3 ⟨rfl, hb⟩
  obtain ⟨q1, q2, s1, s2, hb2⟩ := cells_two hb
  have HW3 := Lib.hid (((HW2.out.alloc _).alloc _).below hb (Nat.le_refl _))
  have HB3 := Lib.hid (HB2.out.trans (hb2.mono HB2.out.size))
  clear hb hb2 hck
  go_wp2_with fail
  go_loopw [12, 13] (fun nv i wr => nv = .slice none 0 0 ∧ i = .int .i64 0 ∧ Below w3.heap.size w3 wr) (fun _ i _ => 40 - (intOf i).toNat)
  case atStart => exact ⟨rfl, rfl, ((Below.refl _ _).alloc (Nat.le_refl _) _).alloc (by simp) _⟩
  case round =>
    obtain ⟨rfl, rfl, hbel⟩ := hrel
    have HW4 := Lib.hid (HW3.out.below hbel (Nat.le_refl _))
    have HB4 := Lib.hid (HB3.out.trans (hbel.mono HB3.out.size))
    clear hbel
    go_wp2_with fail
    with_reducible refine (awake_any _ HW4.out).mono ?_
    rintro e w5 ⟨rfl, hb5⟩
    have HB5 := Lib.hid (HB4.out.trans (hb5.mono HB4.out.size))
    clear hb5
    go_wp2
    go_ret
    exact ⟨rfl, HB5.out⟩
end Go.Proofs.YthbdnbeiafpkcaaDoor
