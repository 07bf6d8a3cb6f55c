/- How a text is said, by contract. -/
import Derived.Test.YthbdnbeiafpkcaaDoorWEight
set_option linter.unusedVariables false
namespace Go.Proofs.YthbdnbeiafpkcaaDoor
open Go.RowKit
def Bld (w0 : World) (l : List UInt8) (wr : World) : Prop := Lib.IsBuilder 52 5 w0.heap.size w0.heap.size (Lib.byteCells l) wr ∧ Below w0.heap.size w0 wr
theorem bld_fresh (w : World) : Bld w [] (w.alloc (.cells #[.pointer none, .slice none 0 0] 52)) :=
  ⟨Lib.fresh_isBuilder _ _ w, (Below.refl w.heap.size w).alloc (Nat.le_refl _) _⟩
theorem wb_any (w0 : World) (l : List UInt8) (c : UInt8) (v : Int) (hv : v = (c.toNat : Int)) (wr : World) (h : Bld w0 l wr) (hl : l.length ≤ 100000000) :
    Calls Tryd.prog 24 #[.pointer (some ⟨w0.heap.size, 0, none⟩), .int .u8 v] wr fun e w' => e = .returned .nilIface ∧ Bld w0 (l ++ [c]) w' := by
  subst hv
  refine (writeByte_any w0.heap.size w0.heap.size _ (c.toNat : Int) wr h.1 (by rw [Lib.byteCells_length]; omega) h.2.size).mono fun e w' ⟨he, hb, hw⟩ => ⟨he, Or.inr ?_, h.2.trans hw⟩
  have : Lib.byteCells (l ++ [c]) = Lib.byteCells l ++ [.int .u8 (c.toNat : Int)] := by unfold Lib.byteCells; simp
  rw [this]; exact hb
theorem ws_any (w0 : World) (l : List UInt8) (s : ByteArray) (wr : World) (h : Bld w0 l wr) (hl : l.length + s.size ≤ 100000000) :
    Calls Tryd.prog 25 #[.pointer (some ⟨w0.heap.size, 0, none⟩), .string s] wr fun e w' => e = .returned (.tuple #[.int .i64 s.size, .nilIface]) ∧ Bld w0 (l ++ s.data.toList) w' := by
  refine (writeString_any w0.heap.size w0.heap.size _ s wr h.1 (by rw [Lib.byteCells_length]; omega) h.2.size).mono fun e w' ⟨he, hb, hw⟩ => ⟨he, Or.inr ?_, h.2.trans hw⟩
  have : Lib.byteCells (l ++ s.data.toList) = Lib.byteCells l ++ Lib.strCells s := by unfold Lib.byteCells Lib.strCells; simp
  rw [this]; exact hb
theorem wl_any (w0 : World) (l l' : List UInt8) (s : ByteArray) (hs : s.data.toList = l') (wr : World) (h : Bld w0 l wr) (hl : l.length + l'.length ≤ 100000000) :
    Calls Tryd.prog 25 #[.pointer (some ⟨w0.heap.size, 0, none⟩), .string s] wr fun e w' => e = .returned (.tuple #[.int .i64 s.size, .nilIface]) ∧ Bld w0 (l ++ l') w' := by
  subst hs
  exact ws_any w0 l s wr h (by have : s.data.toList.length = s.size := rfl; omega)
theorem extract1 (s : ByteArray) (k : Nat) (h : k < s.size) : (s.extract k (k + 1)).data.toList = [s[k]] := by
  have h' : k < s.data.toList.length := h
  have e : (s.extract k (k + 1)).data.toList = (s.data.toList.drop k).take 1 := by
    simp [ByteArray.extract, ByteArray.copySlice, List.take_drop]
  rw [e, List.drop_eq_getElem_cons h']; rfl
theorem cat_back (s : ByteArray) (k : Nat) (h : k < s.size) : ((⟨#[92]⟩ : ByteArray) ++ s.extract k (k + 1)).data.toList = [92, s[k]] := by
  rw [ByteArray.data_append, Array.toList_append, extract1 s k h]; rfl
theorem hex_index (n : Nat) (h : n < 16) : (⟨#[48, 49, 50, 51, 52, 53, 54, 55, 56, 57, 97, 98, 99, 100, 101, 102]⟩ : ByteArray)[n]'(by exact h) = Wo.hexd n := by
  have : ∀ n : Fin 16, (⟨#[48, 49, 50, 51, 52, 53, 54, 55, 56, 57, 97, 98, 99, 100, 101, 102]⟩ : ByteArray)[n.val]'(by exact n.isLt) = Wo.hexd n.val := by decide
  exact this ⟨n, h⟩
theorem string_any (w0 : World) (l : List UInt8) (wr : World) (h : Bld w0 l wr) :
    Calls Tryd.prog 26 #[.pointer (some ⟨w0.heap.size, 0, none⟩)] wr fun e w' => e = .returned (.string ⟨l.toArray⟩) ∧ Below w0.heap.size w0 w' :=
  (Tryd.Builder_String_any w0.heap.size w0.heap.size l wr h.1 h.2.size).mono fun e w' ⟨he, hw⟩ => ⟨he, h.2.trans hw⟩
def QuotePost (l : List UInt8) (w : World) (e : Ending) (w' : World) : Prop := e = .returned (.string ⟨(Wo.quoteL l).toArray⟩) ∧ Below w.heap.size w w'
theorem quoteB_le (l : List UInt8) : (Wo.quoteB l).length ≤ 4 * l.length := by
  induction l with
  | nil => exact Nat.le_refl _
  | cons c l ih =>
    have : Wo.quoteB (c :: l) = Wo.quote1 c ++ Wo.quoteB l := rfl
    rw [this, List.length_append, List.length_cons]
    have : (Wo.quote1 c).length ≤ 4 := by unfold Wo.quote1; split <;> (try split) <;> (try split) <;> simp
    omega
theorem quoteB_at (l : List UInt8) (k : Nat) (h : k < l.length) : Wo.quoteB (l.take (k + 1)) = Wo.quoteB (l.take k) ++ Wo.quote1 l[k] := by
  unfold Wo.quoteB; rw [List.take_succ_eq_append_getElem h, List.flatMap_append]; simp
set_option maxHeartbeats 2000000 in
set_option maxRecDepth 100000 in
theorem quote_any (s : ByteArray) (w : World) (hs : s.size ≤ 1048576) : Calls Tryd.prog 12 #[.string s] w (QuotePost s.data.toList w) := by
  have hb0 := bld_fresh w
  have HB0 := Lib.hid hb0
  clear hb0
  go_enter Tryd.func12, Tryd.ntmps12
  go_wp2_with fail
  with_reducible refine (wb_any w [] 34 34 rfl _ HB0.out (by simp)).mono ?_
  rintro e w1 ⟨rfl, hb1⟩
  have HB1 := Lib.hid hb1
  clear hb1
  go_wp2_with fail
  go_loopw [9] (fun i wr => ∃ k : Nat, k ≤ s.size ∧ i = .int .i64 k ∧ Bld w (34 :: Wo.quoteB (s.data.toList.take k)) wr) (fun i _ => s.size - (intOf i).toNat)
  case atStart => exact ⟨0, Nat.zero_le _, rfl, HB1.out⟩
  case round =>
    obtain ⟨k, hk, rfl, hb⟩ := hrel
    have HB := Lib.hid hb
    have hql := quoteB_le (s.data.toList.take k)
    have htl : (s.data.toList.take k).length ≤ k := List.length_take_le _ _
    have hlen : (34 :: Wo.quoteB (s.data.toList.take k)).length ≤ 4 * s.size + 1 := by rw [List.length_cons]; omega
    clear hb hql htl
    by_cases hlt : k < s.size
    · have hq := quoteB_at s.data.toList k hlt
      change Wo.quoteB (s.data.toList.take (k + 1)) = Wo.quoteB (s.data.toList.take k) ++ Wo.quote1 s[k] at hq
      have HQ := Lib.hid hq
      have hc : s[k].toNat < 256 := s[k].toNat_lt
      by_cases p1 : s[k].toNat = 34 ∨ s[k].toNat = 92
      · have hq1 : Wo.quote1 s[k] = [92, s[k]] := by unfold Wo.quote1; rw [if_pos p1]
        have HQ1 := Lib.hid hq1
        clear hq hq1
        rcases p1 with p1 | p1
        all_goals
          first | (have k1 : ((s[k].toNat : Int) == 34) = true := beqI (by omega); clear p1) | (have k1 : ((s[k].toNat : Int) == 34) = false := bneI (by omega); have k2 : ((s[k].toNat : Int) == 92) = true := beqI (by omega); clear p1)
          go_wp2_with fail
          refine (wl_any w _ [92, s[k]] _ (cat_back s k hlt) _ HB.out (by simp only [List.length_cons, List.length_nil] at *; omega)).mono ?_
          rintro e w2 ⟨rfl, hb2⟩
          have HB2 := Lib.hid hb2
          clear hb2
          go_wp2
          go_roundw
          case rel => exact ⟨k + 1, by omega, by go_num, by rw [HQ.out, HQ1.out]; exact HB2.out⟩
          case measure => simp [intOf]; omega
      · have k1 : ((s[k].toNat : Int) == 34) = false := bneI (by omega)
        have k2 : ((s[k].toNat : Int) == 92) = false := bneI (by omega)
        clear hq
        by_cases p2 : s[k].toNat = 10
        · have hq1 : Wo.quote1 s[k] = [92, 110] := by unfold Wo.quote1; rw [if_neg p1, if_pos p2]
          have HQ1 := Lib.hid hq1
          have k3 : ((s[k].toNat : Int) == 10) = true := beqI (by omega)
          clear hq1 p1 p2
          go_wp2_with fail
          refine (wl_any w _ [92, 110] _ rfl _ HB.out (by simp only [List.length_cons, List.length_nil] at *; omega)).mono ?_
          rintro e w2 ⟨rfl, hb2⟩
          have HB2 := Lib.hid hb2
          clear hb2
          go_wp2
          go_roundw
          case rel => exact ⟨k + 1, by omega, by go_num, by rw [HQ.out, HQ1.out]; exact HB2.out⟩
          case measure => simp [intOf]; omega
        · have k3 : ((s[k].toNat : Int) == 10) = false := bneI (by omega)
          by_cases p3 : 32 ≤ s[k].toNat ∧ s[k].toNat ≤ 126
          · have hq1 : Wo.quote1 s[k] = [s[k]] := by unfold Wo.quote1; rw [if_neg p1, if_neg p2, if_pos p3]
            have HQ1 := Lib.hid hq1
            obtain ⟨p4, p5⟩ := p3
            clear hq1 p1 p2
            go_wp2_with fail
            refine (wb_any w _ s[k] _ ?_ _ HB.out (by omega)).mono ?_
            · rfl
            rintro e w2 ⟨rfl, hb2⟩
            have HB2 := Lib.hid hb2
            clear hb2
            go_wp2
            go_roundw
            case rel => exact ⟨k + 1, by omega, by go_num, by rw [HQ.out, HQ1.out]; exact HB2.out⟩
            case measure => simp [intOf]; omega
          · have hq1 : Wo.quote1 s[k] = [92, 120, Wo.hexd (s[k].toNat / 16), Wo.hexd (s[k].toNat % 16)] := by unfold Wo.quote1; rw [if_neg p1, if_neg p2, if_neg p3]
            have HQ1 := Lib.hid hq1
            clear hq1 p1 p2
            by_cases p4 : 32 ≤ s[k].toNat
            · have p5 : 126 < s[k].toNat := by omega
              clear p3
              go_wp2_with fail
              refine (wl_any w _ [92, 120] _ rfl _ HB.out (by simp only [List.length_cons, List.length_nil] at *; omega)).mono ?_
              rintro e w2 ⟨rfl, hb2⟩
              have HB2 := Lib.hid hb2
              clear hb2
              go_wp2_with fail
              refine (wb_any w _ (Wo.hexd (s[k].toNat / 16)) _ ?_ _ HB2.out (by simp only [List.length_append, List.length_cons, List.length_nil] at *; omega)).mono ?_
              · rw [hex_index _ (by omega)]
              rintro e w3 ⟨rfl, hb3⟩
              have HB3 := Lib.hid hb3
              clear hb3
              go_wp2_with fail
              refine (wb_any w _ (Wo.hexd (s[k].toNat % 16)) _ ?_ _ HB3.out (by simp only [List.length_append, List.length_cons, List.length_nil] at *; omega)).mono ?_
              · rw [hex_index _ (by omega)]
              rintro e w4 ⟨rfl, hb4⟩
              have HB4 := Lib.hid hb4
              clear hb4
              go_wp2
              go_roundw
              case rel => exact ⟨k + 1, by omega, by go_num, by rw [HQ.out, HQ1.out]; have := HB4.out; simpa using this⟩
              case measure => simp [intOf]; omega
            · have p5 : s[k].toNat < 32 := by omega
              clear p3
              go_wp2_with fail
              refine (wl_any w _ [92, 120] _ rfl _ HB.out (by simp only [List.length_cons, List.length_nil] at *; omega)).mono ?_
              rintro e w2 ⟨rfl, hb2⟩
              have HB2 := Lib.hid hb2
              clear hb2
              go_wp2_with fail
              refine (wb_any w _ (Wo.hexd (s[k].toNat / 16)) _ ?_ _ HB2.out (by simp only [List.length_append, List.length_cons, List.length_nil] at *; omega)).mono ?_
              · rw [hex_index _ (by omega)]
              rintro e w3 ⟨rfl, hb3⟩
              have HB3 := Lib.hid hb3
              clear hb3
              go_wp2_with fail
              refine (wb_any w _ (Wo.hexd (s[k].toNat % 16)) _ ?_ _ HB3.out (by simp only [List.length_append, List.length_cons, List.length_nil] at *; omega)).mono ?_
              · rw [hex_index _ (by omega)]
              rintro e w4 ⟨rfl, hb4⟩
              have HB4 := Lib.hid hb4
              clear hb4
              go_wp2
              go_roundw
              case rel => exact ⟨k + 1, by omega, by go_num, by rw [HQ.out, HQ1.out]; have := HB4.out; simpa using this⟩
              case measure => simp [intOf]; omega
    · obtain rfl : k = s.size := by omega
      go_wp2_with fail
      with_reducible refine (wb_any w _ 34 34 rfl _ HB.out (by omega)).mono ?_
      rintro e w2 ⟨rfl, hb2⟩
      have HB2 := Lib.hid hb2
      clear hb2
      go_wp2_with fail
      with_reducible refine (string_any w _ _ HB2.out).mono ?_
      rintro e w3 ⟨rfl, hb3⟩
      have HB3 := Lib.hid hb3
      clear hb3
      go_wp2
      go_ret
      exact ⟨by rw [List.take_of_length_le (by have : s.data.toList.length = s.size := rfl; omega)]; rfl, HB3.out⟩
end Go.Proofs.YthbdnbeiafpkcaaDoor
