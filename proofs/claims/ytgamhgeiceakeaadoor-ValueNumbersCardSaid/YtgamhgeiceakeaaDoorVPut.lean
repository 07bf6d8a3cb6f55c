/- Put, by contract. -/
import Derived.Test.YtgamhgeiceakeaaDoorVInt
import Derived.Test.YtgamhgeiceakeaaDoorVRight
set_option linter.unusedVariables false
set_option linter.unusedSimpArgs false
namespace Go.Proofs.YtgamhgeiceakeaaDoor
open Go.RowKit
open Va (V)
theorem str_bytes (w : World) (s : ByteArray) : ∃ c W, (convert 9 26 (.string s)).run Tryd.prog w = .ok (.slice (some ⟨w.heap.size, 0, none⟩) s.size c) W ∧ Below w.heap.size w W ∧ Rd W (some ⟨w.heap.size, 0, none⟩) s.data.toList := by
  refine ⟨_, _, run_bytes_of_string (P := Tryd.prog) w 9 26 5 s Tryd.underlying9 Tryd.underlying26 Tryd.underlying5, (Below.refl _ _).drew.alloc (Nat.le_refl _) _, ?_⟩
  refine Or.inr ⟨w.heap.size, 0, rfl, by simp, fun i hi => ?_⟩
  have hi' : i < s.data.size := by simpa using hi
  rw [Nat.zero_add]
  have h := bytesRow_at s (grownCap w s.size 0 5) i hi'
  simp only [Array.getElem_toList]
  rw [← h]
  unfold World.cell?
  rw [show w.heap.size = w.drew.heap.size from rfl, heap_alloc_new]
  rfl
/-- put's own frame: what it is put to is the call's own, the value is told in an elder world -/
def PuP (v : V) : Prop := ∀ (ok : Nat → Prop) (W0 : World) (x : Value) (h : RV ok W0 v x) (w : World) (hw : Below W0.heap.size W0 w) (B : Nat) (hB : W0.heap.size ≤ B) (hBw : B ≤ w.heap.size) (u : Value) (r : List UInt8) (ho : Ow w B u r) (lv : Nat) (hr : Va.okV v lv = true) (hl : r.length + (Va.enc v).length ≤ 274877906944),
  Calls Tryd.prog 33 #[u, x] w (OwPost B u (r ++ Va.enc v) w)
set_option maxHeartbeats 1600000 in
set_option maxRecDepth 100000 in
theorem put_any : ∀ v, PuP v := V.ind fun k n s l ih => by
  intro ok W0 x h w hw B hB hBw u r ho lv hr hl
  obtain ⟨ba, cap, rfl, hk, hn, hs, hL⟩ := h.inv
  have hlen : l.length ≤ 9223372036854775807 := by have h1 := hL.le; have h2 := hL.max; simp only [maxLen] at h2; omega
  have HL := Lib.hid hL
  have hw0 := hw
  have HW0 := Lib.hid hw
  have hwB : W0.heap.size ≤ w.heap.size := hw.size
  have HW := Lib.hid hw
  have HO := Lib.hid ho
  have HRI := Lib.hid hr
  have HN := Lib.hid hn
  have hk' : (UInt8.ofNat k).toNat = k := by rw [UInt8.toNat_ofNat']; omega
  have hr1 : r.length ≤ 1099511627776 := by omega
  generalize hE : Va.enc (.mk k n s l) = E at hl ⊢
  have HE := Lib.hid hE
  clear h hL hw ho hr hn hE
  have hal : ∀ cs : Array Value, Below w.heap.size w (w.alloc (.cells cs 25)) := fun cs => (Below.refl _ _).alloc (Nat.le_refl _) _
  go_enter Tryd.func33, Tryd.ntmps33
  go_upto_region 1 with (fail)
  have F := Blk.new w #[.int .u8 k, .int .i64 n, .string s, .slice ba l.length cap] 25
  have hbw := hal #[.int .u8 k, .int .i64 n, .string s, .slice ba l.length cap]
  have hO1 := HO.out.past hbw
  generalize w.alloc (.cells #[.int .u8 k, .int .i64 n, .string s, .slice ba l.length cap] 25) = W at F hbw hO1 ⊢
  have hBW : B ≤ W.heap.size := Nat.le_trans hBw hbw.size
  have d0 := F.cell 0
  have hltW := F.lt
  go_wp2_with (at_builtin; refine wp_byte _ rfl _ _ rfl B _ r rfl hO1 _ (UInt8.ofNat k) (by rw [hk']) rfl (by omega) hBW ?_)
  intro v1 w1 ho1 hg1 hn1
  have F1 := F.kept hg1.grown (own_ne hO1 F (by decide))
  have HO1 := Lib.hid ho1
  have HG1 := Lib.hid (Gw.of hbw hg1 (fun i hi => (HO.out.lt i hi).2))
  have HN1 := Lib.hid hn1
  have HW1 := Lib.hid (Gw.less hw0 HG1.out hwB (fun i hi => Nat.le_trans hB (HO.out.lt i hi).1))
  have hBW1 : B ≤ w1.heap.size := Nat.le_trans hBW hg1.grown.size
  have HF1 := Lib.hid F1
  have c0 := F1.cell 0
  have c1 := F1.cell 1
  have c2 := F1.cell 2
  have c3 := F1.cell 3
  have hlt1 := F1.lt
  clear F F1 hbw d0 hltW hO1 hBW ho1 hg1 hn1 hw0
  by_cases k2 : k = 2
  · subst k2
    have he : E = UInt8.ofNat 2 :: [UInt8.ofNat n.toNat] := by rw [← HE.out]; unfold Va.enc; rfl
    subst he
    have hri := HRI.out
    unfold Va.okV at hri
    simp only [Nat.reduceEqDiff, if_false, if_true, Bool.and_eq_true, Bool.or_eq_true, beq_iff_eq] at hri
    have hn8 : n % 256 = ((UInt8.ofNat n.toNat).toNat : Nat) := by rw [UInt8.toNat_ofNat']; omega
    have HN8 := Lib.hid hn8
    clear hri hn8
    go_wp2_with (at_builtin; refine wp_byte _ rfl _ _ rfl B v1 (r ++ [UInt8.ofNat 2]) rfl HO1.out _ (UInt8.ofNat n.toNat) HN8.out rfl (by rw [List.length_append]; simp; omega) hBW1 ?_)
    intro v2 w2 ho2 hg2 hn2
    have HO2 := Lib.hid ho2
    have HG2 := Lib.hid (HG1.out.trans hg2)
    have HN2 := Lib.hid hn2
    clear ho2 hg2 hn2
    go_wp2
    go_ret
    exact ⟨v2, rfl, HO2.out, HG2.out, fun _ => HN2.out⟩
  by_cases k3 : k = 3
  · subst k3
    have he : E = UInt8.ofNat 3 :: By.blob s.data.toList := by rw [← HE.out]; unfold Va.enc; rfl
    subst he
    have hri := HRI.out
    unfold Va.okV at hri
    simp only [Nat.reduceEqDiff, if_false, if_true, Bool.and_eq_true, beq_iff_eq, decide_eq_true_eq] at hri
    have hs4 : s.size ≤ 4096 := hri.2.2
    clear hri
    obtain ⟨c5, W5, hcv, hb5, hrd5⟩ := str_bytes w1 s
    have hsl : s.data.toList.length = s.size := by rw [Array.length_toList]; rfl
    have C := Lib.hid (blobPut_any B v1 (r ++ [UInt8.ofNat 3]) (some ⟨w1.heap.size, 0, none⟩) s.size c5 s.data.toList W5 hsl hrd5 (fun e => by cases e) (HO1.out.past hb5) (Nat.le_trans hBW1 hb5.size) (by rw [List.length_append]; simp only [List.length_cons, List.length_nil] at hl ⊢; omega) (by omega) (fun i b o hi e _ => by cases e; have := (HO1.out.lt i hi).2; omega))
    have HB5 := Lib.hid hb5
    clear hb5 hrd5
    go_wp2_with fail
    refine (C.out).mono ?_
    rintro e w2 ⟨v2, rfl, ho2, hg2, hn2⟩
    have HO2 := Lib.hid ho2
    have HG2 := Lib.hid (HG1.out.trans (Gw.of HB5.out hg2 (fun i hi => (HO1.out.lt i hi).2)))
    have HN2 := Lib.hid hn2
    clear ho2 hg2 hn2
    go_wp2
    go_ret
    exact ⟨v2, rfl, by rw [← List.append_cons] at HO2; exact HO2.out, HG2.out, fun _ => HN2.out (by simp)⟩
  by_cases k4 : k = 4
  · subst k4
    have he : E = UInt8.ofNat 4 :: (By.uv l.length ++ Va.encL l) := by rw [← HE.out]; unfold Va.enc; rfl
    subst he
    have hri := HRI.out
    unfold Va.okV at hri
    simp only [Nat.reduceEqDiff, if_false, if_true, Bool.and_eq_true, beq_iff_eq, decide_eq_true_eq] at hri
    have HOKL := Lib.hid hri.2.2
    clear hri
    simp only [List.length_cons, List.length_append] at hl
    have C := Lib.hid (uint_any B v1 (r ++ [UInt8.ofNat 4]) l.length w1 (by omega) HO1.out hBW1 (by rw [List.length_append]; simp only [List.length_cons, List.length_nil]; omega))
    go_wp2_with fail
    refine (C.out).mono ?_
    rintro e w2 ⟨v2, rfl, ho2, hg2, hn2⟩
    have F2 : Blk w2 w.heap.size #[.int .u8 4, .int .i64 n, .string s, .slice ba l.length cap] 25 := HF1.out.kept hg2.grown (own_ne HO1.out HF1.out (by decide))
    have d3 := F2.cell 3
    have hlt2 := F2.lt
    have HO2 := Lib.hid ho2
    have HG2 := Lib.hid (HG1.out.trans hg2)
    have HN2 := Lib.hid (hn2 (by simp))
    clear ho2 hg2 hn2 F2 C
    go_wp2
    go_loopw [0, 40] (fun uu iv wr => ∃ (i : Nat), i ≤ l.length ∧ iv = .int .i64 i ∧ Ow wr B uu (r ++ [UInt8.ofNat 4] ++ By.uv l.length ++ Va.encL (l.take i)) ∧ Gw w wr u uu ∧ uu ≠ .slice none 0 0) (fun _ i _ => l.length - (intOf i).toNat)
    case atStart => exact ⟨0, by omega, rfl, by rw [List.take_zero]; exact (List.append_nil _).symm ▸ HO2.out, HG2.out, HN2.out⟩
    case round =>
      obtain ⟨i, hi, rfl, hor, hgr, hnr⟩ := hrel
      have HOR := Lib.hid hor
      have HGR := Lib.hid hgr
      have HNR := Lib.hid hnr
      have HWR := Lib.hid (Gw.less HW0.out hgr hwB (fun j hj => Nat.le_trans hB (HO.out.lt j hj).1))
      have hBR : B ≤ wr.heap.size := Nat.le_trans hBw hgr.grown.size
      clear hor hgr hnr
      by_cases hlt : i < l.length
      · obtain ⟨bb, o, x, hba, hok, h4, hrv⟩ := HL.out.at_ i hlt
        have h4' := h4.kept HWR.out.size (HWR.out.block bb h4.lt)
        have C0 := ih l[i] (List.getElem_mem hlt) ok W0 x hrv
        have hen : Va.encL (l.take (i + 1)) = Va.encL (l.take i) ++ Va.enc l[i] := by
          rw [List.take_succ_eq_append_getElem hlt, Va.encL_app]; congr 1; exact List.append_nil _
        have hle : (Va.encL (l.take (i + 1))).length ≤ (Va.encL l).length := by
          have := congrArg (fun t => (Va.encL t).length) (List.take_append_drop (i + 1) l)
          simp only [Va.encL_app, List.length_append] at this
          omega
        have hok2 : Va.okV l[i] (lv - 1) = true := (Va.okL_iff l (lv - 1)).1 HOKL.out _ (List.getElem_mem hlt)
        generalize l[i] = y at hrv C0 hen hok2
        obtain ⟨k2, n2, s2, l2⟩ := y
        obtain ⟨ba2, cap2, rfl, -, -, -, hL2⟩ := hrv.inv
        obtain ⟨hlt4, a1, a2, a3, a4, hx4, e1, e2, e3, e4⟩ := h4'
        cases hx4
        have hca2 := hL2.le
        subst hba
        have hj0 : (0 : Int) ≤ (i : Int) := by omega
        have hj1 : (i : Int) < (l.length : Int) := by omega
        have hal2 : Below wr.heap.size wr (wr.alloc (.cells #[.int .u8 k2, .int .i64 n2, .string s2, .slice ba2 l2.length cap2] 25)) := (Below.refl _ _).alloc (Nat.le_refl _) _
        have HAL2 := Lib.hid hal2
        rw [hen, List.length_append] at hle
        have C := Lib.hid (C0 (wr.alloc (.cells #[.int .u8 k2, .int .i64 n2, .string s2, .slice ba2 l2.length cap2] 25)) (HWR.out.trans (hal2.mono HWR.out.size)) B hB (Nat.le_trans hBR hal2.size) _ _ (HOR.out.past hal2) (lv - 1) hok2 (by simp only [List.length_append, List.length_cons, List.length_nil]; omega))
        have HEN := Lib.hid hen
        clear h4 hal2 hrv C0 hL2 hen hle hok2
        go_wp2_with fail
        refine (C.out).mono ?_
        rintro e w5 ⟨v5, rfl, ho5, hg5, hn5⟩
        have HO5 := Lib.hid ho5
        have HG5 := Lib.hid (HGR.out.trans (Gw.of HAL2.out hg5 (fun j hj => (HOR.out.lt j hj).2)))
        have HN5 := Lib.hid (hn5 (by simp))
        clear ho5 hg5 hn5 C
        go_wp2
        go_roundw
        case rel => exact ⟨i + 1, by omega, by go_num, by rw [HEN.out, ← List.append_assoc]; exact HO5.out, HG5.out, HN5.out⟩
        case measure => simp [intOf]; omega
      · obtain rfl : i = l.length := by omega
        rw [List.take_length] at HOR
        go_wp2
        go_ret
        exact ⟨_, rfl, by rw [List.append_cons]; simp only [List.append_assoc] at HOR ⊢; exact HOR.out, HGR.out, fun _ => HNR.out⟩
  · have q2 : ((k : Int) == 2) = false := bneI (by omega)
    have q3 : ((k : Int) == 3) = false := bneI (by omega)
    have q4 : ((k : Int) == 4) = false := bneI (by omega)
    have he : E = UInt8.ofNat k :: By.uv (Va.zg n) := by rw [← HE.out]; unfold Va.enc; rw [if_neg k2, if_neg k3, if_neg k4]
    subst he
    have C := Lib.hid (int_any B v1 (r ++ [UInt8.ofNat k]) n w1 HN.out HO1.out hBW1 (by rw [List.length_append]; simp only [List.length_cons, List.length_nil] at hl ⊢; omega))
    go_wp2_with fail
    refine (C.out).mono ?_
    rintro e w2 ⟨v2, rfl, ho2, hg2, hn2⟩
    have HO2 := Lib.hid ho2
    have HG2 := Lib.hid (HG1.out.trans hg2)
    have HN2 := Lib.hid hn2
    clear ho2 hg2 hn2
    go_wp2
    go_ret
    exact ⟨v2, rfl, by rw [← List.append_cons] at HO2; exact HO2.out, HG2.out, fun _ => HN2.out (by simp)⟩
end Go.Proofs.YtgamhgeiceakeaaDoor
