/- PROVED: Rows.SessionWindowSaid: for every input droverlaw07.SessionWindow hands back true, and its arguments read as they did. No condition. Of what waits the first eight are sent, in order, till they are acknowledged. -/
import Derived.Test.YtndfelbgppbncaaComD
/- SessionWindow: the walk. -/
set_option linter.unusedVariables false
set_option linter.unusedSimpArgs false
namespace Go.Proofs.Ytndfelbgppbncaa
open Go.RowKit
theorem pk_rd {w : World} {B : Nat} {b : Option Addr} {c : Nat} {l : List UInt8} (h : Ow w B (.slice b l.length c) l) : Rd w b l ∧ (b = none → l.length = 0) ∧ l.length ≤ c := by
  obtain ⟨ba, cap, e, hr, hn, hc⟩ := h.rd
  cases e; exact ⟨hr, hn, hc⟩
theorem pkL_len (me life : Nat) (last : Int) (done : Nat) (D : List (List UInt8)) : (pkL me life last done D).length = max (min D.length 8) 1 := by
  unfold pkL
  by_cases h : D = []
  · subst h; rfl
  · rw [if_neg h]
    have := List.length_pos_iff.2 h
    simp; omega
/-- the k-th packet behind f acknowledgements -/
def winPk (D : List (List UInt8)) (f k : Nat) : By.Pk := if h : f + k < D.length then ⟨0, 3, f + k + 1, 0, D[f + k]⟩ else ⟨0, 3, 0, 0, []⟩
theorem pkL_at (D : List (List UInt8)) (f k : Nat) (hf : f ≤ D.length) (h : k < (pkL 0 3 (D.length : Int) 0 (D.drop f)).length) : (pkL 0 3 (D.length : Int) 0 (D.drop f))[k] = By.pack (winPk D f k) := by
  have hl := pkL_len 0 3 (D.length : Int) 0 (D.drop f)
  rw [hl, List.length_drop] at h
  unfold winPk
  by_cases hd : D.drop f = []
  · have h0 : D.length ≤ f := by simpa using hd
    rw [dif_neg (by omega)]
    have hk : k = 0 := by omega
    subst hk
    unfold pkL
    simp only [if_pos hd, List.getElem_cons_zero]
  · have h0 : f < D.length := by
      rcases Nat.lt_or_ge f D.length with h | h
      · exact h
      · exact absurd (by simpa using h) hd
    rw [dif_pos (by omega)]
    unfold pkL
    simp only [if_neg hd, List.getElem_mapIdx, List.getElem_take, List.getElem_drop, List.length_drop]
    congr 2
    omega
theorem pkL_atn (D : List (List UInt8)) (n f k : Nat) (hn : D.length = n) (hf : f ≤ n) (h : k < (pkL 0 3 (n : Int) 0 (D.drop f)).length) : (pkL 0 3 (n : Int) 0 (D.drop f))[k] = By.pack (winPk D f k) := by
  subst hn; exact pkL_at D f k hf h
theorem win_right {D : List (List UInt8)} {f k : Nat} (hD : ∀ d ∈ D, d.length ≤ 20) (hl : D.length ≤ 40) : (winPk D f k).right := by
  unfold winPk
  split
  · rename_i h
    have := hD _ (List.getElem_mem h)
    unfold By.Pk.right By.top; simp; omega
  · unfold By.Pk.right By.top; simp
def WinRel (w : World) (p n : Nat) (M : List Bt) (all : Value) (fv iv : Value) (wr : World) : Prop :=
  ∃ (i f : Nat) (pl : Int), i ≤ n + 1 ∧ i ≤ 21 ∧ iv = .int .i64 i ∧ f ≤ M.length ∧ fv = .int .i64 f ∧ pl ≤ 1 ∧ Ss wr w.heap.size p 0 1 3 M.length 0 0 pl ((datas M).drop f) ∧ Ls wr w.heap.size all M ∧ Below w.heap.size w wr
set_option maxHeartbeats 3200000 in
set_option maxRecDepth 100000 in
theorem window_true (ba bb : Option Addr) (cap nb cb : Nat) (M0 : List Bt) (lb : List UInt8) (w : World) (h : Lr w ba M0) (hb : In w bb nb lb) (hm : M0.length ≤ 9223372036854775807) (hnb : nb ≤ 9223372036854775807)
    (hA : ∀ w, Calls Try.prog 26 #[] w fun e w' => e = .returned (.bool true) ∧ Below w.heap.size w w') :
    Calls Try.prog 5 #[.slice ba M0.length cap, .slice bb nb cb] w (TruePost w) := by
  have CF := Lib.hid (filled_any 3 ba cap M0 w h (by omega) hm)
  have HA := Lib.hid hA
  have HB := Lib.hid hb
  clear h hb hA hm
  go_enter Try.func5, Try.ntmps5
  go_wp2_with fail
  with_reducible refine (CF.out).mono ?_
  rintro e w1 ⟨p, g, c, M, rfl, hM, hs1, hl1, hb1⟩
  have hMl : M.length ≤ 40 := by
    have := congrArg List.length hM
    unfold datas fl at this
    rw [List.length_map] at this
    rw [this]
    exact Nat.le_trans (List.length_filter_le _ _) (by rw [List.length_take]; omega)
  have hMd : ∀ d ∈ datas M, d.length ≤ 20 := fun d hd => by
    rw [hM] at hd; unfold fl at hd; have := (List.mem_filter.1 hd).2; simpa using this
  have hDl : (datas M).length = M.length := by unfold datas; simp
  have HS1 := Lib.hid hs1
  have HL1 := Lib.hid hl1
  have HB1 := Lib.hid hb1
  have HMD := Lib.hid hMd
  have HDL := Lib.hid hDl
  clear hM hs1 hl1 hb1 hMd hDl CF
  go_wp2
  go_loopw [8, 9] (fun fv iv wr => WinRel w p nb M (.slice g M.length c) fv iv wr) (fun _ i _ => nb + 1 - (intOf i).toNat)
  case atStart => exact ⟨0, 0, 0, by omega, by omega, rfl, by omega, rfl, by omega, by simpa using HS1.out, HL1.out, HB1.out⟩
  case round =>
    obtain ⟨i, f, pl, hi, hi21, rfl, hf, rfl, hpl, hsr, hlr, hbr⟩ := hrel
    have HSR := Lib.hid hsr
    have HLR := Lib.hid hlr
    have HBR := Lib.hid hbr
    have hdd : ((datas M).drop f).length = M.length - f := by rw [List.length_drop, HDL.out]
    obtain ⟨r, hr1, hr2⟩ : ∃ r : Nat, (M.length : Int) - (f : Int) = (r : Nat) ∧ M.length - f = r := ⟨M.length - f, by omega, rfl⟩
    have hr3 : f + r ≤ M.length := by omega
    rw [hr2] at hdd
    have HDD := Lib.hid hdd
    have HR2 := Lib.hid hr2
    clear hlr hbr hdd hr2
    by_cases hx : i ≤ nb ∧ i ≤ 20
    · obtain ⟨hx1, hx2⟩ := hx
      have hx3 : (i : Int) ≤ (nb : Int) := by omega
      have hx4 : (i : Int) ≤ 20 := by omega
      have hds : ∀ d ∈ (datas M).drop f, d.length ≤ 1048576 := fun d hd => by have := HMD.out d (List.mem_of_mem_drop hd); omega
      have CK := Lib.hid (fun W (hW : Ss W w.heap.size p 0 1 3 M.length 0 0 pl ((datas M).drop f)) => ss_packets p w.heap.size 0 1 3 M.length 0 0 pl 0 3 0 ((datas M).drop f) W hW rfl rfl rfl (by omega) (by omega) (by omega) (by omega) hds (by have := HDD.out; omega))
      clear hsr hds
      go_wp2_with fail
      with_reducible refine (CK.out _ HSR.out).mono ?_
      rintro e w2 ⟨N1, g1, c1, rfl, hN1, hl1, hb1⟩
      have HS2 := Lib.hid (HSR.out.below hb1)
      have HL2 := Lib.hid (HLR.out.below hb1)
      have HB2 := Lib.hid (HBR.out.trans (hb1.mono HBR.out.size))
      have HN1 := Lib.hid hN1
      have HP2 := Lib.hid hl1
      clear hl1 hb1 hN1
      go_wp2_with fail
      with_reducible refine (CK.out _ HS2.out).mono ?_
      rintro e w3 ⟨N2, g2, c2, rfl, hN2, hl2, hb2⟩
      have HS3 := Lib.hid (HS2.out.below hb2)
      have HL3 := Lib.hid (HL2.out.below hb2)
      have HB3 := Lib.hid (HB2.out.trans (hb2.mono HB2.out.size))
      have HP3 := Lib.hid (HP2.out.below hb2)
      have HP3b := Lib.hid hl2
      have HN2 := Lib.hid hN2
      clear hl2 hb2 hN2 CK
      go_wp2_with fail
      have CW : Calls Try.prog 15 #[.pointer (some ⟨p, 0, none⟩)] w3 fun e w' => e = .returned (.int .i64 r) ∧ w3 = w' := by
        have := ss_waiting p w.heap.size 0 1 3 M.length 0 0 pl _ _ HS3.out
        rwa [HDD.out] at this
      have CW2 := Lib.hid CW
      clear CW
      with_reducible refine (CW2.out).mono ?_
      rintro e w4 ⟨rfl, rfl⟩
      have hN1l : N1.length = max (min r 8) 1 := by
        have h1 := congrArg List.length HN1.out
        rw [List.length_map, pkL_len, HDD.out] at h1; exact h1
      have HN1L := Lib.hid hN1l
      have CP := Lib.hid (by
        obtain ⟨g1', c1', e1, hr1, q1⟩ := HP3.out.lr
        obtain ⟨g2', c2', e2, hr2, q2⟩ := HP3b.out.lr
        cases e1; cases e2
        have h1 := congrArg List.length HN1.out
        have h2 := congrArg List.length HN2.out
        rw [List.length_map] at h1 h2
        exact packets_same g1 g2 c1 c2 N1 N2 w3 hr1 hr2 (by omega) (by rw [h2, ← h1]; omega) (by unfold datas; rw [HN1.out, HN2.out]))
      clear hN1l
      go_wp2_with fail
      with_reducible refine (CP.out).mono ?_
      rintro e w5 ⟨rfl, hb5⟩
      have HS5 := Lib.hid (HS3.out.below hb5)
      have HL5 := Lib.hid (HL3.out.below hb5)
      have HB5 := Lib.hid (HB3.out.trans (hb5.mono HB3.out.size))
      have HP5 := Lib.hid (HP3.out.below hb5)
      clear hb5 CP HP3 HP3b HS3 HL3 HB3 HL2 HB2 HS2 HP2 HN2
      obtain ⟨m1, hm1, hm2⟩ : ∃ m1 : Nat, (if (8 : Int) < (r : Int) then (8 : Int) else (r : Int)) = (m1 : Nat) ∧ (if (m1 : Int) < 1 then (1 : Int) else (m1 : Int)) = (N1.length : Nat) := ⟨min r 8, by split <;> omega, by have := HN1L.out; split <;> omega⟩
      have hb0 : Below w.heap.size w w5 := HB5.out
      go_wp2_with fail
      clear hm1 hm2
      obtain ⟨wo, hwo⟩ : ∃ wo : World, wo = w5 := ⟨_, rfl⟩
      subst hwo
      go_loopw [12] (fun kv wr => ∃ k : Nat, k ≤ N1.length ∧ kv = .int .i64 k ∧ Below wo.heap.size wo wr) (fun k _ => N1.length - (intOf k).toNat)
      case atStart => exact ⟨0, by omega, rfl, Below.refl _ _⟩
      case round =>
        obtain ⟨k, hk, rfl, hbk⟩ := hrel
        have HBK := Lib.hid hbk
        have HP6 := Lib.hid (HP5.out.below hbk)
        have HL6 := Lib.hid (HL5.out.below hbk)
        have HS6 := Lib.hid (HS5.out.below hbk)
        clear hbk
        by_cases hk2 : k < N1.length
        · obtain ⟨g1', c1', e1, hr1', q1⟩ := HP6.out.lr
          cases e1
          obtain ⟨b1, o1, rfl, l1, d1⟩ := hr1'.at_ k hk2
          have hrd := hr1'.rd _ (List.getElem_mem hk2)
          have hni := hr1'.nil _ (List.getElem_mem hk2)
          have hcp := hr1'.cap _ (List.getElem_mem hk2)
          have hdk : N1[k].data = By.pack (winPk (datas M) f k) := by
            have h1 : (N1.map Bt.data)[k]? = some N1[k].data := by simp [hk2]
            rw [HN1.out] at h1
            obtain ⟨h2, h3⟩ := List.getElem?_eq_some_iff.1 h1
            rw [← h3]
            exact pkL_atn (datas M) M.length f k HDL.out hf h2
          unfold Bt.cell at d1
          generalize N1[k] = y at d1 hrd hni hcp hdk
          obtain ⟨yb, yc, yd⟩ := y
          simp only at d1 hrd hni hcp hdk
          have hrt := win_right (D := datas M) (f := f) (k := k) HMD.out (by rw [HDL.out]; exact hMl)
          subst hdk
          have hj0 : (0 : Int) ≤ (k : Int) := by omega
          have hj1 : (k : Int) < (N1.length : Int) := by omega
          have CU := Lib.hid (unpack_packed yb _ yc (winPk (datas M) f k) wr hrt rfl hrd hni hcp)
          clear hr1' q1 hrd hni hcp hrt
          by_cases hfk : f + k < M.length
          · have hwp : winPk (datas M) f k = ⟨0, 3, f + k + 1, 0, (datas M)[f + k]'(by rw [HDL.out]; exact hfk)⟩ := by unfold winPk; rw [dif_pos (by rw [HDL.out]; exact hfk)]
            obtain ⟨g2', c2', e2, hr2', q2⟩ := HL6.out.lr
            cases e2
            obtain ⟨b2, o2, rfl, l2, d2⟩ := hr2'.at_ (f + k) hfk
            have hrd2 := hr2'.rd _ (List.getElem_mem hfk)
            have hni2 := hr2'.nil _ (List.getElem_mem hfk)
            have hdd2 : (datas M)[f + k]'(by rw [HDL.out]; exact hfk) = M[f + k].data := by unfold datas; simp
            rw [hdd2] at hwp
            have CU2 := Lib.hid CU.out
            rw [hwp] at CU2
            rw [hwp] at d1
            unfold Bt.cell at d2
            generalize M[f + k] = z at d1 d2 hrd2 hni2 CU2
            obtain ⟨zb, zc, zd⟩ := z
            simp only at d1 d2 hrd2 hni2 CU2
            have HRD2 := Lib.hid hrd2
            have HNI2 := Lib.hid hni2
            have hj2 : (f : Int) + (k : Int) < (M.length : Int) := by omega
            have hj3 : (0 : Int) ≤ (f : Int) + (k : Int) := by omega
            clear CU hwp hdd2 hr2' q2 hrd2 hni2
            go_wp2_with fail
            with_reducible refine (CU2.out).mono ?_
            rintro e w6 ⟨v6, rfl, ho6, hb6⟩
            obtain ⟨b6, c6, rfl, _, _, _⟩ := ho6.rd
            have h7a := (Blk.new w6 #[.int .i64 0, .int .i64 3, .int .i64 ((f : Int) + (k : Int) + 1), .int .i64 0, .slice b6 zd.length c6] 34).below ((Below.refl _ _).alloc (Nat.le_refl _) (.cells #[.int .i64 0, .int .i64 3, .int .i64 0, .int .i64 0, .slice none 0 0] 34))
            have h7b := Blk.new (w6.alloc (.cells #[.int .i64 0, .int .i64 3, .int .i64 ((f : Int) + (k : Int) + 1), .int .i64 0, .slice b6 zd.length c6] 34)) #[.int .i64 0, .int .i64 3, .int .i64 0, .int .i64 0, .slice none 0 0] 34
            have h7c : Below w6.heap.size w6 ((w6.alloc (.cells #[.int .i64 0, .int .i64 3, .int .i64 ((f : Int) + (k : Int) + 1), .int .i64 0, .slice b6 zd.length c6] 34)).alloc (.cells #[.int .i64 0, .int .i64 3, .int .i64 0, .int .i64 0, .slice none 0 0] 34)) := ((Below.refl _ _).alloc (Nat.le_refl _) _).alloc (by simp) _
            have e7 : (w6.alloc (.cells #[.int .i64 0, .int .i64 3, .int .i64 ((f : Int) + (k : Int) + 1), .int .i64 0, .slice b6 zd.length c6] 34)).heap.size = w6.heap.size + 1 := by simp
            rw [e7] at h7b
            have h7d := own_below ho6 h7c
            have h7e : Below wr.heap.size wr ((w6.alloc (.cells #[.int .i64 0, .int .i64 3, .int .i64 ((f : Int) + (k : Int) + 1), .int .i64 0, .slice b6 zd.length c6] 34)).alloc (.cells #[.int .i64 0, .int .i64 3, .int .i64 0, .int .i64 0, .slice none 0 0] 34)) := hb6.trans (h7c.mono hb6.size)
            have hq5 : wr.heap.size ≤ w6.heap.size := hb6.size
            clear ho6 hb6 h7c e7
            go_wp2_with fail
            refine (?_ : ∀ W7 : World, Blk W7 w6.heap.size #[.int .i64 0, .int .i64 3, .int .i64 ((f : Int) + (k : Int) + 1), .int .i64 0, .slice b6 zd.length c6] 34 → Blk W7 (w6.heap.size + 1) #[.int .i64 0, .int .i64 3, .int .i64 0, .int .i64 0, .slice none 0 0] 34 → Ow W7 wr.heap.size (.slice b6 zd.length c6) zd → Below wr.heap.size wr W7 → Code.wp _ _ _ _ W7) _ h7a h7b h7d h7e
            clear h7a h7b h7d h7e
            intro W7 h7a h7b h7d h7e
            have hq6 : w6.heap.size < w6.heap.size + 1 := by omega
            generalize w6.heap.size + 1 = q5 at h7b hq6 ⊢
            generalize w6.heap.size = q4 at h7a hq5 hq6 ⊢
            have d7 : W7.cell? ⟨b2, o2 + (f + k), none⟩ = some (.slice zb zd.length zc) := by rw [h7e.cell (p := ⟨b2, o2 + (f + k), none⟩) l2]; exact d2
            have g1 := grown_set (grown_set (grown_refl W7 (some q5)) 2 (.int .i64 ((f : Int) + (k : Int) + 1))) 4 (.slice zb zd.length zc)
            have h8b := (h7b.set 2 (.int .i64 ((f : Int) + (k : Int) + 1))).set 4 (.slice zb zd.length zc)
            have h8a := h7a.kept g1 (fun e => by have := Option.some.inj e; omega)
            have h8e : Below wr.heap.size wr ((W7.setCell ⟨q5, 2, none⟩ (.int .i64 ((f : Int) + (k : Int) + 1))).setCell ⟨q5, 4, none⟩ (.slice zb zd.length zc)) := below_row h7e g1 h7e.size (fun k hk => by have := Option.some.inj hk; omega)
            have h8d := own_kept h7d g1 (fun k hk e => own_ne h7d h7b (by decide) (e.trans hk.symm))
            obtain ⟨W8, hW8⟩ : ∃ W8, W8 = ((W7.setCell ⟨q5, 2, none⟩ (.int .i64 ((f : Int) + (k : Int) + 1))).setCell ⟨q5, 4, none⟩ (.slice zb zd.length zc)).drew := ⟨_, rfl⟩
            have hdr : Below ((W7.setCell ⟨q5, 2, none⟩ (.int .i64 ((f : Int) + (k : Int) + 1))).setCell ⟨q5, 4, none⟩ (.slice zb zd.length zc)).heap.size ((W7.setCell ⟨q5, 2, none⟩ (.int .i64 ((f : Int) + (k : Int) + 1))).setCell ⟨q5, 4, none⟩ (.slice zb zd.length zc)) W8 := by rw [hW8]; exact (Below.refl _ _).drew
            have h8a := h8a.below hdr
            have h8b := Blk.below h8b hdr
            have h8d := own_below h8d hdr
            have h8e := h8e.trans (hdr.mono h8e.size)
            obtain ⟨r8, n8, _⟩ := pk_rd h8d
            have hb2q : b2 < q5 := by omega
            have CS : Calls Try.prog 25 #[.agg #[.int .i64 0, .int .i64 3, .int .i64 ((f : Int) + (k : Int) + 1), .int .i64 0, .slice b6 zd.length c6], .agg #[.int .i64 0, .int .i64 3, .int .i64 ((f : Int) + (k : Int) + 1), .int .i64 0, .slice zb zd.length zc]] W8 (BB true W8) := by
              have := samePacket_any 0 3 ((f : Int) + (k : Int) + 1) 0 0 3 ((f : Int) + (k : Int) + 1) 0 b6 zb zd.length zd.length c6 zc zd zd W8 rfl r8 n8 rfl (HRD2.out.below h8e) HNI2.out
              rwa [show (eq4 0 3 ((f : Int) + (k : Int) + 1) 0 0 3 ((f : Int) + (k : Int) + 1) 0 && (zd == zd)) = true from by unfold eq4; simp] at this
            have z0 := h7b.cell 2
            have z1 := h7b.cell 4
            have zf := fun o => h7b.free o
            have zl := h7b.lt
            have y0 := h8a.cell 0
            have y1 := h8a.cell 1
            have y2 := h8a.cell 2
            have y3 := h8a.cell 3
            have y4 := h8a.cell 4
            have x0 := h8b.cell 0
            have x1 := h8b.cell 1
            have x2 := h8b.cell 2
            have x3 := h8b.cell 3
            have x4 := h8b.cell 4
            have H8E := Lib.hid h8e
            have HCS := Lib.hid CS
            have HY := Lib.hid (And.intro y0 (And.intro y1 (And.intro y2 (And.intro y3 (And.intro y4 (And.intro x0 (And.intro x1 (And.intro x2 (And.intro x3 x4)))))))))
            have w1 : IntKind.i64.wrap ((f : Int) + (k : Int)) = (f : Int) + (k : Int) := IntWalk.i64_in _ (by omega)
            have w2 : IntKind.i64.wrap ((f : Int) + (k : Int) + 1) = (f : Int) + (k : Int) + 1 := IntWalk.i64_in _ (by omega)
            have w3 : ((f : Int) + (k : Int)).toNat = f + k := by omega
            have HW8 := Lib.hid hW8
            clear h7a h7b h7d h7e g1 h8a h8b h8d h8e r8 n8 CS y0 y1 y2 y3 y4 x0 x1 x2 x3 x4 hW8 hdr
            refine wp_region_T_drew (fun w' => w'.cell? ⟨b2, o2 + (f + k), none⟩ = some (.slice zb zd.length zc)) 13 (by kernel_rfl) d7 (fun hS => ?_)
            refine wpAnyT_take 0 rfl (by kernel_rfl) (by kernel_rfl) (by decide) (by kernel_rfl) (by kernel_rfl) (fun _ _ _ h => h) hS (by kernel_rfl) (v := ?_) ?_ ?_
            rotate_left
            · intro w' hSw; (try dsimp only at hSw); go_simp; (try with_reducible rfl)
            simp only [Act.put, List.setIfInBounds_toArray, List.set_cons_zero, List.set_cons_succ]
            refine wpAnyT_take 1 rfl (by kernel_rfl) (by kernel_rfl) (by decide) (by kernel_rfl) (by kernel_rfl) (fun _ _ _ h => h) hS (by kernel_rfl) (v := ?_) ?_ ?_
            rotate_left
            · intro w' hSw; (try dsimp only at hSw); go_simp; (try with_reducible rfl)
            simp only [Act.put, List.setIfInBounds_toArray, List.set_cons_zero, List.set_cons_succ]
            refine wpAnyT_take 2 rfl (by kernel_rfl) (by kernel_rfl) (by decide) (by kernel_rfl) (by kernel_rfl) (fun _ _ _ h => h) hS (by kernel_rfl) (v := ?_) ?_ ?_
            rotate_left
            · intro w' hSw; (try dsimp only at hSw); go_simp; (try with_reducible rfl)
            simp only [Act.put, List.setIfInBounds_toArray, List.set_cons_zero, List.set_cons_succ]
            refine wpAnyT_take 3 rfl (by kernel_rfl) (by kernel_rfl) (by decide) (by kernel_rfl) (by kernel_rfl) (fun _ _ _ h => h) hS (by kernel_rfl) (v := ?_) ?_ ?_
            rotate_left
            · intro w' hSw; (try dsimp only at hSw); go_simp; (try with_reducible rfl)
            simp only [Act.put, List.setIfInBounds_toArray, List.set_cons_zero, List.set_cons_succ]
            refine wpAnyT_take 4 rfl (by kernel_rfl) (by kernel_rfl) (by decide) (by kernel_rfl) (by kernel_rfl) (fun _ _ _ h => h) hS (by kernel_rfl) (v := ?_) ?_ ?_
            rotate_left
            · intro w' hSw; (try dsimp only at hSw); go_simp; (try with_reducible rfl)
            simp only [Act.put, List.setIfInBounds_toArray, List.set_cons_zero, List.set_cons_succ]
            refine wpAnyT_take 5 rfl (by kernel_rfl) (by kernel_rfl) (by decide) (by kernel_rfl) (by kernel_rfl) (fun _ _ _ h => h) hS (by kernel_rfl) (v := ?_) ?_ ?_
            rotate_left
            · intro w' hSw; (try dsimp only at hSw); go_simp; (try with_reducible rfl)
            simp only [Act.put, List.setIfInBounds_toArray, List.set_cons_zero, List.set_cons_succ]
            refine wpAnyT_take 6 rfl (by kernel_rfl) (by kernel_rfl) (by decide) (by kernel_rfl) (by kernel_rfl) (fun _ _ _ h => h) hS (by kernel_rfl) (v := ?_) ?_ ?_
            rotate_left
            · intro w' hSw; (try dsimp only at hSw); go_simp; (try with_reducible rfl)
            simp only [Act.put, List.setIfInBounds_toArray, List.set_cons_zero, List.set_cons_succ]
            refine wpAnyT_take 7 rfl (by kernel_rfl) (by kernel_rfl) (by decide) (by kernel_rfl) (by kernel_rfl) (fun _ _ _ h => h) hS (by kernel_rfl) (v := ?_) ?_ ?_
            rotate_left
            · intro w' hSw; (try dsimp only at hSw); go_simp; (try with_reducible rfl)
            simp only [Act.put, List.setIfInBounds_toArray, List.set_cons_zero, List.set_cons_succ]
            refine wpAnyT_take 8 rfl (by kernel_rfl) (by kernel_rfl) (by decide) (by kernel_rfl) (by kernel_rfl) (fun _ _ _ h => h) hS (by kernel_rfl) (v := ?_) ?_ ?_
            rotate_left
            · intro w' hSw; (try dsimp only at hSw); go_simp; (try with_reducible rfl)
            simp only [Act.put, List.setIfInBounds_toArray, List.set_cons_zero, List.set_cons_succ]
            refine wpAnyT_take 9 rfl (by kernel_rfl) (by kernel_rfl) (by decide) (by kernel_rfl) (by kernel_rfl) (fun _ _ _ h => h) hS (by kernel_rfl) (v := ?_) ?_ ?_
            rotate_left
            · intro w' hSw; (try dsimp only at hSw); go_simp; (try with_reducible rfl)
            simp only [Act.put, List.setIfInBounds_toArray, List.set_cons_zero, List.set_cons_succ]
            refine wpAnyT_take 10 rfl (by kernel_rfl) (by kernel_rfl) (by decide) (by kernel_rfl) (by kernel_rfl) (fun _ _ _ h => h) hS (by kernel_rfl) (v := ?_) ?_ ?_
            rotate_left
            · intro w' hSw; (try dsimp only at hSw); go_simp; (try with_reducible rfl)
            simp only [Act.put, List.setIfInBounds_toArray, List.set_cons_zero, List.set_cons_succ]
            refine wpAnyT_one 11 (by kernel_rfl) rfl (by kernel_rfl) (fun K hK => ?_)
            go_simp
            have hS : (W7.setCell ⟨q5, 2, none⟩ (.int .i64 ((f : Int) + (k : Int) + 1))).drew.cell? ⟨b2, o2 + (f + k), none⟩ = some (.slice zb zd.length zc) := (World.cell?_setCell_other W7 ⟨q5, 2, none⟩ ⟨b2, o2 + (f + k), none⟩ _ (fun e => by have := congrArg Addr.block e; simp at this; omega)).trans d7
            refine hK _ _ (fun _ => hS) ?_
            clear hK K
            refine wpAnyT_take 12 rfl (by kernel_rfl) (by kernel_rfl) (by decide) (by kernel_rfl) (by kernel_rfl) (fun _ _ _ h => h) hS (by kernel_rfl) (v := ?_) ?_ ?_
            rotate_left
            · intro w' hSw; (try dsimp only at hSw); go_simp; (try with_reducible rfl)
            simp only [Act.put, List.setIfInBounds_toArray, List.set_cons_zero, List.set_cons_succ]
            refine wpAnyT_one 13 (by kernel_rfl) rfl (by kernel_rfl) (fun K hK => ?_)
            go_simp
            refine hK _ _ (fun h => absurd rfl h) ?_
            clear hK K
            refine wpAnyT_done (by kernel_rfl) ?_
            rw [← HW8.out]
            obtain ⟨y0, y1, y2, y3, y4, x0, x1, x2, x3, x4⟩ := HY.out
            clear HW8 HY hS z0 z1 zf zl d7
            go_wp2_with fail
            with_reducible refine (HCS.out).mono ?_
            rintro e w9 ⟨rfl, hb9⟩
            have HB9 := Lib.hid (HBK.out.trans ((H8E.out.trans (hb9.mono H8E.out.size)).mono HBK.out.size))
            clear hb9 y0 y1 y2 y3 y4 x0 x1 x2 x3 x4
            go_wp2
            go_roundw
            case rel => exact ⟨k + 1, by omega, by go_num, HB9.out⟩
            case measure => simp [intOf]; omega
          · have hwp : winPk (datas M) f k = ⟨0, 3, 0, 0, []⟩ := by unfold winPk; rw [dif_neg (by rw [HDL.out]; exact hfk)]
            have CU2 := Lib.hid CU.out
            rw [hwp] at CU2
            rw [hwp] at d1
            simp only at d1 CU2
            have hj2 : decide ((f : Int) + (k : Int) < (M.length : Int)) = false := by simp; omega
            have hk8 : k ≤ 40 := by have := HN1L.out; omega
            clear CU hwp
            go_wp2_with fail
            with_reducible refine (CU2.out).mono ?_
            rintro e w6 ⟨v6, rfl, ho6, hb6⟩
            obtain ⟨b6, c6, rfl, _, _, _⟩ := ho6.rd
            have h7c : Below w6.heap.size w6 ((w6.alloc (.cells #[.int .i64 0, .int .i64 3, .int .i64 0, .int .i64 0, .slice b6 (List.length ([] : List UInt8)) c6] 34)).alloc (.cells #[.int .i64 0, .int .i64 3, .int .i64 0, .int .i64 0, .slice none 0 0] 34)) := ((Below.refl _ _).alloc (Nat.le_refl _) _).alloc (by simp) _
            have h7e := hb6.trans (h7c.mono hb6.size)
            have CS : Calls Try.prog 25 #[.agg #[.int .i64 0, .int .i64 3, .int .i64 0, .int .i64 0, .slice b6 0 c6], .agg #[.int .i64 0, .int .i64 3, .int .i64 0, .int .i64 0, .slice none 0 0]] ((w6.alloc (.cells #[.int .i64 0, .int .i64 3, .int .i64 0, .int .i64 0, .slice b6 0 c6] 34)).alloc (.cells #[.int .i64 0, .int .i64 3, .int .i64 0, .int .i64 0, .slice none 0 0] 34)) (BB true ((w6.alloc (.cells #[.int .i64 0, .int .i64 3, .int .i64 0, .int .i64 0, .slice b6 0 c6] 34)).alloc (.cells #[.int .i64 0, .int .i64 3, .int .i64 0, .int .i64 0, .slice none 0 0] 34))) := by
              have := samePacket_any 0 3 0 0 0 3 0 0 b6 none 0 0 c6 0 [] [] ((w6.alloc (.cells #[.int .i64 0, .int .i64 3, .int .i64 0, .int .i64 0, .slice b6 0 c6] 34)).alloc (.cells #[.int .i64 0, .int .i64 3, .int .i64 0, .int .i64 0, .slice none 0 0] 34)) rfl (Or.inl rfl) (fun _ => rfl) rfl (Or.inl rfl) (fun _ => rfl)
              exact this
            have HCS := Lib.hid CS
            have H7E := Lib.hid h7e
            clear ho6 hb6 h7c h7e CS
            go_wp2_with fail
            with_reducible refine (HCS.out).mono ?_
            rintro e w9 ⟨rfl, hb9⟩
            have HB9 := Lib.hid (HBK.out.trans ((H7E.out.trans (hb9.mono H7E.out.size)).mono HBK.out.size))
            clear hb9
            go_wp2
            go_roundw
            case rel => exact ⟨k + 1, by omega, by go_num, HB9.out⟩
            case measure => simp [intOf]; omega
        · obtain rfl : k = N1.length := by omega
          have hb6' := HB5.out.trans (HBK.out.mono HB5.out.size)
          have HB6 := Lib.hid hb6'
          clear hb6' HP6 HP5 HN1 HN1L
          by_cases hy : i < nb ∧ i < 20
          · obtain ⟨hy1, hy2⟩ := hy
            have hy3 : (i : Int) < (nb : Int) := by omega
            have hy4 : (i : Int) < 20 := by omega
            obtain ⟨b2, o2, rfl, cc, hc2⟩ := HB.out.at_ (HB6.out.mono (Nat.le_refl _)) i hy1
            have hcb := cc.toNat_lt
            have hl2 : b2 < wr.heap.size := by
              unfold World.cell? at hc2
              split at hc2
              · rename_i hb; exact (Array.getElem?_eq_some_iff.1 hb).1
              · cases hc2
            obtain ⟨m, hm1, hm2⟩ : ∃ m : Nat, (cc.toNat : Int) % ((M.length : Int) + 1) = (m : Nat) ∧ m ≤ M.length := by
              have g1 := Int.emod_nonneg (cc.toNat : Int) (show (M.length : Int) + 1 ≠ 0 by omega)
              have g2 := Int.emod_lt_of_pos (cc.toNat : Int) (show 0 < (M.length : Int) + 1 by omega)
              exact ⟨((cc.toNat : Int) % ((M.length : Int) + 1)).toNat, by omega, by omega⟩
            have CP := Lib.hid (fun W => packed_post 1 0 m 1 0 m rfl rfl rfl none 0 0 [] W rfl (Or.inl rfl) (fun _ => rfl) (by unfold By.Pk.right By.top; simp; omega))
            go_wp2_with fail
            with_reducible refine (CP.out _).mono ?_
            rintro e w7 ⟨b7, c7, rfl, ho7, hb7⟩
            obtain ⟨r7, n7, q7⟩ := pk_rd ho7
            have HS7 := Lib.hid (HS6.out.below hb7)
            have HL7 := Lib.hid (HL6.out.below hb7)
            have HB7 := Lib.hid (HB6.out.trans (hb7.mono HB6.out.size))
            have CR := Lib.hid (ss_recv_no p w.heap.size 0 1 3 M.length 0 0 pl ((datas M).drop f) ⟨1, 1, 0, m, []⟩ b7 _ c7 w7 HS7.out rfl r7 n7 q7 (by unfold By.Pk.right By.top; simp; omega) rfl (by simpa using hpl) (by simp; omega) (by simp) (by omega) (by have := HDD.out; omega))
            clear ho7 hb7 r7 n7 q7 CP hc2
            go_wp2_with fail
            with_reducible refine (CR.out).mono ?_
            rintro e w8 ⟨rfl, hs8, hk8, hb8⟩
            have hs8' : Ss w8 w.heap.size p 0 1 3 M.length 0 0 1 ((datas M).drop (max f m)) := by
              have h3 := hs8
              rw [List.drop_drop, show f + gone (M.length : Int) (((⟨1, 1, 0, m, []⟩ : By.Pk).ack : Nat) : Int) ((datas M).drop f).length = max f m from by unfold gone; rw [HDD.out]; have := HR2.out; simp only; omega] at h3
              exact h3
            have hba : Below w8.heap.size w8 (w8.alloc (.cells #[.int .i64 0, .slice none 0 0] 27)) := (Below.refl _ _).alloc (Nat.le_refl _) _
            have HS8 := Lib.hid (hs8'.below hba)
            have HL8 := Lib.hid ((HL7.out.kept hk8).below hba)
            have HB8 := Lib.hid ((HB7.out.trans hb8).trans (hba.mono (Nat.le_trans HB7.out.size hb8.size)))
            have CI := Lib.hid (sameItem_any 0 0 none none 0 0 0 0 [] [] (w8.alloc (.cells #[.int .i64 0, .slice none 0 0] 27)) rfl (Or.inl rfl) (fun _ => rfl) rfl (Or.inl rfl) (fun _ => rfl))
            clear hs8 hs8' hk8 hb8 hba CR
            go_wp2_with fail
            with_reducible refine (CI.out).mono ?_
            rintro e w9 ⟨rfl, hb9⟩
            have HS9 := Lib.hid (HS8.out.below hb9)
            have HL9 := Lib.hid (HL8.out.below hb9)
            have HB9 := Lib.hid (HB8.out.trans (hb9.mono HB8.out.size))
            clear hb9 CI
            go_wp2_with fail
            refine ⟨⟨i + 1, max f m, 1, by omega, by omega, by go_num, by omega, ?_, by omega, HS9.out, HL9.out, HB9.out⟩, by simp [intOf]; omega⟩
            congr 1
            split <;> omega
          · have hy' : (¬ i < nb ∨ ¬ i < 20) := by omega
            rcases hy' with h1 | h1
            · have h2 : ¬ (i : Int) < (nb : Int) := by omega
              clear hy
              go_wp2
              go_roundw
              case rel => exact ⟨i + 1, f, pl, by omega, by omega, by go_num, hf, rfl, hpl, HS6.out, HL6.out, HB6.out⟩
              case measure => simp [intOf]; omega
            · have h2 : ¬ (i : Int) < 20 := by omega
              by_cases h3 : i < nb
              · have h4 : (i : Int) < (nb : Int) := by omega
                clear hy
                go_wp2
                go_roundw
                case rel => exact ⟨i + 1, f, pl, by omega, by omega, by go_num, hf, rfl, hpl, HS6.out, HL6.out, HB6.out⟩
                case measure => simp [intOf]; omega
              · have h4 : ¬ (i : Int) < (nb : Int) := by omega
                clear hy
                go_wp2
                go_roundw
                case rel => exact ⟨i + 1, f, pl, by omega, by omega, by go_num, hf, rfl, hpl, HS6.out, HL6.out, HB6.out⟩
                case measure => simp [intOf]; omega
    · have hx' : ¬ i ≤ nb ∨ (i ≤ nb ∧ ¬ i ≤ 20) := by omega
      clear hx hsr
      rcases hx' with h1 | ⟨h0, h1⟩
      · have h2 : ¬ (i : Int) ≤ (nb : Int) := by omega
        go_wp2_with fail
        with_reducible refine (HA.out _).mono ?_
        rintro e w2 ⟨rfl, hb2⟩
        have HB2 := Lib.hid (HBR.out.trans (hb2.mono HBR.out.size))
        clear hb2
        go_wp2
        go_ret
        exact ⟨rfl, HB2.out⟩
      · have h2 : ¬ (i : Int) ≤ 20 := by omega
        have h3 : (i : Int) ≤ (nb : Int) := by omega
        go_wp2_with fail
        with_reducible refine (HA.out _).mono ?_
        rintro e w2 ⟨rfl, hb2⟩
        have HB2 := Lib.hid (HBR.out.trans (hb2.mono HBR.out.size))
        clear hb2
        go_wp2
        go_ret
        exact ⟨rfl, HB2.out⟩
theorem window_law (ba : Option Addr) (cap : Nat) (M0 : List Bt) (bb : Option Addr) (nb cb : Nat) (lb : List UInt8) (w : World) (h : Lr w ba M0) (hm : M0.length ≤ 9223372036854775807)
    (hb : In w bb nb lb) (hbn : bb = none → nb = 0) (hnb : nb ≤ 9223372036854775807) (hA : ∀ w, Calls Try.prog 26 #[] w fun e w' => e = .returned (.bool true) ∧ Below w.heap.size w w') :
    Calls Try.prog 5 #[.slice ba M0.length cap, .slice bb nb cb] w (TruePost w) :=
  window_true ba bb cap nb cb M0 lb w h hb hm hnb hA
end Go.Proofs.Ytndfelbgppbncaa
set_option linter.unusedVariables false
set_option linter.unusedSimpArgs false
namespace Go.Proofs.Ytndfelbgppbncaa
open Go.ChangeShapes Go.WideShapes Go.ChangeAt Go.RowKit
set_option maxRecDepth 100000 in
theorem window_lifted (os : Os) (started : os.Started) (H : Type) (enc : TypeId × Value → H) :
    ReturnsInHanded {} Try.checked os 5 .any (Rows.sessionWindowSpec.pre6 enc Try.prog Try.f5 Rows.sessionWindowRow.domain false) (Rows.sessionWindowSpec.post enc Try.prog Try.f5 false true false false) := by
  refine returnsInHanded_of_change (C := Try.checked) zz_own started (by kernel_rfl) Try.func5
    (ChangeSpec.witness6 (enc := enc) (C := Try.checked) false ⟨#[], #[.slice none 0 0, .slice none 0 0], []⟩ 8 (by kernel_rfl) (by kernel_rfl) (by kernel_rfl) (by kernel_rfl)) ?_
  intro W base args ds gs before hval0 hW hcnd _
  have hval : ∀ (j : Nat) t v, Try.f5.params[j]? = some t → args[j]? = some v → Value.okWide Try.prog W .any base t v := hval0
  have hW' := hW
  obtain ⟨p, q, hA0, hV, rfl, hfz, hnd⟩ := hW
  have hA : DataW.TrodAll enc Try.prog W 0 (fun _ => true) true Try.f5.params.toList args.toList ds p := hA0
  have hA1 := hA
  rw [Try.params5] at hA hval
  have hA2 := hA
  obtain ⟨v0, vs0, d0, ds0, p0, q0, e0, rfl, rfl, h0, hA2⟩ := trodAll_cons hA2
  obtain ⟨v1, vs1, d1, ds1, p1, q1, e1, rfl, rfl, h1, hA2⟩ := trodAll_cons hA2
  obtain ⟨e2, rfl, rfl⟩ := trodAll_nil hA2
  obtain rfl : args = #[v0, v1] := by
    cases args; simp_all
  clear e0 e1 e2
  obtain ⟨a0, M0, c0, rfl, _, m0, r0⟩ := open_lists (hval 0 48 v0 rfl rfl) h0
  obtain ⟨a1, n1, c1, l1, rfl, _, m1, z1, r1⟩ := open_bytes (hval 1 25 v1 rfl rfl) h1
  obtain ⟨rfl, rfl⟩ := trodVars_none hV
  clear hA0 hval0
  have hlt := hW'.lt
  refine (window_law a0 c0 M0 a1 n1 c1 l1 W r0 (by unfold maxLen at m0; omega) r1 z1 (by unfold maxLen at m1; omega) awake_any).mono fun e W' ⟨he, hb⟩ => ?_
  subst he
  exact ⟨_, rfl, post_of_below (pv := []) hW' (fun _ _ _ => trodAll_mk1 (shut_bool Try.underlying4 _))
    (fun sp hsp => all_stay zz_laid sp hb _ _ _ _ (by intro t ht; rw [Try.params5] at ht; simp only [List.mem_cons, List.not_mem_nil, or_false] at ht; rcases ht with rfl | rfl <;> exact ⟨by kernel_rfl, of_decide_eq_true (by kernel_rfl)⟩) hA1 (fun x hx => hlt x (by simpa using hx)) (fun x hx => hsp x (by simpa using hx))) (fun _ _ => rfl) (by simp)
    hb (ok_one (by kernel_rfl) rfl (okWide_bool_mk Try.underlying4 _))⟩
theorem window_holds : Rows.SessionWindowSaid :=
  OpenClaim.holds_of_wide 5 Try.f5 rfl rfl rfl rfl rfl rfl rfl ⟨rfl, rfl, rfl, rfl, rfl⟩ rfl rfl rfl rfl rfl (by kernel_rfl) Try.func5 (by kernel_rfl)
    (of_decide_eq_true (by kernel_rfl)) (by unfold Func.isWrapper; first | (rw [if_pos (by decide +kernel)]; kernel_rfl) | (rw [if_neg (by decide +kernel)]; exact ⟨rfl, rfl⟩))
    (fun os started H enc _ => window_lifted os started H enc)
#print axioms window_holds
end Go.Proofs.Ytndfelbgppbncaa
