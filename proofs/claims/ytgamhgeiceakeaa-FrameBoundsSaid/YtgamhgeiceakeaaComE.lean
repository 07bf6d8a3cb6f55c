/- Texts of this claim, part 5: MSix, MSeven, MGet, MCmp, MSame, VArg, VArgb, MArg, MRow, MLaw, MAwake. -/
import Derived.Test.YtgamhgeiceakeaaComD
import Derived.Laws.BytesArg
import Derived.Test.YtgamhgeiceakeaaRows
import Derived.ProofKit
import Derived.Carry
import Derived.ChangeSlices
import Derived.OpenShut
import Derived.Deep.Matrix
import Derived.WideKeyArgs
import Derived.ChangeSame
import Derived.ChangeMaps5
import Derived.ChangeArms
import Derived.ChangeVars
import Derived.Below
import Derived.JoinedOf
import Derived.RowKit
import Derived.LaidLaws
import Derived.LaidHandle
import Derived.LaidMore
import Derived.Lay
import Derived.LaidOnce
import Derived.Stop.Joined
import Derived.Test.YtgamhgeiceakeaaProg
/- frame.list of bytes, by contract. -/
set_option linter.unusedVariables false
set_option linter.unusedSimpArgs false
namespace Go.Proofs.Ytgamhgeiceakeaa
open Go.RowKit
open By (Bs)
open Va (V)
open Me (Ms)
theorem rd_gen {W W' : World} {ba : Option Addr} {l : Bs} {r : Option Nat} (h : Rd W ba l) (hg : W.grownBy W' r) (hne : ∀ b o, ba = some (⟨b, o, none⟩ : Addr) → some b ≠ r) : Rd W' ba l := by
  rcases h with h0 | ⟨b, o, e, hlt, hc⟩
  · exact Or.inl h0
  · exact Or.inr ⟨b, o, e, Nat.lt_of_lt_of_le hlt hg.size, fun i hi => by rw [World.cell?_of_block (w := W) (hg.block b hlt (hne b o e))]; exact hc i hi⟩
/-- bytes of the call's own, apart from a row -/
structure BtO (B : Nat) (ov : Value) (W : World) (d : Bs) (x : Value) : Prop where
  ex : ∃ (g : Option Addr) (c : Nat), x = .slice g d.length c ∧ Rd W g d ∧ (g = none → d.length = 0) ∧ d.length ≤ c ∧ c ≤ maxLen ∧ ∀ b o, g = some (⟨b, o, none⟩ : Addr) → B ≤ b ∧ b < W.heap.size ∧ some b ≠ ov.ownBlock
/-- bytes in a row of the call's own -/
def RowB (B : Nat) (W : World) (ov : Value) (acc : List Bs) : Prop := ∃ xs, W.ownsRow B 27 1 ov xs.length xs ∧ acc.length = xs.length ∧ ∀ i (h : i < acc.length) (h' : i < xs.length), BtO B ov W acc[i] xs[i]
theorem rowB_nil (B : Nat) (W : World) : RowB B W (.slice none 0 0) [] := ⟨[], World.ownsRow_nil _ _ _ _, rfl, fun i h => by simp at h⟩
theorem Try.info_bytes : (Try.prog.info? 27).map (fun i => (i.zero, i.size, i.bytes)) = some (some (.slice none 0 0), 1, 24) := by kernel_rfl
theorem BtO.grow {B p : Nat} {ov : Value} {W W' : World} {d : Bs} {x : Value} (h : BtO B ov W d x) (hg : W.grownBy W' (some p)) (hp : p < B) : BtO B ov W' d x := by
  obtain ⟨g, c, e, h1, h2, h3, h4, h5⟩ := h.ex
  exact ⟨g, c, e, rd_gen h1 hg (fun b o e2 e3 => by have := (h5 b o e2).1; cases e3; omega), h2, h3, h4, fun b o e2 => ⟨(h5 b o e2).1, Nat.lt_of_lt_of_le (h5 b o e2).2.1 hg.size, (h5 b o e2).2.2⟩⟩
theorem rowB_step {B p : Nat} {wr w1 w2 : World} {ov ov' : Value} {acc : List Bs} {xs : List Value} {d : Bs} {o : Obj} {g : Option Addr} {c : Nat} (hp : p < B) (hB : B ≤ wr.heap.size) (hown0 : wr.ownsRow B 27 1 ov xs.length xs) (hl : acc.length = xs.length)
    (hall : ∀ i (h : i < acc.length) (h' : i < xs.length), BtO B ov wr acc[i] xs[i]) (hG : wr.grownBy w1 (some p)) (hgw : Gw (w1.alloc o) w2 ov ov')
    (hown : w2.ownsRow B 27 1 ov' (xs.length + 1) (xs ++ [.slice g d.length c])) (hx : Ow w1 wr.heap.size (.slice g d.length c) d) : RowB B w2 ov' (acc ++ [d]) := by
  have hlt := hown0.lt
  have hal : Below w1.heap.size w1 (w1.alloc o) := (Below.refl _ _).alloc (Nat.le_refl _) _
  have key : ∀ (u : Bs) (y : Value), BtO B ov w1 u y → BtO B ov' w2 u y := fun u y hu => by
    obtain ⟨g', c', e, h1, h2, h3, h4, h5⟩ := hu.ex
    refine ⟨g', c', e, rd_gen (h1.below hal) hgw.grown (fun b o e2 => (h5 b o e2).2.2), h2, h3, h4, fun b o e2 => ⟨(h5 b o e2).1, Nat.lt_of_lt_of_le (Nat.lt_of_lt_of_le (h5 b o e2).2.1 hal.size) hgw.grown.size, fun e3 => ?_⟩⟩
    rcases hgw.own with q | ⟨j, q, hj⟩
    · exact (h5 b o e2).2.2 (e3.trans q)
    · rw [q] at e3; cases e3; have := (h5 _ o e2).2.1; have := hal.size; omega
  have hnew : BtO B ov w1 d (.slice g d.length c) := by
    obtain ⟨g', c', e, h1, h2, h3⟩ := hx.rd
    cases e
    refine ⟨g, c, rfl, h1, h2, h3, ?_, fun b o e2 => ?_⟩
    · rcases hx.2 with ⟨e, _⟩ | ⟨gg, cap, cur, e, _, _, _, hm, _⟩
      · obtain ⟨_, _, e3⟩ := Value.slice.inj e; rw [e3]; unfold maxLen; omega
      · obtain ⟨_, _, e3⟩ := Value.slice.inj e; rw [e3]; exact hm
    · have hb := hx.lt b (by rw [e2]; rfl)
      exact ⟨by omega, hb.2, fun e3 => by have := (hlt b e3.symm).2; omega⟩
  refine ⟨xs ++ [.slice g d.length c], by rw [List.length_append]; exact hown, by simp [hl], fun i h1 h2 => ?_⟩
  by_cases hi : i < acc.length
  · rw [List.getElem_append_left hi, List.getElem_append_left (by omega)]
    exact key _ _ ((hall i hi (by omega)).grow hG hp)
  · have : i = acc.length := by simp at h1; omega
    subst this
    rw [List.getElem_append_right (Nat.le_refl _), List.getElem_append_right (by omega)]
    simp only [Nat.sub_self, hl, List.getElem_cons_zero]
    exact key _ _ hnew
theorem xs_one {B : Nat} {ov : Value} {W : World} {acc : List Bs} {xs : List Value} (hl : acc.length = xs.length) (hall : ∀ i (h : i < acc.length) (h' : i < xs.length), BtO B ov W acc[i] xs[i]) : ∀ u ∈ xs, u.oneCell' = true := by
  intro u hu
  obtain ⟨i, hi, rfl⟩ := List.mem_iff_getElem.1 hu
  obtain ⟨g, c, e, _⟩ := (hall i (by omega) hi).ex
  rw [e]; rfl
set_option maxHeartbeats 3200000 in
set_option maxRecDepth 100000 in
theorem listB_any (p q : Nat) (ba : Option Addr) (n cap : Nat) (l : Bs) (at' er : Nat) (w : World) (h : GS p q ba n cap l at' er w) (R : Except Nat (List Bs × Nat)) (hR : R = manyE l 16 (Me.blb l) at' er) :
    Calls Try.prog 41 #[.pointer (some ⟨p, 0, none⟩), .int .i64 16, .func (.func 42) #[] #[.pointer (some ⟨q, 0, none⟩)]] w (LsPost (RowB w.heap.size) R p q ba n cap l w) := by
  have hmx := h.max
  have hplt := h.gt.lt
  have hqlt := h.bx.lt
  have HRD := Lib.hid h.rd
  have CU := Lib.hid (guint_any p ba n cap l at' er w h.gt h.len h.rd h.le (by omega))
  have hle := gnum_le l at' er (by rw [h.len]; exact h.le)
  rw [h.len] at hle
  obtain ⟨s1, s2⟩ := many_start (Me.blb l) l 16 at' er R hR
  generalize gnum l at' er = G at CU hle s1 s2
  obtain ⟨N, a1, e1⟩ := G
  simp only at CU hle s1 s2
  have HG := Lib.hid h
  clear h hR
  go_enter Try.func41, Try.ntmps41
  go_wp2_with fail
  with_reducible refine (CU.out).mono ?_
  rintro e w1 ⟨rfl, hg1, hgr1⟩
  have HS1 := Lib.hid (HG.out.grow hgr1 hg1 hle)
  have HW1 := Lib.hid hgr1
  clear hg1 hgr1 CU
  have g0 := HS1.out.gt.cell 2
  have glt := HS1.out.gt.lt
  have gf := HS1.out.gt.free 2
  by_cases h1 : e1 = 0
  · subst h1
    obtain ⟨s3, s4, s5⟩ := s2 rfl
    by_cases h2 : 16 < N
    · have h2' : (16 : Int) < (N : Int) := by omega
      have HR14 := Lib.hid (s3 h2)
      clear s1 s2 s3 s4
      go_wp2_with fail
      have HS2 := Lib.hid (HS1.out.grow (grown_set (grown_refl _ _) 2 (.int .i64 14)) (HS1.out.gt.set 2 (.int .i64 14)) HS1.out.le)
      have HW2 := Lib.hid (grown_set HW1.out 2 (.int .i64 14))
      clear g0 glt gf
      go_loopw [7, 8] (fun nv ov wr => ∃ (k at2 er2 : Nat) (g : Option Addr) (m c : Nat), k < 18446744073709551616 ∧ nv = .int .u64 k ∧ ov = .slice g m c ∧ GS p q ba n cap l at2 er2 wr ∧ w.grownBy wr (some p) ∧ LsS (Me.blb l) (RowB w.heap.size) R k at2 er2 wr (.slice g m c)) (fun nv _ _ => (intOf nv).toNat)
      case atStart => exact ⟨N, a1, 14, none, 0, 0, s5, rfl, rfl, HS2.out, HW2.out, Or.inr ⟨by decide, HR14.out⟩⟩
      case round =>
        obtain ⟨k, at2, er2, g, m, c, hk, rfl, rfl, hgs, hgr, hst⟩ := hrel
        have HS := Lib.hid hgs
        have HW := Lib.hid hgr
        have HST := Lib.hid hst
        have g0 := hgs.gt.cell 2
        have glt := hgs.gt.lt
        clear hgs hgr hst
        by_cases hgo : 0 < k ∧ er2 = 0
        · obtain ⟨hk0, rfl⟩ := hgo
          obtain ⟨j, rfl⟩ : ∃ j, k = j + 1 := ⟨k - 1, by omega⟩
          have hj0 : (0 : Int) < ((j + 1 : Nat) : Int) := by omega
          obtain ⟨acc, hrow, hlen, hlst⟩ : ∃ acc, RowB w.heap.size wr (.slice g m c) acc ∧ acc.length + (j + 1) ≤ 64 ∧ Me.lst (Me.blb l) (j + 1) at2 acc = R := by
            rcases HST.out with ⟨_, h⟩ | ⟨h, _⟩
            · exact h
            · exact absurd rfl h
          have HROW := Lib.hid hrow
          have HLST := Lib.hid hlst
          clear hrow hlst HST
          go_wp2_with fail
          with_reducible refine (blob1_any p q ba n cap l at2 wr HS.out).mono ?_
          rintro e w1 ⟨d, dg, dc, at3, er3, rfl, hod, hg1, hgr1, hone⟩
          obtain ⟨xs, hown0, hl, hall⟩ := HROW.out
          have HS1 := Lib.hid hg1
          have HW1 := Lib.hid (grown_trans HW.out hgr1)
          have HO1 := Lib.hid (World.ownsRow.kept hown0 hgr1 (Or.inr (fun e => by have := (hown0.lt _ e).1; omega)))
          have hst := lst_step HLST.out hone
          have HST := Lib.hid hst
          have hwrs := HW.out.size
          have HSTEP := Lib.hid (fun o w2 ov' hgw hown => rowB_step (o := o) (w2 := w2) (ov' := ov') hplt hwrs hown0 hl hall hgr1 hgw hown hod)
          clear hg1 hgr1 hone hst HROW HLST g0 glt hown0 hall hod
          obtain ⟨i0, hi0, hz0, hz1, hz2⟩ := info_parts Try.info_bytes
          have hsz1 := HW1.out.size
          go_wp2_with (at_builtin; refine wpList_append_gw _ rfl _ _ 28 rfl w.heap.size 27 i0 (.slice none 0 0) 1 24 Try.underlying28 hi0 hz0 hz1 hz2 rfl (by decide) (.slice g m c) xs.length xs rfl (HO1.out.alloc _) ⟨w1.heap.size, 0, none⟩ 1 1 [.slice dg d.length dc] rfl rfl ?c1 ?c2 ?c3 ?c4 ?c5 ?_)
          case c1 =>
            intro j u hj
            exact cells_new _ #[.slice dg d.length dc] _ _ rfl j u (by simpa using hj)
          case c2 => intro u hu; simp only [List.mem_singleton] at hu; subst hu; rfl
          case c3 => unfold maxLen; omega
          case c4 => omega
          case c5 => simp; omega
          intro v2 w2 hown hg hnn
          obtain ⟨g2, c2, rfl⟩ := row_shape hown
          have hal : Below w1.heap.size w1 (w1.alloc (.cells #[.slice dg d.length dc] 27)) := (Below.refl _ _).alloc (Nat.le_refl _) _
          have hown' := HSTEP.out _ _ _ hg hown
          have hrk : ∀ k, (Value.slice g m c).ownBlock = some k → w.heap.size ≤ k := fun k hk => (HO1.out.lt _ hk).1
          have HS2 := Lib.hid (gs_row (HS1.out.past hal) hg.grown hrk hplt hqlt HRD.out)
          have HW2 := Lib.hid (grown_row (grown_below HW1.out hal) hg.grown hrk)
          have hst2 : LsS (Me.blb l) (RowB w.heap.size) R j at3 er3 w2 (.slice g2 (xs.length + 1) c2) := by
            rcases HST.out with ⟨h0, h1⟩ | h0
            · exact Or.inl ⟨h0, _, hown', by rw [List.length_append, List.length_singleton]; omega, h1⟩
            · exact Or.inr h0
          have HST2 := Lib.hid hst2
          clear hown hg hnn hal hown' hrk hst2 hi0 hz0 hz1 hz2 HO1 HST HS1 HW1 HSTEP
          go_wp2
          go_roundw
          case rel => exact ⟨j, at3, er3, g2, xs.length + 1, c2, by omega, by go_num, rfl, HS2.out, HW2.out, HST2.out⟩
          case measure => (simp [intOf] <;> omega)
        · have hend : k = 0 ∨ er2 ≠ 0 := by omega
          have hres : (er2 = 0 ∧ ∃ xs, R = .ok (xs, at2) ∧ RowB w.heap.size wr (.slice g m c) xs) ∨ (er2 ≠ 0 ∧ R = .error er2) := by
            rcases HST.out with ⟨h0, acc, h1, -, h2⟩ | h
            · subst h0
              obtain rfl : k = 0 := by omega
              unfold Me.lst at h2
              exact Or.inl ⟨rfl, acc, h2.symm, h1⟩
            · exact Or.inr h
          have HRES := Lib.hid hres
          clear hres HST hgo
          by_cases hk0 : k = 0
          · subst hk0
            clear hend
            go_wp2
            go_ret
            exact ⟨g, m, c, at2, er2, rfl, HS.out, HW.out, HRES.out⟩
          · have hk1 : (0 : Int) < (k : Int) := by omega
            have her : ((er2 : Int) == 0) = false := bneI (by omega)
            clear hend
            go_wp2
            go_ret
            exact ⟨g, m, c, at2, er2, rfl, HS.out, HW.out, HRES.out⟩
    · have h2' : ¬ (16 : Int) < (N : Int) := by omega
      have HRL := Lib.hid (s4 h2)
      clear s1 s2 s3 s4
      go_wp2_with fail
      clear g0 glt gf
      go_loopw [7, 8] (fun nv ov wr => ∃ (k at2 er2 : Nat) (g : Option Addr) (m c : Nat), k < 18446744073709551616 ∧ nv = .int .u64 k ∧ ov = .slice g m c ∧ GS p q ba n cap l at2 er2 wr ∧ w.grownBy wr (some p) ∧ LsS (Me.blb l) (RowB w.heap.size) R k at2 er2 wr (.slice g m c)) (fun nv _ _ => (intOf nv).toNat)
      case atStart => exact ⟨N, a1, 0, none, 0, 0, s5, rfl, rfl, HS1.out, HW1.out, Or.inl ⟨rfl, [], rowB_nil _ _, (by simp; omega), HRL.out⟩⟩
      case round =>
        obtain ⟨k, at2, er2, g, m, c, hk, rfl, rfl, hgs, hgr, hst⟩ := hrel
        have HS := Lib.hid hgs
        have HW := Lib.hid hgr
        have HST := Lib.hid hst
        have g0 := hgs.gt.cell 2
        have glt := hgs.gt.lt
        clear hgs hgr hst
        by_cases hgo : 0 < k ∧ er2 = 0
        · obtain ⟨hk0, rfl⟩ := hgo
          obtain ⟨j, rfl⟩ : ∃ j, k = j + 1 := ⟨k - 1, by omega⟩
          have hj0 : (0 : Int) < ((j + 1 : Nat) : Int) := by omega
          obtain ⟨acc, hrow, hlen, hlst⟩ : ∃ acc, RowB w.heap.size wr (.slice g m c) acc ∧ acc.length + (j + 1) ≤ 64 ∧ Me.lst (Me.blb l) (j + 1) at2 acc = R := by
            rcases HST.out with ⟨_, h⟩ | ⟨h, _⟩
            · exact h
            · exact absurd rfl h
          have HROW := Lib.hid hrow
          have HLST := Lib.hid hlst
          clear hrow hlst HST
          go_wp2_with fail
          with_reducible refine (blob1_any p q ba n cap l at2 wr HS.out).mono ?_
          rintro e w1 ⟨d, dg, dc, at3, er3, rfl, hod, hg1, hgr1, hone⟩
          obtain ⟨xs, hown0, hl, hall⟩ := HROW.out
          have HS1 := Lib.hid hg1
          have HW1 := Lib.hid (grown_trans HW.out hgr1)
          have HO1 := Lib.hid (World.ownsRow.kept hown0 hgr1 (Or.inr (fun e => by have := (hown0.lt _ e).1; omega)))
          have hst := lst_step HLST.out hone
          have HST := Lib.hid hst
          have hwrs := HW.out.size
          have HSTEP := Lib.hid (fun o w2 ov' hgw hown => rowB_step (o := o) (w2 := w2) (ov' := ov') hplt hwrs hown0 hl hall hgr1 hgw hown hod)
          clear hg1 hgr1 hone hst HROW HLST g0 glt hown0 hall hod
          obtain ⟨i0, hi0, hz0, hz1, hz2⟩ := info_parts Try.info_bytes
          have hsz1 := HW1.out.size
          go_wp2_with (at_builtin; refine wpList_append_gw _ rfl _ _ 28 rfl w.heap.size 27 i0 (.slice none 0 0) 1 24 Try.underlying28 hi0 hz0 hz1 hz2 rfl (by decide) (.slice g m c) xs.length xs rfl (HO1.out.alloc _) ⟨w1.heap.size, 0, none⟩ 1 1 [.slice dg d.length dc] rfl rfl ?c1 ?c2 ?c3 ?c4 ?c5 ?_)
          case c1 =>
            intro j u hj
            exact cells_new _ #[.slice dg d.length dc] _ _ rfl j u (by simpa using hj)
          case c2 => intro u hu; simp only [List.mem_singleton] at hu; subst hu; rfl
          case c3 => unfold maxLen; omega
          case c4 => omega
          case c5 => simp; omega
          intro v2 w2 hown hg hnn
          obtain ⟨g2, c2, rfl⟩ := row_shape hown
          have hal : Below w1.heap.size w1 (w1.alloc (.cells #[.slice dg d.length dc] 27)) := (Below.refl _ _).alloc (Nat.le_refl _) _
          have hown' := HSTEP.out _ _ _ hg hown
          have hrk : ∀ k, (Value.slice g m c).ownBlock = some k → w.heap.size ≤ k := fun k hk => (HO1.out.lt _ hk).1
          have HS2 := Lib.hid (gs_row (HS1.out.past hal) hg.grown hrk hplt hqlt HRD.out)
          have HW2 := Lib.hid (grown_row (grown_below HW1.out hal) hg.grown hrk)
          have hst2 : LsS (Me.blb l) (RowB w.heap.size) R j at3 er3 w2 (.slice g2 (xs.length + 1) c2) := by
            rcases HST.out with ⟨h0, h1⟩ | h0
            · exact Or.inl ⟨h0, _, hown', by rw [List.length_append, List.length_singleton]; omega, h1⟩
            · exact Or.inr h0
          have HST2 := Lib.hid hst2
          clear hown hg hnn hal hown' hrk hst2 hi0 hz0 hz1 hz2 HO1 HST HS1 HW1 HSTEP
          go_wp2
          go_roundw
          case rel => exact ⟨j, at3, er3, g2, xs.length + 1, c2, by omega, by go_num, rfl, HS2.out, HW2.out, HST2.out⟩
          case measure => (simp [intOf] <;> omega)
        · have hend : k = 0 ∨ er2 ≠ 0 := by omega
          have hres : (er2 = 0 ∧ ∃ xs, R = .ok (xs, at2) ∧ RowB w.heap.size wr (.slice g m c) xs) ∨ (er2 ≠ 0 ∧ R = .error er2) := by
            rcases HST.out with ⟨h0, acc, h1, -, h2⟩ | h
            · subst h0
              obtain rfl : k = 0 := by omega
              unfold Me.lst at h2
              exact Or.inl ⟨rfl, acc, h2.symm, h1⟩
            · exact Or.inr h
          have HRES := Lib.hid hres
          clear hres HST hgo
          by_cases hk0 : k = 0
          · subst hk0
            clear hend
            go_wp2
            go_ret
            exact ⟨g, m, c, at2, er2, rfl, HS.out, HW.out, HRES.out⟩
          · have hk1 : (0 : Int) < (k : Int) := by omega
            have her : ((er2 : Int) == 0) = false := bneI (by omega)
            clear hend
            go_wp2
            go_ret
            exact ⟨g, m, c, at2, er2, rfl, HS.out, HW.out, HRES.out⟩
  · have her : ((e1 : Int) == 0) = false := bneI (by omega)
    obtain ⟨hRe, rfl⟩ := s1 h1
    have HRE := Lib.hid hRe
    clear s1 s2 hRe
    go_wp2_with fail
    clear g0 glt gf
    go_loopw [7, 8] (fun nv ov wr => ∃ (k at2 er2 : Nat) (g : Option Addr) (m c : Nat), k < 18446744073709551616 ∧ nv = .int .u64 k ∧ ov = .slice g m c ∧ GS p q ba n cap l at2 er2 wr ∧ w.grownBy wr (some p) ∧ LsS (Me.blb l) (RowB w.heap.size) R k at2 er2 wr (.slice g m c)) (fun nv _ _ => (intOf nv).toNat)
    case atStart => exact ⟨0, a1, e1, none, 0, 0, by decide, rfl, rfl, HS1.out, HW1.out, Or.inr ⟨h1, HRE.out⟩⟩
    case round =>
      obtain ⟨k, at2, er2, g, m, c, hk, rfl, rfl, hgs, hgr, hst⟩ := hrel
      have HS := Lib.hid hgs
      have HW := Lib.hid hgr
      have HST := Lib.hid hst
      have g0 := hgs.gt.cell 2
      have glt := hgs.gt.lt
      clear hgs hgr hst
      by_cases hgo : 0 < k ∧ er2 = 0
      · obtain ⟨hk0, rfl⟩ := hgo
        obtain ⟨j, rfl⟩ : ∃ j, k = j + 1 := ⟨k - 1, by omega⟩
        have hj0 : (0 : Int) < ((j + 1 : Nat) : Int) := by omega
        obtain ⟨acc, hrow, hlen, hlst⟩ : ∃ acc, RowB w.heap.size wr (.slice g m c) acc ∧ acc.length + (j + 1) ≤ 64 ∧ Me.lst (Me.blb l) (j + 1) at2 acc = R := by
          rcases HST.out with ⟨_, h⟩ | ⟨h, _⟩
          · exact h
          · exact absurd rfl h
        have HROW := Lib.hid hrow
        have HLST := Lib.hid hlst
        clear hrow hlst HST
        go_wp2_with fail
        with_reducible refine (blob1_any p q ba n cap l at2 wr HS.out).mono ?_
        rintro e w1 ⟨d, dg, dc, at3, er3, rfl, hod, hg1, hgr1, hone⟩
        obtain ⟨xs, hown0, hl, hall⟩ := HROW.out
        have HS1 := Lib.hid hg1
        have HW1 := Lib.hid (grown_trans HW.out hgr1)
        have HO1 := Lib.hid (World.ownsRow.kept hown0 hgr1 (Or.inr (fun e => by have := (hown0.lt _ e).1; omega)))
        have hst := lst_step HLST.out hone
        have HST := Lib.hid hst
        have hwrs := HW.out.size
        have HSTEP := Lib.hid (fun o w2 ov' hgw hown => rowB_step (o := o) (w2 := w2) (ov' := ov') hplt hwrs hown0 hl hall hgr1 hgw hown hod)
        clear hg1 hgr1 hone hst HROW HLST g0 glt hown0 hall hod
        obtain ⟨i0, hi0, hz0, hz1, hz2⟩ := info_parts Try.info_bytes
        have hsz1 := HW1.out.size
        go_wp2_with (at_builtin; refine wpList_append_gw _ rfl _ _ 28 rfl w.heap.size 27 i0 (.slice none 0 0) 1 24 Try.underlying28 hi0 hz0 hz1 hz2 rfl (by decide) (.slice g m c) xs.length xs rfl (HO1.out.alloc _) ⟨w1.heap.size, 0, none⟩ 1 1 [.slice dg d.length dc] rfl rfl ?c1 ?c2 ?c3 ?c4 ?c5 ?_)
        case c1 =>
          intro j u hj
          exact cells_new _ #[.slice dg d.length dc] _ _ rfl j u (by simpa using hj)
        case c2 => intro u hu; simp only [List.mem_singleton] at hu; subst hu; rfl
        case c3 => unfold maxLen; omega
        case c4 => omega
        case c5 => simp; omega
        intro v2 w2 hown hg hnn
        obtain ⟨g2, c2, rfl⟩ := row_shape hown
        have hal : Below w1.heap.size w1 (w1.alloc (.cells #[.slice dg d.length dc] 27)) := (Below.refl _ _).alloc (Nat.le_refl _) _
        have hown' := HSTEP.out _ _ _ hg hown
        have hrk : ∀ k, (Value.slice g m c).ownBlock = some k → w.heap.size ≤ k := fun k hk => (HO1.out.lt _ hk).1
        have HS2 := Lib.hid (gs_row (HS1.out.past hal) hg.grown hrk hplt hqlt HRD.out)
        have HW2 := Lib.hid (grown_row (grown_below HW1.out hal) hg.grown hrk)
        have hst2 : LsS (Me.blb l) (RowB w.heap.size) R j at3 er3 w2 (.slice g2 (xs.length + 1) c2) := by
          rcases HST.out with ⟨h0, h1⟩ | h0
          · exact Or.inl ⟨h0, _, hown', by rw [List.length_append, List.length_singleton]; omega, h1⟩
          · exact Or.inr h0
        have HST2 := Lib.hid hst2
        clear hown hg hnn hal hown' hrk hst2 hi0 hz0 hz1 hz2 HO1 HST HS1 HW1 HSTEP
        go_wp2
        go_roundw
        case rel => exact ⟨j, at3, er3, g2, xs.length + 1, c2, by omega, by go_num, rfl, HS2.out, HW2.out, HST2.out⟩
        case measure => (simp [intOf] <;> omega)
      · have hend : k = 0 ∨ er2 ≠ 0 := by omega
        have hres : (er2 = 0 ∧ ∃ xs, R = .ok (xs, at2) ∧ RowB w.heap.size wr (.slice g m c) xs) ∨ (er2 ≠ 0 ∧ R = .error er2) := by
          rcases HST.out with ⟨h0, acc, h1, -, h2⟩ | h
          · subst h0
            obtain rfl : k = 0 := by omega
            unfold Me.lst at h2
            exact Or.inl ⟨rfl, acc, h2.symm, h1⟩
          · exact Or.inr h
        have HRES := Lib.hid hres
        clear hres HST hgo
        by_cases hk0 : k = 0
        · subst hk0
          clear hend
          go_wp2
          go_ret
          exact ⟨g, m, c, at2, er2, rfl, HS.out, HW.out, HRES.out⟩
        · have hk1 : (0 : Int) < (k : Int) := by omega
          have her : ((er2 : Int) == 0) = false := bneI (by omega)
          clear hend
          go_wp2
          go_ret
          exact ⟨g, m, c, at2, er2, rfl, HS.out, HW.out, HRES.out⟩
end Go.Proofs.Ytgamhgeiceakeaa
/- frame.Get: what is told, as plain facts; rows as what is read. -/
set_option linter.unusedVariables false
set_option linter.unusedSimpArgs false
namespace Go.Proofs.Ytgamhgeiceakeaa
open Go.RowKit
open By (Bs)
open Va (V)
open Me (Ms)
/-- what a list told, kept -/
def LsR {α : Type} (Row : World → Value → List α → Prop) (R : Except Nat (List α × Nat)) (at2 er2 : Nat) (W : World) (ov : Value) : Prop :=
  (er2 = 0 ∧ ∃ xs, R = .ok (xs, at2) ∧ Row W ov xs) ∨ (er2 ≠ 0 ∧ R = .error er2)
theorem LsR.keep {α : Type} {Row : World → Value → List α → Prop} {R : Except Nat (List α × Nat)} {at2 er2 : Nat} {W W' : World} {ov : Value} (h : LsR Row R at2 er2 W ov) (hk : ∀ xs, Row W ov xs → Row W' ov xs) : LsR Row R at2 er2 W' ov := by
  rcases h with ⟨h0, xs, h1, h2⟩ | h
  · exact Or.inl ⟨h0, xs, h1, hk xs h2⟩
  · exact Or.inr h
theorem own_keep {B size n t : Nat} {T : TypeId} {W W' : World} {v : Value} {xs : List Value} (h : W.ownsRow B T size v n xs) (hg : W.grownBy W' (some t)) (ht : t < B) : W'.ownsRow B T size v n xs :=
  World.ownsRow.kept h hg (Or.inr (fun e => by have := (h.lt _ e).1; omega))
theorem RowN.keep {B t : Nat} {W W' : World} {ov : Value} {acc : List Int} (h : RowN B W ov acc) (hg : W.grownBy W' (some t)) (ht : t < B) : RowN B W' ov acc := own_keep h hg ht
theorem RowV.keep {B t : Nat} {W W' : World} {ov : Value} {acc : List V} (h : RowV B W ov acc) (hg : W.grownBy W' (some t)) (ht : t < B) : RowV B W' ov acc := by
  obtain ⟨xs, hf, ho, hl, hall⟩ := h
  exact ⟨xs, hf, own_keep ho hg ht, hl, fun i h1 h2 => (hall i h1 h2).kept hg.size (fun b hb hlt => hg.block b hlt (fun e => by cases e; omega))⟩
theorem RowB.keep {B t : Nat} {W W' : World} {ov : Value} {acc : List Bs} (h : RowB B W ov acc) (hg : W.grownBy W' (some t)) (ht : t < B) : RowB B W' ov acc := by
  obtain ⟨xs, ho, hl, hall⟩ := h
  exact ⟨xs, own_keep ho hg ht, hl, fun i h1 h2 => (hall i h1 h2).grow hg ht⟩
theorem RowN.rn {B B' m c : Nat} {W : World} {g : Option Addr} {acc : List Int} (h : RowN B W (.slice g m c) acc) (hB : B' ≤ B) : m = acc.length ∧ RN (fun b => B' ≤ b) W acc g c := by
  rcases h.2 with ⟨e, h0⟩ | ⟨gg, cap, cur, e, hb, hg, hcap, hm, _⟩
  · obtain ⟨rfl, rfl, rfl⟩ := Value.slice.inj e
    exact ⟨h0.symm, by omega, by unfold maxLen; omega, fun _ => h0, fun i hi => by omega⟩
  · obtain ⟨rfl, rfl, rfl⟩ := Value.slice.inj e
    refine ⟨rfl, hcap, hm, (fun e => by cases e), fun i hi => ?_⟩
    have := h.cells (g := gg) rfl i (.int .i64 acc[i]) (by simp [hi])
    rw [addPl] at this
    exact ⟨gg, 0, rfl, by omega, (Array.getElem?_eq_some_iff.1 hg).1, this⟩
theorem RowV.rl {B B' m c : Nat} {W : World} {g : Option Addr} {acc : List V} (h : RowV B W (.slice g m c) acc) (hB : B' ≤ B) : m = acc.length ∧ RL (fun b => B' ≤ b) W acc g c := by
  obtain ⟨xs, hf, ho, hl, hall⟩ := h
  rcases ho.2 with ⟨e, h0⟩ | ⟨gg, cap, cur, e, hb, hg, hcap, hm, _⟩
  · obtain ⟨rfl, rfl, rfl⟩ := Value.slice.inj e
    exact ⟨by omega, by omega, by unfold maxLen; omega, fun _ => by omega, fun i hi => by omega⟩
  · obtain ⟨rfl, rfl, rfl⟩ := Value.slice.inj e
    refine ⟨by omega, by omega, hm, (fun e => by cases e), fun i h1 => ?_⟩
    have hi : i < xs.length := by omega
    have hx := hall i h1 hi
    obtain ⟨a, b, c, d, e⟩ := hf xs[i] (List.getElem_mem hi)
    have hc : ∀ k, k < 4 → ∀ u, (c4 xs[i])[k]? = some u → W.cell? ⟨gg, 0 + i * 4 + k, none⟩ = some u := fun k hk u hu => by
      have := ho.cells (g := gg) rfl (i * 4 + k) u (by rw [vcs_at xs hf i k hi hk]; exact hu)
      rw [addPl] at this
      rw [Nat.add_assoc]; exact this
    rw [e] at hc
    exact ⟨gg, 0, xs[i], rfl, by omega, ⟨(Array.getElem?_eq_some_iff.1 hg).1, a, b, c, d, e, hc 0 (by omega) _ rfl, hc 1 (by omega) _ rfl, hc 2 (by omega) _ rfl, hc 3 (by omega) _ rfl⟩, hx.mono fun b _ hb => by omega⟩
theorem RowB.rb {B B' m c : Nat} {W : World} {g : Option Addr} {acc : List Bs} (h : RowB B W (.slice g m c) acc) (hB : B' ≤ B) : m = acc.length ∧ RB (fun b => B' ≤ b) W acc g c := by
  obtain ⟨xs, ho, hl, hall⟩ := h
  rcases ho.2 with ⟨e, h0⟩ | ⟨gg, cap, cur, e, hb, hg, hcap, hm, _⟩
  · obtain ⟨rfl, rfl, rfl⟩ := Value.slice.inj e
    exact ⟨by omega, by omega, by unfold maxLen; omega, fun _ => by omega, fun i hi => by omega, fun i hi => by omega⟩
  · obtain ⟨rfl, rfl, rfl⟩ := Value.slice.inj e
    refine ⟨by omega, by omega, hm, (fun e => by cases e), fun i h1 => ?_, fun i h1 b o g n c b' o' eb hc eg hne => ?_⟩
    · have hi : i < xs.length := by omega
      have := ho.cells (g := gg) rfl i xs[i] (by simp [hi])
      rw [addPl] at this
      obtain ⟨g2, c2, e2, q1, q2, q3, q4, _⟩ := (hall i h1 hi).ex
      exact ⟨gg, 0, xs[i], rfl, by omega, (Array.getElem?_eq_some_iff.1 hg).1, this, ⟨g2, c2, e2, q1, q2, q3, q4⟩⟩
    · have hi : i < xs.length := by omega
      have := ho.cells (g := gg) rfl i xs[i] (by simp [hi])
      rw [addPl] at this
      cases eb
      obtain ⟨g2, c2, e2, _, _, _, _, q5⟩ := (hall i h1 hi).ex
      rw [this, e2] at hc
      obtain ⟨rfl, _, _⟩ := Value.slice.inj (Option.some.inj hc)
      have := (q5 b' o' eg).1
      omega
/-- what the three lists and the end tell, taken together -/
theorem get_chain {x : UInt8} {r : Bs} {R1 : Except Nat (List Int × Nat)} {R2 : Except Nat (List V × Nat)} {R3 : Except Nat (List Bs × Nat)} {a1 e1 a2 e2 a3 e3 : Nat} {P1 : List Int → Prop} {P2 : List V → Prop} {P3 : List Bs → Prop}
    (h1 : R1 = manyE (x :: r) 64 (Me.num (x :: r)) 1 0) (h2 : R2 = manyE (x :: r) 64 (Me.val (x :: r)) a1 e1) (h3 : R3 = manyE (x :: r) 16 (Me.blb (x :: r)) a2 e2)
    (q1 : (e1 = 0 ∧ ∃ xs, R1 = .ok (xs, a1) ∧ P1 xs) ∨ (e1 ≠ 0 ∧ R1 = .error e1)) (q2 : (e2 = 0 ∧ ∃ xs, R2 = .ok (xs, a2) ∧ P2 xs) ∨ (e2 ≠ 0 ∧ R2 = .error e2)) (q3 : (e3 = 0 ∧ ∃ xs, R3 = .ok (xs, a3) ∧ P3 xs) ∨ (e3 ≠ 0 ∧ R3 = .error e3)) :
    (gend (x :: r).length a3 e3 = 0 ∧ ∃ ns vs bs, Me.get (x :: r) = .ok ⟨x.toNat, ns, vs, bs⟩ ∧ P1 ns ∧ P2 vs ∧ P3 bs) ∨ (gend (x :: r).length a3 e3 ≠ 0 ∧ Me.get (x :: r) = .error (gend (x :: r).length a3 e3)) := by
  unfold manyE at h1 h2 h3
  rw [if_neg (by simp)] at h1
  unfold Me.get
  simp only
  rw [← h1]
  rcases q1 with ⟨rfl, ns, rfl, p1⟩ | ⟨n1, rfl⟩
  · rw [if_neg (by simp)] at h2
    simp only
    rw [← h2]
    rcases q2 with ⟨rfl, vs, rfl, p2⟩ | ⟨n2, rfl⟩
    · rw [if_neg (by simp)] at h3
      simp only
      rw [← h3]
      rcases q3 with ⟨rfl, bs, rfl, p3⟩ | ⟨n3, rfl⟩
      · simp only
        by_cases hl : a3 < (x :: r).length
        · right
          have hg : gend (x :: r).length a3 0 = 10 := by unfold gend; simp only [List.length_cons] at hl ⊢; simp [hl]
          rw [hg, if_pos hl]
          exact ⟨by decide, rfl⟩
        · left
          have hg : gend (x :: r).length a3 0 = 0 := by unfold gend; simp only [List.length_cons] at hl ⊢; simp [hl]
          rw [hg, if_neg hl]
          exact ⟨rfl, ns, vs, bs, rfl, p1, p2, p3⟩
      · right
        have hg : gend (x :: r).length a3 e3 = e3 := by unfold gend; simp [n3]
        rw [hg]
        exact ⟨n3, rfl⟩
    · right
      rw [if_pos n2] at h3
      subst h3
      rcases q3 with ⟨rfl, bs, h, _⟩ | ⟨n3, h⟩
      · cases h
      · cases h
        have hg : gend (x :: r).length a3 e2 = e2 := by unfold gend; simp [n3]
        rw [hg]
        exact ⟨n3, rfl⟩
  · right
    rw [if_pos n1] at h2
    subst h2
    rcases q2 with ⟨rfl, vs, h, _⟩ | ⟨n2, h⟩
    · cases h
    · cases h
      rw [if_pos n1] at h3
      subst h3
      rcases q3 with ⟨rfl, bs, h, _⟩ | ⟨n3, h⟩
      · cases h
      · cases h
        have hg : gend (x :: r).length a3 e1 = e1 := by unfold gend; simp [n3]
        rw [hg]
        exact ⟨n3, rfl⟩
end Go.Proofs.Ytgamhgeiceakeaa
/- frame.Get, by contract. -/
set_option linter.unusedVariables false
set_option linter.unusedSimpArgs false
namespace Go.Proofs.Ytgamhgeiceakeaa
open Go.RowKit
open By (Bs)
open Va (V)
open Me (Ms)
abbrev mz : Array Value := #[.int .u8 0, .slice none 0 0, .slice none 0 0, .slice none 0 0]
namespace Me
/-- Get -/
def getAll (b : Bs) : Except Nat Ms := if 1048576 < b.length then .error 3 else if (By.opn b).2 ≠ 0 then .error (By.opn b).2 else get (By.opn b).1
end Me
/-- what Get answers -/
def MgPost (R : Except Nat Ms) (w : World) (e : Ending) (w' : World) : Prop := match R with
  | .error er => e = .returned (.tuple #[.agg mz, .int .i64 er]) ∧ er ≠ 0 ∧ Below w.heap.size w w'
  | .ok m => ∃ bn bv bb cn cv cb, e = .returned (.tuple #[.agg (mcells m bn bv bb cn cv cb), .int .i64 0]) ∧ RM (fun b => w.heap.size ≤ b) w' m bn bv bb cn cv cb ∧ Below w.heap.size w w'
/-- the result's box, the message's box -/
structure GB (w : World) (M : Nat) (mc : Array Value) (W : World) : Prop where
  res : Blk W w.heap.size mz 30
  msg : Blk W M mc 30
  bl : Below w.heap.size w W
theorem GB.past {w W W' : World} {M : Nat} {mc : Array Value} (h : GB w M mc W) (hb : Below W.heap.size W W') : GB w M mc W' := ⟨h.res.below hb, h.msg.below hb, h.bl.trans (hb.mono h.bl.size)⟩
theorem GB.grow {w W W' : World} {M p : Nat} {mc : Array Value} (h : GB w M mc W) (hg : W.grownBy W' (some p)) (hp : w.heap.size < p) (hM : M ≠ p) : GB w M mc W' :=
  ⟨h.res.kept hg (fun e => by have := Option.some.inj e; omega), h.msg.kept hg (fun e => hM (Option.some.inj e)), h.bl.grown hg h.bl.size (fun k hk => by cases hk; omega)⟩
theorem GB.put {w W : World} {M : Nat} {mc : Array Value} (h : GB w M mc W) (hM : w.heap.size < M) (i : Nat) (u : Value) : GB w M (mc.setIfInBounds i u) (W.setCell ⟨M, i, none⟩ u) :=
  ⟨h.res.kept (grown_set (grown_refl _ _) i u) (fun e => by have := Option.some.inj e; omega), h.msg.set i u, h.bl.setCell (Nat.le_of_lt hM) u⟩
theorem results_cell_row2 {P : Program} {fn : Func} {p u : Tmp} {ty : TypeId} (h : fn.results = #[.cell p ty, .tmp u]) (tmps : Array Value) (w : World) (g : Nat) (t : TypeId) (cs : Array Value) (fr : Nat × Nat) (d : TypeDesc)
    (hp : tmps.getD p undef = .pointer (some ⟨g, 0, none⟩)) (hg : w.heap[g]? = some (.cells cs t fr))
    (hu : P.underlying ty = some d) (hd : (match d with | .struct _ | .array _ _ => true | _ => false) = true) (hi : (P.info? ty).map (·.size) = some cs.size) :
    (results fn tmps).run P w = .ok (.tuple #[.agg cs, tmps.getD u undef]) w := by
  have hp' : tmps[p]?.getD undef = .pointer (some ⟨g, 0, none⟩) := by simpa using hp
  simp [results, h, hp', asAddr, run_loadVar_row w g t ty cs fr d hg hu hd hi]
theorem put4_belowM {w W : World} (hb : Below w.heap.size w W) (q : Nat) (hq : w.heap.size ≤ q) (a b c d : Value) : Below w.heap.size w ((((W.setCell ⟨q, 0, none⟩ a).setCell ⟨q, 1, none⟩ b).setCell ⟨q, 2, none⟩ c).setCell ⟨q, 3, none⟩ d) :=
  (((hb.setCell hq _).setCell hq _).setCell hq _).setCell hq _
set_option maxHeartbeats 3200000 in
set_option maxRecDepth 100000 in
theorem mget_long (ba : Option Addr) (n cap : Nat) (w : World) (hm : 1048576 < n) : Calls Try.prog 11 #[.slice ba n cap] w (MgPost (.error 3) w) := by
  have hA := (Below.refl w.heap.size w).alloc (Nat.le_refl _) (.cells mz 30)
  have HA := Lib.hid hA
  have HR0 := Lib.hid (Blk.new w mz 30)
  have CO := Lib.hid (fun W => (show Calls Try.prog 33 #[.slice ba n cap, .int .i64 1048576] W _ from opened_long ba n cap 1048576 W hm))
  clear hA
  go_enter Try.func11, Try.ntmps11
  go_wp2_with fail
  with_reducible refine (CO.out _).mono ?_
  rintro e w1 ⟨rfl, rfl⟩
  go_wp2
  have QF := HR0.out.below ((Below.refl _ _).alloc (Nat.le_refl _) (.cells #[.pointer none] 64))
  (try simp only [Exit.inBlock, Exit.then])
  refine bodyPost_ret (results_cell_row2 rfl _ _ w.heap.size 30 _ (0, 0) _ rfl QF Try.underlying30 rfl (by kernel_rfl)) rfl ?_
  exact ⟨rfl, by decide, HA.out.alloc (by simp) _⟩
set_option maxHeartbeats 3200000 in
set_option maxRecDepth 100000 in
theorem mget_sum (ba : Option Addr) (n cap : Nat) (l d : Bs) (er : Nat) (w : World) (hn : l.length = n) (hr : Rd w ba l) (hb : ba = none → n = 0) (hc : n ≤ cap) (hm : n ≤ 1048576) (hd : By.opn l = (d, er)) (her : er ≠ 0) :
    Calls Try.prog 11 #[.slice ba n cap] w (MgPost (.error er) w) := by
  have hA := (Below.refl w.heap.size w).alloc (Nat.le_refl _) (.cells mz 30)
  have C0 := opened_any ba n cap 1048576 l (w.alloc (.cells mz 30)) hn (hr.below hA) hb (by omega) hc hm
  rw [hd] at C0
  have CO := Lib.hid (show Calls Try.prog 33 #[.slice ba n cap, .int .i64 1048576] (w.alloc (.cells mz 30)) _ from C0)
  have HA := Lib.hid hA
  have HR0 := Lib.hid (Blk.new w mz 30)
  clear hA C0 hr hb hc hd hn
  have hne : ((er : Int) != 0) = true := by rw [bne_iff_ne]; omega
  go_enter Try.func11, Try.ntmps11
  go_wp2_with fail
  with_reducible refine (CO.out).mono ?_
  rintro e w1 ⟨p, v1, rfl, -, -, -, hp, hb1⟩
  have HB1 := Lib.hid (HA.out.trans (hb1.mono (by simp)))
  have hal : Below w1.heap.size w1 (w1.alloc (.cells #[.pointer (some ⟨p, 0, none⟩)] 64)) := (Below.refl _ _).alloc (Nat.le_refl _) _
  have HR1 := Lib.hid ((HR0.out.below hb1).below hal)
  have a0 := HR1.out.cell 0
  have a1 := HR1.out.cell 1
  have a2 := HR1.out.cell 2
  have a3 := HR1.out.cell 3
  have alt := HR1.out.lt
  have f0 := HR1.out.free 0
  have f1 := HR1.out.free 1
  have f2 := HR1.out.free 2
  have f3 := HR1.out.free 3
  clear hb1 hal
  go_wp2
  have QF := (((HR1.out.set 0 (.int .u8 0)).set 1 (.slice none 0 0)).set 2 (.slice none 0 0)).set 3 (.slice none 0 0)
  (try simp only [Exit.inBlock, Exit.then])
  refine bodyPost_ret (results_cell_row2 rfl _ _ w.heap.size 30 _ (0, 0) _ rfl QF Try.underlying30 rfl (by kernel_rfl)) rfl ?_
  exact ⟨rfl, her, put4_belowM (HB1.out.alloc HB1.out.size _) _ (Nat.le_refl _) _ _ _ _⟩
set_option maxHeartbeats 3200000 in
set_option maxRecDepth 100000 in
theorem mget_in (ba : Option Addr) (n cap : Nat) (l d : Bs) (w : World) (hn : l.length = n) (hr : Rd w ba l) (hb : ba = none → n = 0) (hc : n ≤ cap) (hm : n ≤ 1048576) (hd : By.opn l = (d, 0)) (hdl : d.length ≤ n) :
    Calls Try.prog 11 #[.slice ba n cap] w (MgPost (Me.get d) w) := by
  have hA := (Below.refl w.heap.size w).alloc (Nat.le_refl _) (.cells mz 30)
  have C0 := opened_any ba n cap 1048576 l (w.alloc (.cells mz 30)) hn (hr.below hA) hb (by omega) hc hm
  rw [hd] at C0
  have CO := Lib.hid (show Calls Try.prog 33 #[.slice ba n cap, .int .i64 1048576] (w.alloc (.cells mz 30)) _ from C0)
  have HA := Lib.hid hA
  have HR0 := Lib.hid (Blk.new w mz 30)
  clear hA C0 hr hb hc hd hn
  go_enter Try.func11, Try.ntmps11
  go_wp2_with fail
  with_reducible refine (CO.out).mono ?_
  rintro e w1 ⟨p, v1, rfl, hgt, hown, hvp, hp, hb1⟩
  obtain ⟨g1, c1, rfl, hrd, hnil, hcap⟩ := hown.rd
  have hp1 : w.heap.size < p := by simp at hp; omega
  have hplt := hgt.lt
  have hq2 : (w1.alloc (.cells #[.pointer (some ⟨p, 0, none⟩)] 64)).heap.size = w1.heap.size + 1 := by simp
  have hal1 : Below w1.heap.size w1 (w1.alloc (.cells #[.pointer (some ⟨p, 0, none⟩)] 64)) := (Below.refl _ _).alloc (Nat.le_refl _) _
  have hal2 := (Below.refl (w1.alloc (.cells #[.pointer (some ⟨p, 0, none⟩)] 64)).heap.size (w1.alloc (.cells #[.pointer (some ⟨p, 0, none⟩)] 64))).alloc (Nat.le_refl _) (.cells mz 30)
  have hal3 := hal1.trans (hal2.mono hal1.size)
  have HGS := Lib.hid (show GS p w1.heap.size g1 d.length c1 d 0 0 ((w1.alloc (.cells #[.pointer (some ⟨p, 0, none⟩)] 64)).alloc (.cells mz 30)) from
    ⟨hgt.below hal3, (Blk.new w1 _ _).below hal2, hrd.below hal3, rfl, hnil, hcap, by omega, Nat.zero_le _, by omega, fun b o e => by have := hvp b (by rw [e]; rfl); omega⟩)
  have hsz0 : (w.alloc (.cells mz 30)).heap.size = w.heap.size + 1 := by simp
  have hBM := Blk.new (w1.alloc (.cells #[.pointer (some ⟨p, 0, none⟩)] 64)) mz 30
  rw [hq2] at hBM
  have HGB := Lib.hid (show GB w (w1.heap.size + 1) mz ((w1.alloc (.cells #[.pointer (some ⟨p, 0, none⟩)] 64)).alloc (.cells mz 30)) from
    ⟨(HR0.out.below hb1).below hal3, hBM, (HA.out.trans (hb1.mono (by omega))).trans (hal3.mono (by have := hb1.size; omega))⟩)
  have hszA : w.heap.size + 1 ≤ w1.heap.size := by have := hb1.size; omega
  have hbqp : ∀ b o, g1 = some (⟨b, o, none⟩ : Addr) → b < p := fun b o e => hvp b (by rw [e]; rfl)
  have hpw1 := hplt
  have c0 := HGS.out.gt.cell 0
  have clt := HGS.out.gt.lt
  have q0 := HGS.out.bx.cell 0
  have qlt := HGS.out.bx.lt
  have m0 := HGB.out.msg.cell 0
  have m1 := HGB.out.msg.cell 1
  have m2 := HGB.out.msg.cell 2
  have m3 := HGB.out.msg.cell 3
  have mlt := HGB.out.msg.lt
  clear hgt hown hvp hb1 hrd hnil hcap hal1 hal2 hal3 hBM CO HA HR0 hplt
  cases d with
  | nil =>
    have a0 := HGB.out.res.cell 0
    have a1 := HGB.out.res.cell 1
    have a2 := HGB.out.res.cell 2
    have a3 := HGB.out.res.cell 3
    have alt := HGB.out.res.lt
    have f0 := HGB.out.res.free 0
    have f1 := HGB.out.res.free 1
    have f2 := HGB.out.res.free 2
    have f3 := HGB.out.res.free 3
    go_wp2
    have QF := (((HGB.out.res.set 0 (.int .u8 0)).set 1 (.slice none 0 0)).set 2 (.slice none 0 0)).set 3 (.slice none 0 0)
    (try simp only [Exit.inBlock, Exit.then])
    refine bodyPost_ret (results_cell_row2 rfl _ _ w.heap.size 30 _ (0, 0) _ rfl QF Try.underlying30 rfl (by kernel_rfl)) rfl ?_
    exact ⟨rfl, by decide, put4_belowM HGB.out.bl _ (Nat.le_refl _) _ _ _ _⟩
  | cons x r =>
    have hx0 : ((x :: r).length == 0) = false := rfl
    obtain ⟨bq, oq, hbq, hbqlt, hcell⟩ : ∃ b o, g1 = some (⟨b, o, none⟩ : Addr) ∧ b < ((w1.alloc (.cells #[.pointer (some ⟨p, 0, none⟩)] 64)).alloc (.cells mz 30)).heap.size ∧ ((w1.alloc (.cells #[.pointer (some ⟨p, 0, none⟩)] 64)).alloc (.cells mz 30)).cell? ⟨b, o, none⟩ = some (.int .u8 (x.toNat : Nat)) := by
      rcases HGS.out.rd with h | ⟨b, o, e, hlt, hc⟩
      · cases h
      · exact ⟨b, o, e, hlt, by have := hc 0 (by simp); simpa using this⟩
    have hbp := hbqp bq oq hbq
    subst hbq
    have HBC := Lib.hid hcell
    go_upto_region 7 with (fail)
    clear c0 clt q0 qlt m0 m1 m2 m3 mlt hcell
    refine (?_ : ∀ W, (GS p w1.heap.size (some ⟨bq, oq, none⟩) (r.length + 1) c1 (x :: r) 0 0 W ∧ GB w (w1.heap.size + 1) mz W ∧ W.cell? ⟨bq, oq, none⟩ = some (.int .u8 (x.toNat : Nat)) ∧ bq < W.heap.size ∧ w1.heap.size + 2 ≤ W.heap.size) → Code.wp _ _ _ _ W) _ ⟨HGS.out, HGB.out, HBC.out, hbqlt, by simp⟩
    clear HGS HGB HBC hbqlt
    rintro W2 ⟨hgs, hgb, hbc, hbl, hsz2⟩
    have hdr : Below W2.heap.size W2 W2.drew := (Below.refl _ _).drew
    have hbc2 : W2.drew.cell? ⟨bq, oq, none⟩ = some (.int .u8 (x.toNat : Nat)) := hbc
    have HGS := Lib.hid (hgs.past hdr)
    have HGB := Lib.hid (hgb.past hdr)
    have HBC := Lib.hid hbc2
    have hbl2 : bq < W2.drew.heap.size := hbl
    have hsz3 : w1.heap.size + 2 ≤ W2.drew.heap.size := hsz2
    clear hbqp
    refine wp_region_T_drew (fun w' => w'.cell? ⟨w1.heap.size, 0, none⟩ = some (.pointer (some ⟨p, 0, none⟩)) ∧ w'.cell? ⟨p, 0, none⟩ = some (.slice (some ⟨bq, oq, none⟩) (r.length + 1) c1) ∧ w'.cell? ⟨bq, oq, none⟩ = some (.int .u8 (x.toNat : Nat))) 12 (by kernel_rfl) ⟨HGS.out.bx.cell 0, HGS.out.gt.cell 0, hbc2⟩ (fun hS => ?_)
    clear hgs hgb hbc hdr hbc2
    refine wpAnyT_take 0 rfl (by kernel_rfl) (by kernel_rfl) (by decide) (by kernel_rfl) (by kernel_rfl) (fun _ _ _ h => h) hS (by kernel_rfl) (v := ?_) ?_ ?_
    rotate_left
    · intro w' hSw; (try dsimp only at hSw); go_simp; (try with_reducible rfl)
    simp only [Act.put, List.setIfInBounds_toArray, List.set_cons_zero, List.set_cons_succ]
    refine wpAnyT_take 1 rfl (by kernel_rfl) (by kernel_rfl) (by decide) (by kernel_rfl) (by kernel_rfl) (fun _ _ _ h => h) hS (by kernel_rfl) (v := ?_) ?_ ?_
    rotate_left
    · intro w' hSw; (try dsimp only at hSw); go_simp; (try with_reducible rfl)
    simp only [Act.put, List.setIfInBounds_toArray, List.set_cons_zero, List.set_cons_succ]
    refine wpAnyT_take 2 rfl (by kernel_rfl) (by kernel_rfl) (by decide) (by kernel_rfl) (by kernel_rfl) (fun _ _ _ h => h) hS (by kernel_rfl) (v := ?_) ?_ ?_
    rotate_left
    · intro w' hSw; (try dsimp only at hSw); go_simp; (try with_reducible rfl)
    simp only [Act.put, List.setIfInBounds_toArray, List.set_cons_zero, List.set_cons_succ]
    refine wpAnyT_take 3 rfl (by kernel_rfl) (by kernel_rfl) (by decide) (by kernel_rfl) (by kernel_rfl) (fun _ _ _ h => h) hS (by kernel_rfl) (v := ?_) ?_ ?_
    rotate_left
    · intro w' hSw; (try dsimp only at hSw); go_simp; (try with_reducible rfl)
    simp only [Act.put, List.setIfInBounds_toArray, List.set_cons_zero, List.set_cons_succ]
    refine wpAnyT_take 4 rfl (by kernel_rfl) (by kernel_rfl) (by decide) (by kernel_rfl) (by kernel_rfl) (fun _ _ _ h => h) hS (by kernel_rfl) (v := ?_) ?_ ?_
    rotate_left
    · intro w' hSw; (try dsimp only at hSw); go_simp; (try with_reducible rfl)
    simp only [Act.put, List.setIfInBounds_toArray, List.set_cons_zero, List.set_cons_succ]
    refine wpAnyT_take 5 rfl (by kernel_rfl) (by kernel_rfl) (by decide) (by kernel_rfl) (by kernel_rfl) (fun _ _ _ h => h) hS (by kernel_rfl) (v := ?_) ?_ ?_
    rotate_left
    · intro w' hSw; (try dsimp only at hSw); go_simp; (try with_reducible rfl)
    simp only [Act.put, List.setIfInBounds_toArray, List.set_cons_zero, List.set_cons_succ]
    refine wpAnyT_take 6 rfl (by kernel_rfl) (by kernel_rfl) (by decide) (by kernel_rfl) (by kernel_rfl) (fun _ _ _ h => h) hS (by kernel_rfl) (v := ?_) ?_ ?_
    rotate_left
    · intro w' hSw; (try dsimp only at hSw); go_simp; (try with_reducible rfl)
    simp only [Act.put, List.setIfInBounds_toArray, List.set_cons_zero, List.set_cons_succ]
    refine wpAnyT_pure 7 rfl (by kernel_rfl) (by decide) (by kernel_rfl) (by kernel_rfl) (fun _ _ _ h => h) hS (by kernel_rfl) (v := ?_) ?_ ?_
    rotate_left
    · intro w'; go_simp; (try with_reducible rfl)
    simp only [Act.put, List.setIfInBounds_toArray, List.set_cons_zero, List.set_cons_succ]
    have m0 := HGB.out.msg.cell 0
    have mlt := HGB.out.msg.lt
    have mf := HGB.out.msg.free 0
    refine wpAnyT_one 8 (by kernel_rfl) rfl (by kernel_rfl) (fun K hK => ?_)
    go_simp
    have hg8 : W2.drew.grownBy (W2.setCell ⟨w1.heap.size + 1, 0, none⟩ (.int .u8 (x.toNat : Nat))).drew (some (w1.heap.size + 1)) := grown_set (grown_refl W2.drew _) 0 (.int .u8 (x.toNat : Nat))
    have HGB8 := Lib.hid (show GB w (w1.heap.size + 1) #[.int .u8 (x.toNat : Nat), .slice none 0 0, .slice none 0 0, .slice none 0 0] (W2.setCell ⟨w1.heap.size + 1, 0, none⟩ (.int .u8 (x.toNat : Nat))).drew from HGB.out.put (by omega) 0 (.int .u8 (x.toNat : Nat)))
    have HGS8 := Lib.hid (gs_other HGS.out hg8 (by omega) (by omega) (rd_gen HGS.out.rd hg8 (fun b o e e2 => by cases e; cases e2; omega)))
    have hc8 : (W2.setCell ⟨w1.heap.size + 1, 0, none⟩ (.int .u8 (x.toNat : Nat))).drew.cell? ⟨bq, oq, none⟩ = some (.int .u8 (x.toNat : Nat)) := by
      rw [World.cell?_of_block (w := W2.drew) (hg8.block bq hbl2 (fun e => by cases e; omega))]; exact HBC.out
    have hS : _ ∧ _ ∧ _ := ⟨HGS8.out.bx.cell 0, HGS8.out.gt.cell 0, hc8⟩
    refine hK _ _ (fun _ => hS) ?_
    clear hK K m0 mlt mf HGS HGB
    refine wpAnyT_pure 9 rfl (by kernel_rfl) (by decide) (by kernel_rfl) (by kernel_rfl) (fun _ _ _ h => h) hS (by kernel_rfl) (v := ?_) ?_ ?_
    rotate_left
    · intro w'; go_simp; (try with_reducible rfl)
    simp only [Act.put, List.setIfInBounds_toArray, List.set_cons_zero, List.set_cons_succ]
    refine wpAnyT_pure 10 rfl (by kernel_rfl) (by decide) (by kernel_rfl) (by kernel_rfl) (fun _ _ _ h => h) hS (by kernel_rfl) (v := ?_) ?_ ?_
    rotate_left
    · intro w'; go_simp; (try with_reducible rfl)
    simp only [Act.put, List.setIfInBounds_toArray, List.set_cons_zero, List.set_cons_succ]
    have p1 := HGS8.out.gt.cell 1
    have plt := HGS8.out.gt.lt
    have pf := HGS8.out.gt.free 1
    refine wpAnyT_one 11 (by kernel_rfl) rfl (by kernel_rfl) (fun K hK => ?_)
    go_simp
    have hg9 : (W2.setCell ⟨w1.heap.size + 1, 0, none⟩ (.int .u8 (x.toNat : Nat))).drew.grownBy ((W2.setCell ⟨w1.heap.size + 1, 0, none⟩ (.int .u8 (x.toNat : Nat))).setCell ⟨p, 1, none⟩ (.int .i64 1)).drew (some p) := grown_set (grown_refl (W2.setCell ⟨w1.heap.size + 1, 0, none⟩ (.int .u8 (x.toNat : Nat))).drew _) 1 (.int .i64 1)
    have HGS9 := Lib.hid (HGS8.out.grow hg9 (show Gt ((W2.setCell ⟨w1.heap.size + 1, 0, none⟩ (.int .u8 (x.toNat : Nat))).setCell ⟨p, 1, none⟩ (.int .i64 1)).drew p _ 1 0 from HGS8.out.gt.set 1 (.int .i64 1)) (by omega))
    have HGB9 := Lib.hid (HGB8.out.grow hg9 hp1 (by omega))
    have hc9 : ((W2.setCell ⟨w1.heap.size + 1, 0, none⟩ (.int .u8 (x.toNat : Nat))).setCell ⟨p, 1, none⟩ (.int .i64 1)).drew.cell? ⟨bq, oq, none⟩ = some (.int .u8 (x.toNat : Nat)) := by
      rw [World.cell?_of_block (w := (W2.setCell ⟨w1.heap.size + 1, 0, none⟩ (.int .u8 (x.toNat : Nat))).drew) (hg9.block bq (Nat.lt_of_lt_of_le hbl2 hg8.size) (fun e => by cases e; omega))]; exact hc8
    have hS : _ ∧ _ ∧ _ := ⟨HGS9.out.bx.cell 0, HGS9.out.gt.cell 0, hc9⟩
    have hsz9 : w1.heap.size + 2 ≤ ((W2.setCell ⟨w1.heap.size + 1, 0, none⟩ (.int .u8 (x.toNat : Nat))).setCell ⟨p, 1, none⟩ (.int .i64 1)).drew.heap.size := Nat.le_trans hsz3 (Nat.le_trans hg8.size hg9.size)
    refine hK _ _ (fun _ => hS) ?_
    clear hK K p1 plt pf HGS8 HGB8
    refine wpAnyT_done (by kernel_rfl) ?_
    clear hS hc8 hc9 hg8 hg9 hbl2 hsz3 HBC
    go_upto_region 8 with (fail)
    refine (?_ : ∀ W, (GS p w1.heap.size (some ⟨bq, oq, none⟩) (r.length + 1) c1 (x :: r) 1 0 W ∧ GB w (w1.heap.size + 1) #[.int .u8 (x.toNat : Nat), .slice none 0 0, .slice none 0 0, .slice none 0 0] W ∧ w1.heap.size + 2 ≤ W.heap.size) → Code.wp _ _ _ _ W) _ ⟨HGS9.out, HGB9.out, hsz9⟩
    clear HGS9 HGB9 hsz9 hsz2 hbl
    rintro W9 ⟨hgs9, hgb9, hsz9⟩
    have HGSW9 := Lib.hid hgs9
    have HGBW9 := Lib.hid hgb9
    have q0 := hgs9.bx.cell 0
    have qlt := hgs9.bx.lt
    clear hgs9 hgb9
    go_wp2_with fail
    clear q0 qlt
    with_reducible refine (listN_any p w1.heap.size (some ⟨bq, oq, none⟩) (r.length + 1) c1 (x :: r) 1 0 W9 HGSW9.out _ rfl).mono ?_
    rintro e X1 ⟨gX1, mX1, cX1, aX1, eX1, rfl, hgs, hgr, hls⟩
    have hszX : W9.heap.size ≤ X1.heap.size := hgr.size
    have HGB1X1 := Lib.hid (HGBW9.out.grow hgr hp1 (by omega))
    have hgM : X1.grownBy (X1.setCell ⟨w1.heap.size + 1, 1, none⟩ (.slice gX1 mX1 cX1)) (some (w1.heap.size + 1)) := grown_set (grown_refl _ _) _ _
    have HGBY1 := Lib.hid (show GB w (w1.heap.size + 1) #[.int .u8 (x.toNat : Nat), .slice gX1 mX1 cX1, .slice none 0 0, .slice none 0 0] (X1.setCell ⟨w1.heap.size + 1, 1, none⟩ (.slice gX1 mX1 cX1)) from HGB1X1.out.put (by omega) 1 (.slice gX1 mX1 cX1))
    have HGSY1 := Lib.hid (gs_other hgs hgM (by omega) (by omega) (rd_gen hgs.rd hgM (fun b o e e2 => by cases e; cases e2; omega)))
    have HLSY1 := Lib.hid (LsR.keep hls (fun xs hx => hx.keep hgM (show w1.heap.size + 1 < W9.heap.size by omega)))
    have hrX1 := hgr
    have hMX1 := hgM
    have hszY1 : w1.heap.size + 2 ≤ (X1.setCell ⟨w1.heap.size + 1, 1, none⟩ (.slice gX1 mX1 cX1)).heap.size := by simp; omega
    have q0X1 := HGSY1.out.bx.cell 0
    have qltX1 := HGSY1.out.bx.lt
    have mc := HGB1X1.out.msg.cell 1
    have mlt := HGB1X1.out.msg.lt
    have mf := HGB1X1.out.msg.free 1
    have qq0 := hgs.bx.cell 0
    have qqlt := hgs.bx.lt
    clear hgs hls hgr hgM hszX
    go_upto_region 9 with (fail)
    refine (?_ : ∀ W, (GS p w1.heap.size (some ⟨bq, oq, none⟩) (r.length + 1) c1 (x :: r) aX1 eX1 W ∧ GB w (w1.heap.size + 1) #[.int .u8 (x.toNat : Nat), .slice gX1 mX1 cX1, .slice none 0 0, .slice none 0 0] W ∧ LsR (RowN W9.heap.size) (manyE (x :: r) 64 (Me.num (x :: r)) 1 0) aX1 eX1 W (.slice gX1 mX1 cX1) ∧ w1.heap.size + 2 ≤ W.heap.size) → Code.wp _ _ _ _ W) _ ⟨HGSY1.out, HGBY1.out, HLSY1.out, hszY1⟩
    clear HGSW9 HGBW9 HGBY1 HGSY1 HLSY1 hrX1 hMX1 hszY1 q0X1 qltX1 mc mlt mf qq0 qqlt HGB1X1
    rintro W10 ⟨hgs10, hgb10, hl1, hsz10⟩
    have HGSW10 := Lib.hid hgs10
    have HGBW10 := Lib.hid hgb10
    have HL1 := Lib.hid hl1
    have q0 := hgs10.bx.cell 0
    have qlt := hgs10.bx.lt
    clear hgs10 hgb10 hl1
    go_wp2_with fail
    clear q0 qlt
    with_reducible refine (listV_any p w1.heap.size (some ⟨bq, oq, none⟩) (r.length + 1) c1 (x :: r) aX1 eX1 W10 HGSW10.out _ rfl).mono ?_
    rintro e X2 ⟨gX2, mX2, cX2, aX2, eX2, rfl, hgs, hgr, hls⟩
    have hszX : W10.heap.size ≤ X2.heap.size := hgr.size
    have HGB1X2 := Lib.hid (HGBW10.out.grow hgr hp1 (by omega))
    have hgM : X2.grownBy (X2.setCell ⟨w1.heap.size + 1, 2, none⟩ (.slice gX2 mX2 cX2)) (some (w1.heap.size + 1)) := grown_set (grown_refl _ _) _ _
    have HGBY2 := Lib.hid (show GB w (w1.heap.size + 1) #[.int .u8 (x.toNat : Nat), .slice gX1 mX1 cX1, .slice gX2 mX2 cX2, .slice none 0 0] (X2.setCell ⟨w1.heap.size + 1, 2, none⟩ (.slice gX2 mX2 cX2)) from HGB1X2.out.put (by omega) 2 (.slice gX2 mX2 cX2))
    have HGSY2 := Lib.hid (gs_other hgs hgM (by omega) (by omega) (rd_gen hgs.rd hgM (fun b o e e2 => by cases e; cases e2; omega)))
    have HLSY2 := Lib.hid (LsR.keep hls (fun xs hx => hx.keep hgM (show w1.heap.size + 1 < W10.heap.size by omega)))
    have hrX2 := hgr
    have hMX2 := hgM
    have hszY2 : w1.heap.size + 2 ≤ (X2.setCell ⟨w1.heap.size + 1, 2, none⟩ (.slice gX2 mX2 cX2)).heap.size := by simp; omega
    have q0X2 := HGSY2.out.bx.cell 0
    have qltX2 := HGSY2.out.bx.lt
    have mc := HGB1X2.out.msg.cell 2
    have mlt := HGB1X2.out.msg.lt
    have mf := HGB1X2.out.msg.free 2
    have qq0 := hgs.bx.cell 0
    have qqlt := hgs.bx.lt
    clear hgs hls hgr hgM hszX
    have HL12 := Lib.hid ((HL1.out.keep (fun xs hx => hx.keep hrX2 (show p < W9.heap.size by omega))).keep (fun xs hx => hx.keep hMX2 (show w1.heap.size + 1 < W9.heap.size by omega)))
    go_upto_region 10 with (fail)
    refine (?_ : ∀ W, (GS p w1.heap.size (some ⟨bq, oq, none⟩) (r.length + 1) c1 (x :: r) aX2 eX2 W ∧ GB w (w1.heap.size + 1) #[.int .u8 (x.toNat : Nat), .slice gX1 mX1 cX1, .slice gX2 mX2 cX2, .slice none 0 0] W ∧ LsR (RowN W9.heap.size) (manyE (x :: r) 64 (Me.num (x :: r)) 1 0) aX1 eX1 W (.slice gX1 mX1 cX1) ∧ LsR (RowV W10.heap.size) (manyE (x :: r) 64 (Me.val (x :: r)) aX1 eX1) aX2 eX2 W (.slice gX2 mX2 cX2) ∧ w1.heap.size + 2 ≤ W.heap.size) → Code.wp _ _ _ _ W) _ ⟨HGSY2.out, HGBY2.out, HL12.out, HLSY2.out, hszY2⟩
    clear HGSW10 HGBW10 HGBY2 HGSY2 HLSY2 hrX2 hMX2 hszY2 q0X2 qltX2 mc mlt mf qq0 qqlt HL1 HL12 HGB1X2
    rintro W11 ⟨hgs11, hgb11, hl1, hl2, hsz11⟩
    have HGSW11 := Lib.hid hgs11
    have HGBW11 := Lib.hid hgb11
    have HL1 := Lib.hid hl1
    have HL2 := Lib.hid hl2
    have q0 := hgs11.bx.cell 0
    have qlt := hgs11.bx.lt
    clear hgs11 hgb11 hl1 hl2
    go_wp2_with fail
    clear q0 qlt
    with_reducible refine (listB_any p w1.heap.size (some ⟨bq, oq, none⟩) (r.length + 1) c1 (x :: r) aX2 eX2 W11 HGSW11.out _ rfl).mono ?_
    rintro e X3 ⟨gX3, mX3, cX3, aX3, eX3, rfl, hgs, hgr, hls⟩
    have hszX : W11.heap.size ≤ X3.heap.size := hgr.size
    have HGB1X3 := Lib.hid (HGBW11.out.grow hgr hp1 (by omega))
    have hgM : X3.grownBy (X3.setCell ⟨w1.heap.size + 1, 3, none⟩ (.slice gX3 mX3 cX3)) (some (w1.heap.size + 1)) := grown_set (grown_refl _ _) _ _
    have HGBY3 := Lib.hid (show GB w (w1.heap.size + 1) #[.int .u8 (x.toNat : Nat), .slice gX1 mX1 cX1, .slice gX2 mX2 cX2, .slice gX3 mX3 cX3] (X3.setCell ⟨w1.heap.size + 1, 3, none⟩ (.slice gX3 mX3 cX3)) from HGB1X3.out.put (by omega) 3 (.slice gX3 mX3 cX3))
    have HGSY3 := Lib.hid (gs_other hgs hgM (by omega) (by omega) (rd_gen hgs.rd hgM (fun b o e e2 => by cases e; cases e2; omega)))
    have HLSY3 := Lib.hid (LsR.keep hls (fun xs hx => hx.keep hgM (show w1.heap.size + 1 < W11.heap.size by omega)))
    have hrX3 := hgr
    have hMX3 := hgM
    have hszY3 : w1.heap.size + 2 ≤ (X3.setCell ⟨w1.heap.size + 1, 3, none⟩ (.slice gX3 mX3 cX3)).heap.size := by simp; omega
    have q0X3 := HGSY3.out.bx.cell 0
    have qltX3 := HGSY3.out.bx.lt
    have mc := HGB1X3.out.msg.cell 3
    have mlt := HGB1X3.out.msg.lt
    have mf := HGB1X3.out.msg.free 3
    have qq0 := hgs.bx.cell 0
    have qqlt := hgs.bx.lt
    clear hgs hls hgr hgM hszX
    have HL13 := Lib.hid ((HL1.out.keep (fun xs hx => hx.keep hrX3 (show p < W9.heap.size by omega))).keep (fun xs hx => hx.keep hMX3 (show w1.heap.size + 1 < W9.heap.size by omega)))
    have HL23 := Lib.hid ((HL2.out.keep (fun xs hx => hx.keep hrX3 (show p < W10.heap.size by omega))).keep (fun xs hx => hx.keep hMX3 (show w1.heap.size + 1 < W10.heap.size by omega)))
    go_upto_region 11 with (fail)
    refine (?_ : ∀ W, (GS p w1.heap.size (some ⟨bq, oq, none⟩) (r.length + 1) c1 (x :: r) aX3 eX3 W ∧ GB w (w1.heap.size + 1) #[.int .u8 (x.toNat : Nat), .slice gX1 mX1 cX1, .slice gX2 mX2 cX2, .slice gX3 mX3 cX3] W ∧ LsR (RowN W9.heap.size) (manyE (x :: r) 64 (Me.num (x :: r)) 1 0) aX1 eX1 W (.slice gX1 mX1 cX1) ∧ LsR (RowV W10.heap.size) (manyE (x :: r) 64 (Me.val (x :: r)) aX1 eX1) aX2 eX2 W (.slice gX2 mX2 cX2) ∧ LsR (RowB W11.heap.size) (manyE (x :: r) 16 (Me.blb (x :: r)) aX2 eX2) aX3 eX3 W (.slice gX3 mX3 cX3) ∧ w1.heap.size + 2 ≤ W.heap.size) → Code.wp _ _ _ _ W) _ ⟨HGSY3.out, HGBY3.out, HL13.out, HL23.out, HLSY3.out, hszY3⟩
    clear HGSW11 HGBW11 HGBY3 HGSY3 HLSY3 hrX3 hMX3 hszY3 q0X3 qltX3 mc mlt mf qq0 qqlt HL1 HL2 HL13 HL23 HGB1X3
    rintro W12 ⟨hgs12, hgb12, hl1, hl2, hl3, hsz12⟩
    have CE := Lib.hid (gend_any p _ _ _ aX3 eX3 W12 hgs12.gt)
    have HGSW12 := Lib.hid hgs12
    have HGBW12 := Lib.hid hgb12
    have HL1 := Lib.hid hl1
    have HL2 := Lib.hid hl2
    have HL3 := Lib.hid hl3
    have q0 := hgs12.bx.cell 0
    have qlt := hgs12.bx.lt
    clear hgs12 hgb12 hl1 hl2 hl3
    go_wp2_with fail
    clear q0 qlt
    with_reducible refine (CE.out).mono ?_
    rintro e W13 ⟨rfl, hg13, hr13⟩
    have HGBW13 := Lib.hid (HGBW12.out.grow hr13 hp1 (by omega))
    have HQ1 := Lib.hid (HL1.out.keep (fun xs hx => hx.keep hr13 (show p < W9.heap.size by omega)))
    have HQ2 := Lib.hid (HL2.out.keep (fun xs hx => hx.keep hr13 (show p < W10.heap.size by omega)))
    have HQ3 := Lib.hid (HL3.out.keep (fun xs hx => hx.keep hr13 (show p < W11.heap.size by omega)))
    clear hg13 hr13 CE HL1 HL2 HL3 HGBW12 HGSW12
    have hch := get_chain (x := x) (r := r) rfl rfl rfl HQ1.out HQ2.out HQ3.out
    rcases hch with ⟨h0, ns, vs, bs, hget, p1, p2, p3⟩ | ⟨hne, hget⟩
    · have h0' : gend (r.length + 1) aX3 eX3 = 0 := h0
      have hk := p1.keep (put4_grown' W13 w.heap.size (.int .u8 (x.toNat : Nat)) (.slice gX1 mX1 cX1) (.slice gX2 mX2 cX2) (.slice gX3 mX3 cX3)) (show w.heap.size < W9.heap.size by omega)
      have hk2 := p2.keep (put4_grown' W13 w.heap.size (.int .u8 (x.toNat : Nat)) (.slice gX1 mX1 cX1) (.slice gX2 mX2 cX2) (.slice gX3 mX3 cX3)) (show w.heap.size < W10.heap.size by omega)
      have hk3 := p3.keep (put4_grown' W13 w.heap.size (.int .u8 (x.toNat : Nat)) (.slice gX1 mX1 cX1) (.slice gX2 mX2 cX2) (.slice gX3 mX3 cX3)) (show w.heap.size < W11.heap.size by omega)
      obtain ⟨e1, k1⟩ := hk.rn (B' := w.heap.size) (by omega)
      obtain ⟨e2, k2⟩ := hk2.rl (B' := w.heap.size) (by omega)
      obtain ⟨e3, k3⟩ := hk3.rb (B' := w.heap.size) (by omega)
      have hI := (Me.get_told _ _ hget).2.2.2.2.2.2.2
      have HRM := Lib.hid (show RM (fun b => w.heap.size ≤ b) _ ⟨x.toNat, ns, vs, bs⟩ gX1 gX2 gX3 cX1 cX2 cX3 from ⟨x.toNat_lt, hI, k1, k2, k3⟩)
      have HGE := Lib.hid hget
      rw [h0']
      clear h0 h0' hget p1 p2 p3 hk hk2 hk3 k1 k2 k3 hI HQ1 HQ2 HQ3
      have a0 := HGBW13.out.res.cell 0
      have f0 := HGBW13.out.res.free 0
      have a1 := HGBW13.out.res.cell 1
      have f1 := HGBW13.out.res.free 1
      have a2 := HGBW13.out.res.cell 2
      have f2 := HGBW13.out.res.free 2
      have a3 := HGBW13.out.res.cell 3
      have f3 := HGBW13.out.res.free 3
      have alt := HGBW13.out.res.lt
      have m0 := HGBW13.out.msg.cell 0
      have m1 := HGBW13.out.msg.cell 1
      have m2 := HGBW13.out.msg.cell 2
      have m3 := HGBW13.out.msg.cell 3
      have mlt := HGBW13.out.msg.lt
      subst e1 e2 e3
      go_wp2
      have QF := (((HGBW13.out.res.set 0 (.int .u8 (x.toNat : Nat))).set 1 (.slice gX1 ns.length cX1)).set 2 (.slice gX2 vs.length cX2)).set 3 (.slice gX3 bs.length cX3)
      (try simp only [Exit.inBlock, Exit.then])
      refine bodyPost_ret (results_cell_row2 rfl _ _ w.heap.size 30 _ (0, 0) _ rfl QF Try.underlying30 rfl (by kernel_rfl)) rfl ?_
      rw [HGE.out]
      exact ⟨gX1, gX2, gX3, cX1, cX2, cX3, rfl, HRM.out, put4_belowM HGBW13.out.bl _ (Nat.le_refl _) _ _ _ _⟩
    · have hne' : gend (r.length + 1) aX3 eX3 ≠ 0 := hne
      have HGE := Lib.hid (show Me.get (x :: r) = .error (gend (r.length + 1) aX3 eX3) from hget)
      clear hne hget HQ1 HQ2 HQ3
      generalize gend (r.length + 1) aX3 eX3 = ge at hne' HGE ⊢
      have hne2 : ((ge : Int) != 0) = true := by rw [bne_iff_ne]; omega
      have a0 := HGBW13.out.res.cell 0
      have f0 := HGBW13.out.res.free 0
      have a1 := HGBW13.out.res.cell 1
      have f1 := HGBW13.out.res.free 1
      have a2 := HGBW13.out.res.cell 2
      have f2 := HGBW13.out.res.free 2
      have a3 := HGBW13.out.res.cell 3
      have f3 := HGBW13.out.res.free 3
      have alt := HGBW13.out.res.lt
      go_wp2
      have QF := (((HGBW13.out.res.set 0 (.int .u8 0)).set 1 (.slice none 0 0)).set 2 (.slice none 0 0)).set 3 (.slice none 0 0)
      (try simp only [Exit.inBlock, Exit.then])
      refine bodyPost_ret (results_cell_row2 rfl _ _ w.heap.size 30 _ (0, 0) _ rfl QF Try.underlying30 rfl (by kernel_rfl)) rfl ?_
      rw [HGE.out]
      exact ⟨rfl, hne', put4_belowM HGBW13.out.bl _ (Nat.le_refl _) _ _ _ _⟩
/-- Get of any bytes -/
theorem mget_any (ba : Option Addr) (n cap : Nat) (l : Bs) (w : World) (hn : l.length = n) (hr : Rd w ba l) (hb : ba = none → n = 0) (hc : n ≤ cap) :
    Calls Try.prog 11 #[.slice ba n cap] w (MgPost (Me.getAll l) w) := by
  unfold Me.getAll
  rw [hn]
  by_cases h : 1048576 < n
  · rw [if_pos h]; exact mget_long ba n cap w h
  · rw [if_neg h]
    rcases hd : By.opn l with ⟨d, er⟩
    simp only
    by_cases her : er = 0
    · subst her
      rw [if_neg (by simp)]
      refine mget_in ba n cap l d w hn hr hb hc (by omega) hd ?_
      have : d = (By.opn l).1 := by rw [hd]
      rw [this]
      unfold By.opn
      split
      · simp
      · split <;> simp [hn] <;> omega
    · rw [if_pos her]
      exact mget_sum ba n cap l d er w hn hr hb hc (by omega) hd her
end Go.Proofs.Ytgamhgeiceakeaa
/- droverlow: bytes and packets that are the same, by contract. Picked out of wip/session's XSCmp. -/
set_option linter.unusedVariables false
set_option linter.unusedSimpArgs false
namespace Go.Proofs.Ytgamhgeiceakeaa
open Go.RowKit
open By (Bs)
open Va (V)
open Me (Ms)
set_option maxHeartbeats 800000 in
theorem sameBytes_any (ba bb : Option Addr) (n m ca cb : Nat) (l r : List UInt8) (w : World) (hn : l.length = n) (hr : Rd w ba l) (hb : ba = none → n = 0) (hn' : r.length = m) (hr' : Rd w bb r) (hb' : bb = none → m = 0) :
    Calls Try.prog 28 #[.slice ba n ca, .slice bb m cb] w fun e w' => e = .returned (.bool (l == r)) ∧ w = w' := by
  have k1 := conv_rd (cap := ca) hn hr hb
  have k2 := conv_rd (cap := cb) hn' hr' hb'
  clear hn hr hb hn' hr' hb'
  go_enter Try.func28, Try.ntmps28
  go_wp2
  go_ret
  exact ⟨rfl, rfl⟩
def pk5 (a b c d : Int) (ba : Option Addr) (n cap : Nat) : Value := .agg #[.int .i64 a, .int .i64 b, .int .i64 c, .int .i64 d, .slice ba n cap]
def eq4 (a b c d a' b' c' d' : Int) : Bool := (a == a') && (b == b') && (c == c') && (d == d')
set_option maxHeartbeats 1600000 in
theorem samePacket_any (a b c d a' b' c' d' : Int) (ba bb : Option Addr) (n m ca cb : Nat) (l r : List UInt8) (w : World) (hn : l.length = n) (hr : Rd w ba l) (hb : ba = none → n = 0) (hn' : r.length = m) (hr' : Rd w bb r) (hb' : bb = none → m = 0) :
    Calls Try.prog 19 #[.agg #[.int .i64 a, .int .i64 b, .int .i64 c, .int .i64 d, .slice ba n ca], .agg #[.int .i64 a', .int .i64 b', .int .i64 c', .int .i64 d', .slice bb m cb]] w (BB (eq4 a b c d a' b' c' d' && (l == r)) w) := by
  have hw2 : Below w.heap.size w ((w.alloc (.cells #[.int .i64 a, .int .i64 b, .int .i64 c, .int .i64 d, .slice ba n ca] 41)).alloc (.cells #[.int .i64 a', .int .i64 b', .int .i64 c', .int .i64 d', .slice bb m cb] 41)) := ((Below.refl _ _).alloc (Nat.le_refl _) _).alloc (by simp) _
  have C := Lib.hid (sameBytes_any ba bb n m ca cb l r _ hn (hr.below hw2) hb hn' (hr'.below hw2) hb')
  have HW := Lib.hid hw2
  clear hn hr hb hn' hr' hb' hw2
  unfold eq4
  cases h1 : (a == a')
  · go_enter Try.func19, Try.ntmps19
    go_wp2
    go_ret
    exact ⟨rfl, HW.out⟩
  cases h2 : (b == b')
  · go_enter Try.func19, Try.ntmps19
    go_wp2
    go_ret
    exact ⟨rfl, HW.out⟩
  cases h3 : (c == c')
  · go_enter Try.func19, Try.ntmps19
    go_wp2
    go_ret
    exact ⟨rfl, HW.out⟩
  cases h4 : (d == d')
  · go_enter Try.func19, Try.ntmps19
    go_wp2
    go_ret
    exact ⟨rfl, HW.out⟩
  · go_enter Try.func19, Try.ntmps19
    go_wp2_with fail
    with_reducible refine (C.out).mono ?_
    rintro e w1 ⟨rfl, rfl⟩
    go_wp2
    go_ret
    exact ⟨rfl, HW.out⟩
namespace Me
/-- small, as the laws ask -/
def small (m : Ms) : Bool := decide (m.nums.length ≤ 70) && (decide (m.vals.length ≤ 70) && (decide (m.blobs.length ≤ 70) && (m.vals.all (fun v => Va.smallV v 20 60) && m.blobs.all (fun b => decide (b.length ≤ 1000)))))
theorem small_iff (m : Ms) : small m = true ↔ m.nums.length ≤ 70 ∧ m.vals.length ≤ 70 ∧ m.blobs.length ≤ 70 ∧ (∀ v ∈ m.vals, Va.smallV v 20 60 = true) ∧ (∀ b ∈ m.blobs, b.length ≤ 1000) := by
  unfold small
  simp only [Bool.and_eq_true, decide_eq_true_eq, List.all_eq_true]
theorem small_not {m : Ms} (h : ¬ (m.nums.length ≤ 70 ∧ m.vals.length ≤ 70 ∧ m.blobs.length ≤ 70 ∧ (∀ v ∈ m.vals, Va.smallV v 20 60 = true) ∧ (∀ b ∈ m.blobs, b.length ≤ 1000))) : small m = false := by
  rw [Bool.eq_false_iff]
  exact fun h2 => h ((small_iff m).1 h2)
end Me
set_option maxHeartbeats 3200000 in
set_option maxRecDepth 100000 in
theorem smallMsg_any (ok : Nat → Prop) (m : Ms) (bn bv bb : Option Addr) (cn cv cb : Nat) (w : World) (h : RM ok w m bn bv bb cn cv cb) :
    Calls Try.prog 21 #[.agg (mcells m bn bv bb cn cv cb), .int .i64 70, .int .i64 1000] w (BB (Me.small m) w) := by
  have HM := Lib.hid h
  have HN := Lib.hid (fun hh => Me.small_not (m := m) hh)
  have HY := Lib.hid (fun hh => (Me.small_iff m).2 hh)
  clear h
  generalize Me.small m = R at HN HY ⊢
  obtain ⟨kind, ns, vs, bs⟩ := m
  have HN2 := Lib.hid (show ¬ (ns.length ≤ 70 ∧ vs.length ≤ 70 ∧ bs.length ≤ 70 ∧ (∀ v ∈ vs, Va.smallV v 20 60 = true) ∧ (∀ b ∈ bs, b.length ≤ 1000)) → R = false from HN.out)
  have HY2 := Lib.hid (show (ns.length ≤ 70 ∧ vs.length ≤ 70 ∧ bs.length ≤ 70 ∧ (∀ v ∈ vs, Va.smallV v 20 60 = true) ∧ (∀ b ∈ bs, b.length ≤ 1000)) → R = true from HY.out)
  clear HN HY
  show Calls Try.prog 21 #[.agg #[.int .u8 kind, .slice bn ns.length cn, .slice bv vs.length cv, .slice bb bs.length cb], .int .i64 70, .int .i64 1000] w _
  have HS0 := Lib.hid (show BxS w #[.int .u8 kind, .slice bn ns.length cn, .slice bv vs.length cv, .slice bb bs.length cb] (w.alloc (.cells #[.int .u8 kind, .slice bn ns.length cn, .slice bv vs.length cv, .slice bb bs.length cb] 30)) from ⟨Blk.new w _ _, (Below.refl _ _).alloc (Nat.le_refl _) _⟩)
  by_cases h1 : ns.length ≤ 70
  · by_cases h2 : vs.length ≤ 70
    · by_cases h3 : bs.length ≤ 70
      · have q1 : ¬ (70 : Int) < (ns.length : Int) := by omega
        have q2 : ¬ (70 : Int) < (vs.length : Int) := by omega
        have q3 : ¬ (70 : Int) < (bs.length : Int) := by omega
        go_enter Try.func21, Try.ntmps21
        go_wp2_with fail
        go_loopw [7] (fun iv wr => ∃ i : Nat, i ≤ vs.length ∧ iv = .int .i64 i ∧ BxS w #[.int .u8 kind, .slice bn ns.length cn, .slice bv vs.length cv, .slice bb bs.length cb] wr ∧ ∀ v ∈ vs.take i, Va.smallV v 20 60 = true) (fun iv _ => vs.length - (intOf iv).toNat)
        case atStart => exact ⟨0, by omega, rfl, HS0.out, by simp⟩
        case round =>
          obtain ⟨i, hi, rfl, hS, hall⟩ := hrel
          have HS := Lib.hid hS
          have HALL := Lib.hid hall
          have x2 := hS.box.cell 2
          have xlt := hS.box.lt
          clear hS hall
          by_cases hlt : i < vs.length
          · obtain ⟨b, o, x, hbv, hokb, h4w, hrv⟩ := HM.out.vals.at_ i hlt
            have h4' := h4w.kept HS.out.bl.size (HS.out.bl.block b h4w.lt)
            have HF := Lib.hid (List.take_succ_eq_append_getElem hlt)
            have HMEM := Lib.hid (List.getElem_mem hlt)
            have hj0 : (0 : Int) ≤ (i : Int) := by omega
            have hj1 : (i : Int) < (vs.length : Int) := by omega
            simp only at hrv
            generalize vs[i] = y at hrv HF HMEM
            have CR := Lib.hid (fun W (hW : Below w.heap.size w W) => small_any y _ _ W (hrv.past hW) 20 60 (by decide) (by decide) (by decide) (by decide))
            obtain ⟨rb, hrb⟩ : ∃ rb, Va.smallV y 20 60 = rb := ⟨_, rfl⟩
            rw [hrb] at CR
            have HRB := Lib.hid hrb
            obtain ⟨k2, n2, s2, l2⟩ := y
            obtain ⟨ba2, cap2, rfl, -, -, -, -⟩ := hrv.inv
            obtain ⟨hlt4, a1, a2, a3, a4, hx4, e1, e2, e3, e4⟩ := h4'
            cases hx4
            subst hbv
            clear h4w hrv hrb
            go_wp2_with fail
            with_reducible refine (CR.out _ HS.out.bl).mono ?_
            rintro e w4 ⟨rfl, hb⟩
            have HS4 := Lib.hid (HS.out.past hb)
            clear hb e1 e2 e3 e4 hlt4 CR x2 xlt
            cases rb with
            | true =>
              go_wp2
              go_roundw
              case rel => exact ⟨i + 1, by omega, by go_num, HS4.out, fun v hv => by
                rw [HF.out, List.mem_append, List.mem_singleton] at hv
                rcases hv with hv | rfl
                · exact HALL.out v hv
                · exact HRB.out⟩
              case measure => simp [intOf]; omega
            | false =>
              have hR : R = false := HN2.out (fun hh => by have := hh.2.2.2.1 _ HMEM.out; rw [HRB.out] at this; cases this)
              subst hR
              go_wp2
              go_ret
              exact ⟨rfl, HS4.out.bl⟩
          · obtain rfl : i = vs.length := by omega
            obtain ⟨wx, rfl⟩ : ∃ wx, wx = wr := ⟨_, rfl⟩
            have HV := Lib.hid (show ∀ v ∈ vs, Va.smallV v 20 60 = true by have := HALL.out; rwa [List.take_length] at this)
            clear HALL
            go_wp2_with fail
            clear x2 xlt
            go_loopw [8] (fun iv wr => ∃ i : Nat, i ≤ bs.length ∧ iv = .int .i64 i ∧ BxS w #[.int .u8 kind, .slice bn ns.length cn, .slice bv vs.length cv, .slice bb bs.length cb] wr ∧ ∀ v ∈ bs.take i, v.length ≤ 1000) (fun iv _ => bs.length - (intOf iv).toNat)
            case atStart => exact ⟨0, by omega, rfl, HS.out, by simp⟩
            case round =>
              obtain ⟨i, hi, rfl, hS, hall⟩ := hrel
              have HS3 := Lib.hid hS
              have HALL := Lib.hid hall
              have x3 := hS.box.cell 3
              have xlt := hS.box.lt
              clear hS hall HS
              by_cases hlt : i < bs.length
              · obtain ⟨b, o, x, hbb, hokb, hblt, hc, hbt⟩ := HM.out.blobs.at_ i hlt
                have y0 := cell_past HS3.out.bl hblt hc
                have ylt : b < wr.heap.size := Nat.lt_of_lt_of_le hblt HS3.out.bl.size
                have HF := Lib.hid (List.take_succ_eq_append_getElem hlt)
                have HMEM := Lib.hid (List.getElem_mem hlt)
                have hj0 : (0 : Int) ≤ (i : Int) := by omega
                have hj1 : (i : Int) < (bs.length : Int) := by omega
                simp only at hbt
                generalize bs[i] = d at hbt HF HMEM
                obtain ⟨bd, cd, rfl, -, -, -, -⟩ := hbt.ex
                subst hbb
                clear hc hbt
                by_cases hd : d.length ≤ 1000
                · have hd2 : ¬ (1000 : Int) < (d.length : Int) := by omega
                  have HD := Lib.hid hd
                  go_wp2
                  go_roundw
                  case rel => exact ⟨i + 1, by omega, by go_num, HS3.out, fun v hv => by
                    rw [HF.out, List.mem_append, List.mem_singleton] at hv
                    rcases hv with hv | rfl
                    · exact HALL.out v hv
                    · exact HD.out⟩
                  case measure => simp [intOf]; omega
                · have hd2 : (1000 : Int) < (d.length : Int) := by omega
                  have hR : R = false := HN2.out (fun hh => hd (hh.2.2.2.2 _ HMEM.out))
                  subst hR
                  go_wp2
                  go_ret
                  exact ⟨rfl, HS3.out.bl⟩
              · obtain rfl : i = bs.length := by omega
                have hB : ∀ v ∈ bs, v.length ≤ 1000 := by have := HALL.out; rwa [List.take_length] at this
                have hR : R = true := HY2.out ⟨h1, h2, h3, HV.out, hB⟩
                subst hR
                clear hB HALL
                go_wp2
                go_ret
                exact ⟨rfl, HS3.out.bl⟩
      · have q1 : ¬ (70 : Int) < (ns.length : Int) := by omega
        have q2 : ¬ (70 : Int) < (vs.length : Int) := by omega
        have q3 : (70 : Int) < (bs.length : Int) := by omega
        have hR : R = false := HN2.out (fun hh => by omega)
        subst hR
        go_enter Try.func21, Try.ntmps21
        go_wp2
        go_ret
        exact ⟨rfl, HS0.out.bl⟩
    · have q1 : ¬ (70 : Int) < (ns.length : Int) := by omega
      have q2 : (70 : Int) < (vs.length : Int) := by omega
      have hR : R = false := HN2.out (fun hh => by omega)
      subst hR
      go_enter Try.func21, Try.ntmps21
      go_wp2
      go_ret
      exact ⟨rfl, HS0.out.bl⟩
  · have q1 : (70 : Int) < (ns.length : Int) := by omega
    have hR : R = false := HN2.out (fun hh => by omega)
    subst hR
    go_enter Try.func21, Try.ntmps21
    go_wp2
    go_ret
    exact ⟨rfl, HS0.out.bl⟩
end Go.Proofs.Ytgamhgeiceakeaa
/- droverlow.SameMsg, by contract. -/
set_option linter.unusedVariables false
set_option linter.unusedSimpArgs false
namespace Go.Proofs.Ytgamhgeiceakeaa
open Go.RowKit
open By (Bs)
open Va (V)
open Me (Ms)
namespace Me
/-- as they stand -/
def same (m n : Ms) : Bool := (m.kind == n.kind) && ((m.nums == n.nums) && ((m.vals.length == n.vals.length && Va.alkL m.vals n.vals) && (m.blobs == n.blobs)))
theorem alkL_iff (l r : List V) (hl : l.length = r.length) : Va.alkL l r = true ↔ l = r := by
  constructor
  · intro h
    refine List.ext_getElem hl fun i h1 h2 => ?_
    cases hc : Va.alkV l[i] r[i] with
    | true => exact (Va.alk_eq _ _).1 hc
    | false =>
      have := Va.alkL_at l r hl i h1 hc
      rw [h] at this; cases this
  · rintro rfl
    exact Va.alkL_all l l rfl (fun i h => Va.alk_refl _)
theorem same_iff (m n : Ms) : same m n = true ↔ m = n := by
  obtain ⟨k, ns, vs, bs⟩ := m
  obtain ⟨k', ns', vs', bs'⟩ := n
  unfold same
  simp only [Bool.and_eq_true, beq_iff_eq, Ms.mk.injEq]
  constructor
  · rintro ⟨a, b, ⟨c, d⟩, e⟩
    exact ⟨a, b, (alkL_iff _ _ c).1 d, e⟩
  · rintro ⟨a, b, c, e⟩
    exact ⟨a, b, ⟨by rw [c], (alkL_iff _ _ (by rw [c])).2 c⟩, e⟩
end Me
/-- two boxes stay -/
structure BxT (w : World) (bx bx' : Array Value) (W : World) : Prop where
  one : Blk W w.heap.size bx 30
  two : Blk W (w.heap.size + 1) bx' 30
  bl : Below w.heap.size w W
theorem BxT.past {w W W' : World} {bx bx' : Array Value} (h : BxT w bx bx' W) (hb : Below W.heap.size W W') : BxT w bx bx' W' := ⟨h.one.below hb, h.two.below hb, h.bl.trans (hb.mono h.bl.size)⟩
theorem take_eq {α : Type} {l r : List α} {i : Nat} (h : l.take i = r.take i) (hl : i < l.length) (hr : i < r.length) (he : l[i] = r[i]) : l.take (i + 1) = r.take (i + 1) := by
  rw [List.take_succ_eq_append_getElem hl, List.take_succ_eq_append_getElem hr, h, he]
set_option maxHeartbeats 1600000 in
set_option maxRecDepth 100000 in
theorem sameMsg_any (ok ok' : Nat → Prop) (m m' : Ms) (bn bv bb bn' bv' bb' : Option Addr) (cn cv cb cn' cv' cb' : Nat) (w : World) (h : RM ok w m bn bv bb cn cv cb) (h' : RM ok' w m' bn' bv' bb' cn' cv' cb') :
    Calls Try.prog 12 #[.agg (mcells m bn bv bb cn cv cb), .agg (mcells m' bn' bv' bb' cn' cv' cb')] w (BB (Me.same m m') w) := by
  have HM := Lib.hid h
  have HM' := Lib.hid h'
  have hsi := Me.same_iff m m'
  generalize Me.same m m' = R at hsi ⊢
  clear h h'
  obtain ⟨k, ns, vs, bs⟩ := m
  obtain ⟨k', ns', vs', bs'⟩ := m'
  have HN := Lib.hid (show ¬ (k = k' ∧ ns = ns' ∧ vs = vs' ∧ bs = bs') → R = false from fun hh => by
    rw [Bool.eq_false_iff]; intro h2; have := hsi.1 h2; cases this; exact hh ⟨rfl, rfl, rfl, rfl⟩)
  have HY := Lib.hid (show (k = k' ∧ ns = ns' ∧ vs = vs' ∧ bs = bs') → R = true from fun ⟨a, b, c, d⟩ => hsi.2 (by subst a b c d; rfl))
  clear hsi
  show Calls Try.prog 12 #[.agg #[.int .u8 k, .slice bn ns.length cn, .slice bv vs.length cv, .slice bb bs.length cb], .agg #[.int .u8 k', .slice bn' ns'.length cn', .slice bv' vs'.length cv', .slice bb' bs'.length cb']] w _
  have HS0 := Lib.hid (show BxT w #[.int .u8 k, .slice bn ns.length cn, .slice bv vs.length cv, .slice bb bs.length cb] #[.int .u8 k', .slice bn' ns'.length cn', .slice bv' vs'.length cv', .slice bb' bs'.length cb'] ((w.alloc (.cells #[.int .u8 k, .slice bn ns.length cn, .slice bv vs.length cv, .slice bb bs.length cb] 30)).alloc (.cells #[.int .u8 k', .slice bn' ns'.length cn', .slice bv' vs'.length cv', .slice bb' bs'.length cb'] 30)) from by
    have h2 := Blk.new (w.alloc (.cells #[.int .u8 k, .slice bn ns.length cn, .slice bv vs.length cv, .slice bb bs.length cb] 30)) #[.int .u8 k', .slice bn' ns'.length cn', .slice bv' vs'.length cv', .slice bb' bs'.length cb'] 30
    rw [show (w.alloc (.cells #[.int .u8 k, .slice bn ns.length cn, .slice bv vs.length cv, .slice bb bs.length cb] 30)).heap.size = w.heap.size + 1 by simp] at h2
    exact ⟨(Blk.new w _ _).below ((Below.refl _ _).alloc (Nat.le_refl _) _), h2, ((Below.refl _ _).alloc (Nat.le_refl _) _).alloc (by simp) _⟩)
  by_cases q1 : k = k'
  · subst q1
    by_cases q2 : ns.length = ns'.length
    · by_cases q3 : vs.length = vs'.length
      · by_cases q4 : bs.length = bs'.length
        · rw [q2, q3, q4] at HS0
          rw [q2, q3, q4]
          have HQ := Lib.hid (And.intro q2 (And.intro q3 q4))
          clear q2 q3 q4
          have hb1 : ns'.length ≤ 9223372036854775807 := by have h1 := HM'.out.nums.le; have h2 := HM'.out.nums.max; simp only [maxLen] at h1 h2; omega
          have hb2 : vs'.length ≤ 9223372036854775807 := by have h1 := HM'.out.vals.le; have h2 := HM'.out.vals.max; simp only [maxLen] at h1 h2; omega
          have hb3 : bs'.length ≤ 9223372036854775807 := by have h1 := HM'.out.blobs.le; have h2 := HM'.out.blobs.max; simp only [maxLen] at h1 h2; omega
          go_enter Try.func12, Try.ntmps12
          go_wp2_with fail
          go_loopw [5] (fun iv wr => ∃ i : Nat, i ≤ ns'.length ∧ iv = .int .i64 i ∧ BxT w #[.int .u8 k, .slice bn ns'.length cn, .slice bv vs'.length cv, .slice bb bs'.length cb] #[.int .u8 k, .slice bn' ns'.length cn', .slice bv' vs'.length cv', .slice bb' bs'.length cb'] wr ∧ ns.take i = ns'.take i) (fun iv _ => ns'.length - (intOf iv).toNat)
          case atStart => exact ⟨0, by omega, rfl, HS0.out, by simp⟩
          case round =>
            obtain ⟨i, hi, rfl, hS, htk⟩ := hrel
            have HS := Lib.hid hS
            have HTK := Lib.hid htk
            have x1 := hS.one.cell 1
            have xlt := hS.one.lt
            have z1 := hS.two.cell 1
            have zlt := hS.two.lt
            clear hS htk
            by_cases hlt : i < ns'.length
            · have hlt2 : i < ns.length := by rw [HQ.out.1]; exact hlt
              obtain ⟨b, o, hbn, hokb, hblt, hc⟩ := HM.out.nums.at_ i hlt2
              obtain ⟨b2, o2, hbn2, hokb2, hblt2, hc2⟩ := HM'.out.nums.at_ i hlt
              have y0 := cell_past HS.out.bl hblt hc
              have y2 := cell_past HS.out.bl hblt2 hc2
              have HTS := Lib.hid (fun he => take_eq HTK.out hlt2 hlt he)
              have HNE := Lib.hid (show ¬ ns[i] = ns'[i] → ¬ ns = ns' from fun h1 h2 => h1 (by subst h2; rfl))
              have hj0 : (0 : Int) ≤ (i : Int) := by omega
              have hj1 : (i : Int) < (ns'.length : Int) := by omega
              simp only at y0 y2
              generalize ns[i] = u at y0 HTS HNE
              generalize ns'[i] = v at y2 HTS HNE
              subst hbn hbn2
              clear hc hc2
              by_cases he : u = v
              · subst he
                go_wp2_with fail
                go_quiet (fail)
                have HS2 := Lib.hid (HS.out.past (belowN (Below.refl wr.heap.size wr) nq))
                clear x1 xlt z1 zlt y0 y2 HS
                go_wp2
                go_roundw
                case rel => exact ⟨i + 1, by omega, by go_num, HS2.out, HTS.out trivial⟩
                case measure => simp [intOf]; omega
              · have he2 : (u == v) = false := beq_eq_false_iff_ne.2 he
                have hR : R = false := HN.out (fun hh => HNE.out he hh.2.1)
                subst hR
                go_wp2_with fail
                go_quiet (fail)
                have HS2 := Lib.hid (HS.out.past (belowN (Below.refl wr.heap.size wr) nq))
                clear x1 xlt z1 zlt y0 y2 HS
                go_wp2
                go_ret
                exact ⟨rfl, HS2.out.bl⟩
            · obtain rfl : i = ns'.length := by omega
              have HNS := Lib.hid (show ns = ns' by have := HTK.out; rw [← HQ.out.1, List.take_length, HQ.out.1, List.take_length] at this; exact this)
              obtain ⟨wx, rfl⟩ : ∃ wx, wx = wr := ⟨_, rfl⟩
              go_wp2_with fail
              clear x1 xlt z1 zlt
              go_loopw [6] (fun iv wr => ∃ i : Nat, i ≤ vs'.length ∧ iv = .int .i64 i ∧ BxT w #[.int .u8 k, .slice bn ns'.length cn, .slice bv vs'.length cv, .slice bb bs'.length cb] #[.int .u8 k, .slice bn' ns'.length cn', .slice bv' vs'.length cv', .slice bb' bs'.length cb'] wr ∧ vs.take i = vs'.take i) (fun iv _ => vs'.length - (intOf iv).toNat)
              case atStart => exact ⟨0, by omega, rfl, HS.out, by simp⟩
              case round =>
                obtain ⟨i, hi, rfl, hS, htk⟩ := hrel
                clear HS
                have HS := Lib.hid hS
                have HTK := Lib.hid htk
                have x1 := hS.one.cell 2
                have xlt := hS.one.lt
                have z1 := hS.two.cell 2
                have zlt := hS.two.lt
                clear hS htk
                by_cases hlt : i < vs'.length
                · have hlt2 : i < vs.length := by rw [HQ.out.2.1]; exact hlt
                  obtain ⟨b, o, x, hbv, hokb, h4w, hrv⟩ := HM.out.vals.at_ i hlt2
                  obtain ⟨b2, o2, x', hbv', hokb', h4w', hrv'⟩ := HM'.out.vals.at_ i hlt
                  have h4 := h4w.kept HS.out.bl.size (HS.out.bl.block b h4w.lt)
                  have h4' := h4w'.kept HS.out.bl.size (HS.out.bl.block b2 h4w'.lt)
                  have HTS := Lib.hid (fun he => take_eq HTK.out hlt2 hlt he)
                  have HNE := Lib.hid (show ¬ vs[i] = vs'[i] → ¬ vs = vs' from fun h1 h2 => h1 (by subst h2; rfl))
                  have hj0 : (0 : Int) ≤ (i : Int) := by omega
                  have hj1 : (i : Int) < (vs'.length : Int) := by omega
                  simp only at hrv hrv'
                  generalize vs[i] = u at hrv HTS HNE
                  generalize vs'[i] = v at hrv' HTS HNE
                  obtain ⟨rb, hrb⟩ : ∃ rb, Va.alkV u v = rb := ⟨_, rfl⟩
                  have CA := Lib.hid (fun W (hW : Below w.heap.size w W) => alike_any u v _ _ _ _ W (hrv.past hW) (hrv'.past hW))
                  rw [hrb] at CA
                  have HRB := Lib.hid (show rb = true ↔ u = v by rw [← hrb]; exact Va.alk_eq u v)
                  obtain ⟨k1, n1, s1, l1⟩ := u
                  obtain ⟨k2, n2, s2, l2⟩ := v
                  obtain ⟨ba1, cap1, rfl, -, -, -, -⟩ := hrv.inv
                  obtain ⟨ba2, cap2, rfl, -, -, -, -⟩ := hrv'.inv
                  obtain ⟨hlt4, a1, a2, a3, a4, hx4, e1, e2, e3, e4⟩ := h4
                  cases hx4
                  obtain ⟨hlt4', a1', a2', a3', a4', hx4', e1', e2', e3', e4'⟩ := h4'
                  cases hx4'
                  subst hbv hbv'
                  clear h4w hrv hrb h4w' hrv'
                  go_upto_region 11 with (fail)
                  have hdr : Below wr.heap.size wr wr.drew := (Below.refl _ _).drew
                  refine wp_region_T_drew (fun w' => w'.cell? ⟨w.heap.size, 2, none⟩ = some (.slice (some ⟨b, o, none⟩) vs'.length cv) ∧ w'.cell? ⟨w.heap.size + 1, 2, none⟩ = some (.slice (some ⟨b2, o2, none⟩) vs'.length cv') ∧ w'.cell? ⟨b, o + i * 4, none⟩ = some (.int .u8 k1) ∧ w'.cell? ⟨b, o + i * 4 + 1, none⟩ = some (.int .i64 n1) ∧ w'.cell? ⟨b, o + i * 4 + 2, none⟩ = some (.string s1) ∧ w'.cell? ⟨b, o + i * 4 + 3, none⟩ = some (.slice ba1 l1.length cap1) ∧ w'.cell? ⟨b2, o2 + i * 4, none⟩ = some (.int .u8 k2) ∧ w'.cell? ⟨b2, o2 + i * 4 + 1, none⟩ = some (.int .i64 n2) ∧ w'.cell? ⟨b2, o2 + i * 4 + 2, none⟩ = some (.string s2) ∧ w'.cell? ⟨b2, o2 + i * 4 + 3, none⟩ = some (.slice ba2 l2.length cap2)) 12 (by kernel_rfl) ⟨x1, z1, e1, e2, e3, e4, e1', e2', e3', e4'⟩ (fun hS => ?_)
                  have HS2 := Lib.hid (HS.out.past hdr)
                  have hLA : b < wr.drew.heap.size := hlt4
                  have hLB : b2 < wr.drew.heap.size := hlt4'
                  clear x1 xlt z1 zlt hlt4 e1 e2 e3 e4 hlt4' e1' e2' e3' e4' HS hdr
                  refine wpAnyT_take 0 rfl (by kernel_rfl) (by kernel_rfl) (by decide) (by kernel_rfl) (by kernel_rfl) (fun _ _ _ h => h) hS (by kernel_rfl) (v := ?_) ?_ ?_
                  rotate_left
                  · intro w' hSw; (try dsimp only at hSw); go_simp; (try with_reducible rfl)
                  simp only [Act.put, List.setIfInBounds_toArray, List.set_cons_zero, List.set_cons_succ]
                  refine wpAnyT_take 1 rfl (by kernel_rfl) (by kernel_rfl) (by decide) (by kernel_rfl) (by kernel_rfl) (fun _ _ _ h => h) hS (by kernel_rfl) (v := ?_) ?_ ?_
                  rotate_left
                  · intro w' hSw; (try dsimp only at hSw); go_simp; (try with_reducible rfl)
                  simp only [Act.put, List.setIfInBounds_toArray, List.set_cons_zero, List.set_cons_succ]
                  refine wpAnyT_take 2 rfl (by kernel_rfl) (by kernel_rfl) (by decide) (by kernel_rfl) (by kernel_rfl) (fun _ _ _ h => h) hS (by kernel_rfl) (v := ?_) ?_ ?_
                  rotate_left
                  · intro w' hSw; (try dsimp only at hSw); go_simp; (try with_reducible rfl)
                  simp only [Act.put, List.setIfInBounds_toArray, List.set_cons_zero, List.set_cons_succ]
                  refine wpAnyT_take 3 rfl (by kernel_rfl) (by kernel_rfl) (by decide) (by kernel_rfl) (by kernel_rfl) (fun _ _ _ h => h) hS (by kernel_rfl) (v := ?_) ?_ ?_
                  rotate_left
                  · intro w' hSw; (try dsimp only at hSw); go_simp; (try with_reducible rfl)
                  simp only [Act.put, List.setIfInBounds_toArray, List.set_cons_zero, List.set_cons_succ]
                  refine wpAnyT_take 4 rfl (by kernel_rfl) (by kernel_rfl) (by decide) (by kernel_rfl) (by kernel_rfl) (fun _ _ _ h => h) hS (by kernel_rfl) (v := ?_) ?_ ?_
                  rotate_left
                  · intro w' hSw; (try dsimp only at hSw); go_simp; (try with_reducible rfl)
                  simp only [Act.put, List.setIfInBounds_toArray, List.set_cons_zero, List.set_cons_succ]
                  refine wpAnyT_take 5 rfl (by kernel_rfl) (by kernel_rfl) (by decide) (by kernel_rfl) (by kernel_rfl) (fun _ _ _ h => h) hS (by kernel_rfl) (v := ?_) ?_ ?_
                  rotate_left
                  · intro w' hSw; (try dsimp only at hSw); go_simp; (try with_reducible rfl)
                  simp only [Act.put, List.setIfInBounds_toArray, List.set_cons_zero, List.set_cons_succ]
                  refine wpAnyT_take 6 rfl (by kernel_rfl) (by kernel_rfl) (by decide) (by kernel_rfl) (by kernel_rfl) (fun _ _ _ h => h) hS (by kernel_rfl) (v := ?_) ?_ ?_
                  rotate_left
                  · intro w' hSw; (try dsimp only at hSw); go_simp; (try with_reducible rfl)
                  simp only [Act.put, List.setIfInBounds_toArray, List.set_cons_zero, List.set_cons_succ]
                  refine wpAnyT_take 7 rfl (by kernel_rfl) (by kernel_rfl) (by decide) (by kernel_rfl) (by kernel_rfl) (fun _ _ _ h => h) hS (by kernel_rfl) (v := ?_) ?_ ?_
                  rotate_left
                  · intro w' hSw; (try dsimp only at hSw); go_simp; (try with_reducible rfl)
                  simp only [Act.put, List.setIfInBounds_toArray, List.set_cons_zero, List.set_cons_succ]
                  refine wpAnyT_take 8 rfl (by kernel_rfl) (by kernel_rfl) (by decide) (by kernel_rfl) (by kernel_rfl) (fun _ _ _ h => h) hS (by kernel_rfl) (v := ?_) ?_ ?_
                  rotate_left
                  · intro w' hSw; (try dsimp only at hSw); go_simp; (try with_reducible rfl)
                  simp only [Act.put, List.setIfInBounds_toArray, List.set_cons_zero, List.set_cons_succ]
                  refine wpAnyT_take 9 rfl (by kernel_rfl) (by kernel_rfl) (by decide) (by kernel_rfl) (by kernel_rfl) (fun _ _ _ h => h) hS (by kernel_rfl) (v := ?_) ?_ ?_
                  rotate_left
                  · intro w' hSw; (try dsimp only at hSw); go_simp; (try with_reducible rfl)
                  simp only [Act.put, List.setIfInBounds_toArray, List.set_cons_zero, List.set_cons_succ]
                  refine wpAnyT_one 10 (by kernel_rfl) rfl (by kernel_rfl) (fun K hK => ?_)
                  go_simp
                  with_reducible refine (CA.out _ HS2.out.bl).mono ?_
                  rintro e w4 ⟨rfl, hb⟩
                  have HS4 := Lib.hid (HS2.out.past hb)
                  have hS : _ ∧ _ ∧ _ ∧ _ ∧ _ ∧ _ ∧ _ ∧ _ ∧ _ ∧ _ := ⟨cell_past hb HS2.out.one.lt hS.1, cell_past hb HS2.out.two.lt hS.2.1, cell_past hb hLA hS.2.2.1, cell_past hb hLA hS.2.2.2.1, cell_past hb hLA hS.2.2.2.2.1, cell_past hb hLA hS.2.2.2.2.2.1, cell_past hb hLB hS.2.2.2.2.2.2.1, cell_past hb hLB hS.2.2.2.2.2.2.2.1, cell_past hb hLB hS.2.2.2.2.2.2.2.2.1, cell_past hb hLB hS.2.2.2.2.2.2.2.2.2⟩
                  refine hK _ _ (fun _ => hS) ?_
                  clear hK K hb CA HS2 hLA hLB
                  refine wpAnyT_pure 11 rfl (by kernel_rfl) (by decide) (by kernel_rfl) (by kernel_rfl) (fun _ _ _ h => h) hS (by kernel_rfl) (v := ?_) ?_ ?_
                  rotate_left
                  · intro w'; go_simp; (try with_reducible rfl)
                  simp only [Act.put, List.setIfInBounds_toArray, List.set_cons_zero, List.set_cons_succ]
                  refine wpAnyT_done (by kernel_rfl) ?_
                  clear hS
                  cases rb with
                  | true =>
                    go_wp2
                    go_roundw
                    case rel => exact ⟨i + 1, by omega, by go_num, HS4.out, HTS.out (HRB.out.1 rfl)⟩
                    case measure => simp [intOf]; omega
                  | false =>
                    have hR : R = false := HN.out (fun hh => HNE.out (fun e => by have := HRB.out.2 e; cases this) hh.2.2.1)
                    subst hR
                    go_wp2
                    go_ret
                    exact ⟨rfl, HS4.out.bl⟩
                · obtain rfl : i = vs'.length := by omega
                  have HVS := Lib.hid (show vs = vs' by have := HTK.out; rw [← HQ.out.2.1, List.take_length, HQ.out.2.1, List.take_length] at this; exact this)
                  obtain ⟨wy, rfl⟩ : ∃ wy, wy = wr := ⟨_, rfl⟩
                  go_wp2_with fail
                  clear x1 xlt z1 zlt
                  go_loopw [7] (fun iv wr => ∃ i : Nat, i ≤ bs'.length ∧ iv = .int .i64 i ∧ BxT w #[.int .u8 k, .slice bn ns'.length cn, .slice bv vs'.length cv, .slice bb bs'.length cb] #[.int .u8 k, .slice bn' ns'.length cn', .slice bv' vs'.length cv', .slice bb' bs'.length cb'] wr ∧ bs.take i = bs'.take i) (fun iv _ => bs'.length - (intOf iv).toNat)
                  case atStart => exact ⟨0, by omega, rfl, HS.out, by simp⟩
                  case round =>
                    obtain ⟨i, hi, rfl, hS, htk⟩ := hrel
                    clear HS
                    have HS := Lib.hid hS
                    have HTK := Lib.hid htk
                    have x1 := hS.one.cell 3
                    have xlt := hS.one.lt
                    have z1 := hS.two.cell 3
                    have zlt := hS.two.lt
                    clear hS htk
                    by_cases hlt : i < bs'.length
                    · have hlt2 : i < bs.length := by rw [HQ.out.2.2]; exact hlt
                      obtain ⟨b, o, x, hbb, hokb, hblt, hc, hbt⟩ := HM.out.blobs.at_ i hlt2
                      obtain ⟨b2, o2, x', hbb', hokb', hblt', hc', hbt'⟩ := HM'.out.blobs.at_ i hlt
                      have y0 := cell_past HS.out.bl hblt hc
                      have y2 := cell_past HS.out.bl hblt' hc'
                      have HTS := Lib.hid (fun he => take_eq HTK.out hlt2 hlt he)
                      have HNE := Lib.hid (show ¬ bs[i] = bs'[i] → ¬ bs = bs' from fun h1 h2 => h1 (by subst h2; rfl))
                      have hj0 : (0 : Int) ≤ (i : Int) := by omega
                      have hj1 : (i : Int) < (bs'.length : Int) := by omega
                      simp only at hbt hbt'
                      generalize bs[i] = u at hbt HTS HNE
                      generalize bs'[i] = v at hbt' HTS HNE
                      obtain ⟨bd, cd, rfl, hrd, hnd, -, -⟩ := hbt.ex
                      obtain ⟨bd', cd', rfl, hrd', hnd', -, -⟩ := hbt'.ex
                      obtain ⟨rb, hrb⟩ : ∃ rb, (u == v) = rb := ⟨_, rfl⟩
                      have CA := Lib.hid (fun k => quiet_flip (sameBytes_any bd bd' u.length v.length cd cd' u v (wr.drewN k) rfl ((hrd.below HS.out.bl).below (belowN (Below.refl _ _) k)) hnd rfl ((hrd'.below HS.out.bl).below (belowN (Below.refl _ _) k)) hnd'))
                      rw [hrb] at CA
                      have HRB := Lib.hid (show rb = true ↔ u = v by rw [← hrb]; exact beq_iff_eq)
                      subst hbb hbb'
                      clear hc hc' hbt hbt' hrd hrd' hnd hnd' hrb
                      go_wp2_with fail
                      go_quiet ((go_at_call 28; exact Calls.quiet_of_same (CA.out _)))
                      have HS2 := Lib.hid (HS.out.past (belowN (Below.refl wr.heap.size wr) nq))
                      clear x1 xlt z1 zlt y0 y2 HS CA
                      cases rb with
                      | true =>
                        go_wp2
                        go_roundw
                        case rel => exact ⟨i + 1, by omega, by go_num, HS2.out, HTS.out (HRB.out.1 rfl)⟩
                        case measure => simp [intOf]; omega
                      | false =>
                        have hR : R = false := HN.out (fun hh => HNE.out (fun e => by have := HRB.out.2 e; cases this) hh.2.2.2)
                        subst hR
                        go_wp2
                        go_ret
                        exact ⟨rfl, HS2.out.bl⟩
                    · obtain rfl : i = bs'.length := by omega
                      have hbs : bs = bs' := by have := HTK.out; rw [← HQ.out.2.2, List.take_length, HQ.out.2.2, List.take_length] at this; exact this
                      have hR : R = true := HY.out ⟨trivial, HNS.out, HVS.out, hbs⟩
                      have HBS := Lib.hid hbs
                      clear hbs
                      subst hR
                      go_wp2
                      go_ret
                      exact ⟨rfl, HS.out.bl⟩
        · have q4' : ((bs.length : Int) == (bs'.length : Int)) = false := bneI (by omega)
          rw [q2, q3] at HS0
          rw [q2, q3]
          have hR : R = false := HN.out (fun hh => q4 (by rw [hh.2.2.2]))
          subst hR
          go_enter Try.func12, Try.ntmps12
          go_wp2
          go_ret
          exact ⟨rfl, HS0.out.bl⟩
      · have q3' : ((vs.length : Int) == (vs'.length : Int)) = false := bneI (by omega)
        rw [q2] at HS0
        rw [q2]
        have hR : R = false := HN.out (fun hh => q3 (by rw [hh.2.2.1]))
        subst hR
        go_enter Try.func12, Try.ntmps12
        go_wp2
        go_ret
        exact ⟨rfl, HS0.out.bl⟩
    · have q2' : ((ns.length : Int) == (ns'.length : Int)) = false := bneI (by omega)
      have hR : R = false := HN.out (fun hh => q2 (by rw [hh.2.1]))
      subst hR
      go_enter Try.func12, Try.ntmps12
      go_wp2
      go_ret
      exact ⟨rfl, HS0.out.bl⟩
  · have q1' : ((k : Int) == (k' : Int)) = false := bneI (by omega)
    have hR : R = false := HN.out (fun hh => q1 hh.1)
    subst hR
    go_enter Try.func12, Try.ntmps12
    go_wp2
    go_ret
    exact ⟨rfl, HS0.out.bl⟩
end Go.Proofs.Ytgamhgeiceakeaa
/- Arguments of the rows of droverlaw02: a value that came in reads as one. -/
set_option linter.unusedVariables false
set_option linter.unusedSimpArgs false
namespace Go.Proofs.Ytgamhgeiceakeaa
open Go.ChangeShapes Go.WideShapes Go.ChangeAt Go.RowKit Go.Deep
open Va (V)
section
variable {H : Type} {enc : TypeId × Value → H}
theorem cellsOf_value : Try.prog.cellsOf 25 = 4 := by kernel_rfl
theorem cellsOf_kind : Try.prog.cellsOf 22 = 1 := by kernel_rfl
theorem cellsOf_int64 : Try.prog.cellsOf 2 = 1 := by kernel_rfl
theorem cellsOf_string : Try.prog.cellsOf 9 = 1 := by kernel_rfl
theorem cellsOf_values : Try.prog.cellsOf 23 = 1 := by kernel_rfl
theorem at4_of {w : World} {a : Addr} {a0 a1 a2 a3 : Value} (h : w.cells? 0 a 4 = some [a0, a1, a2, a3]) : ∃ b o, a = ⟨b, o, none⟩ ∧ At4 w b o (.agg #[a0, a1, a2, a3]) := by
  obtain ⟨_, hlen, hall⟩ := World.cells?_some h
  obtain ⟨b, o, s⟩ := a
  have h0 := hall 0 (by omega)
  have hs : s = none := by simpa [Addr.add] using World.cell?_spot h0
  subst hs
  have hc : ∀ i, i < 4 → w.cell? ⟨b, o + i, none⟩ = [a0, a1, a2, a3][i]? := fun i hi => by rw [← addPl]; exact hall i (by omega)
  refine ⟨b, o, rfl, ?_, a0, a1, a2, a3, rfl, hc 0 (by omega), hc 1 (by omega), hc 2 (by omega), hc 3 (by omega)⟩
  have h1 := hc 0 (by omega)
  unfold World.cell? at h1
  split at h1
  · rename_i hb; exact (Array.getElem?_eq_some_iff.1 hb).1
  · cases h1
set_option maxRecDepth 100000 in
theorem trod_fields {w : World} {n : Nat} {cs : List Value} {x : DataW H × List MemPlace} (h : DataW.trod enc Try.prog w 0 (fun _ => true) true n 25 cs = some x) :
    ∃ (k : Nat) (nn : Int) (s : ByteArray) (a3 : Value) (m : Nat) (y : DataW H × List MemPlace), n = m + 1 ∧ cs = [.int .u8 k, .int .i64 nn, .string s, a3] ∧ k < 256 ∧ Va.I64 nn ∧ s.size ≤ maxLen ∧ DataW.trod enc Try.prog w 0 (fun _ => true) true m 23 [a3] = some y := by
  obtain ⟨xs, m, rfl, hx, hlen, hxl, hall⟩ := DataW.trod_struct Try.underlying25 h
  rw [cellsOf_value] at hlen
  obtain ⟨a0, a1, a2, a3, rfl⟩ : ∃ a0 a1 a2 a3, cs = [a0, a1, a2, a3] := by
    match cs, hlen with
    | [a0, a1, a2, a3], _ => exact ⟨_, _, _, _, rfl⟩
  have hl4 : xs.length = 4 := hxl
  obtain ⟨x0, x1, x2, x3, rfl⟩ : ∃ x0 x1 x2 x3, xs = [x0, x1, x2, x3] := by
    match xs, hl4 with
    | [a0, a1, a2, a3], _ => exact ⟨_, _, _, _, rfl⟩
  have f0 := hall 0 _ rfl
  have f1 := hall 1 _ rfl
  have f2 := hall 2 _ rfl
  have f3 := hall 3 _ rfl
  simp only [cellsOf_kind, cellsOf_int64, cellsOf_string, cellsOf_values, List.drop_zero, List.drop_succ_cons, List.take_succ_cons, List.take_zero, List.getElem?_cons_zero, List.getElem?_cons_succ] at f0 f1 f2 f3
  obtain ⟨n0, e0, _, w0⟩ := DataW.trod_int Try.underlying22 f0
  obtain ⟨n1, e1, _, w1⟩ := DataW.trod_int Try.underlying2 f1
  obtain ⟨s2, e2, _, w2⟩ := DataW.trod_string Try.underlying9 f2
  cases e0
  cases e1
  cases e2
  have b0 := bounds_u8 w0
  have b1 := bounds_i64 w1
  exact ⟨n0.toNat, n1, s2, a3, m, x3, rfl, by rw [Int.toNat_of_nonneg b0.1], by omega, ⟨b1.1, by omega⟩, w2, f3⟩
set_option maxRecDepth 100000 in
theorem rv_of_trod {w : World} : ∀ (n : Nat) (cs : List Value) (x : DataW H × List MemPlace), DataW.trod enc Try.prog w 0 (fun _ => true) true n 25 cs = some x → ∃ v, RV (fun b => b < w.heap.size) w v (.agg cs.toArray) := by
  intro n
  induction n using Nat.strongRecOn with
  | _ n ih =>
    intro cs x h
    obtain ⟨k, nn, s, a3, m, y, rfl, rfl, hk, hn, hs, hl⟩ := trod_fields h
    rcases DataW.trod_slice Try.underlying23 hl with ⟨e, _⟩ | ⟨a, len, cap, elems, rest, m2, rfl, e, _, _, hlc, hcm, hel, helem, _, _⟩
    · cases e
      exact ⟨.mk k nn s [], RV.mk' (l := []) (ba := none) (cap := 0) hk hn hs ⟨by simp, by simp [maxLen], fun _ => rfl, fun i hi => by simp at hi⟩⟩
    · cases e
      rw [cellsOf_value] at helem
      have hex : ∀ i, i < len → ∃ (v : V) (b o : Nat) (z : Value), a.add (i * 4) = ⟨b, o, none⟩ ∧ At4 w b o z ∧ RV (fun b => b < w.heap.size) w v z := fun i hi => by
        have h1 := helem i hi
        rw [List.getElem?_eq_getElem (by omega)] at h1
        obtain ⟨cs', hc, ht⟩ := Option.bind_eq_some_iff.1 h1
        obtain ⟨v, hv⟩ := ih m2 (by omega) cs' _ ht
        obtain ⟨k', nn', s', a3', _, _, _, rfl, _⟩ := trod_fields ht
        obtain ⟨b, o, e, h4⟩ := at4_of hc
        exact ⟨v, b, o, _, e, h4, hv⟩
      let vs : List V := (List.range len).attach.map fun i => (hex i.1 (List.mem_range.1 i.2)).choose
      have hvl : vs.length = len := by simp [vs]
      refine ⟨.mk k nn s vs, ?_⟩
      have hRL : RL (fun b => b < w.heap.size) w vs (some a) cap := ⟨by omega, hcm, (fun e => by cases e), fun i hi => by
        have hi' : i < len := by omega
        have hsp := (hex i hi').choose_spec
        have hvi : vs[i] = (hex i hi').choose := by simp [vs]
        obtain ⟨b, o, z, e, h4, hv⟩ := hsp
        obtain ⟨ab, ao, asp⟩ := a
        have hspot : asp = none := by
          obtain ⟨_, b0, o0, _, e0, _, _⟩ := hex 0 (by omega)
          rw [Nat.zero_mul] at e0
          have e1 : (⟨ab, ao, asp⟩ : Addr).add 0 = ⟨ab, ao, asp⟩ := by simp [Addr.add]
          rw [e1] at e0
          cases e0; rfl
        subst hspot
        rw [addPl] at e
        have eb : b = ab := (congrArg Addr.block e).symm
        have eo : o = ao + i * 4 := (congrArg Addr.off e).symm
        rw [eb, eo] at h4
        exact ⟨ab, ao, z, rfl, h4.lt, h4, by rw [hvi]; exact hv⟩⟩
      have := RV.mk' (ok := fun b => b < w.heap.size) (k := k) (n := nn) (s := s) hk hn hs hRL
      rw [hvl] at this
      exact this
set_option maxRecDepth 100000 in
/-- an argument of type api.Value -/
theorem open_value {r : Reach} {base : Nat} {W : World} {v0 : Value} {d0 : DataW H} {p0 : List MemPlace} (hval : Value.okWide Try.prog W r base 25 v0) (h : DataW.Trod enc Try.prog W 0 (fun _ => true) true 25 v0 d0 p0) :
    ∃ v, RV (fun b => b < W.heap.size) W v v0 := by
  obtain ⟨cs, rfl, _⟩ := okWide_struct Try.underlying25 hval
  obtain ⟨fuel, hf⟩ := h
  obtain ⟨v, hv⟩ := rv_of_trod fuel _ _ hf
  exact ⟨v, by simpa [Value.cells] using hv⟩
end
end Go.Proofs.Ytgamhgeiceakeaa
/- Arguments of the rows of droverlaw02: a list of values that came in reads as one. -/
set_option linter.unusedVariables false
set_option linter.unusedSimpArgs false
namespace Go.Proofs.Ytgamhgeiceakeaa
open Go.ChangeShapes Go.WideShapes Go.ChangeAt Go.RowKit Go.Deep
open Va (V)
section
variable {H : Type} {enc : TypeId × Value → H}
set_option maxRecDepth 100000 in
/-- an argument of type []api.Value -/
theorem open_values {r : Reach} {base : Nat} {W : World} {v0 : Value} {d0 : DataW H} {p0 : List MemPlace} (hval : Value.okWide Try.prog W r base 23 v0) (h : DataW.Trod enc Try.prog W 0 (fun _ => true) true 23 v0 d0 p0) :
    ∃ (l : List V) (ba : Option Addr) (cap : Nat), v0 = .slice ba l.length cap ∧ RL (fun b => b < W.heap.size) W l ba cap := by
  obtain ⟨a1, len, cap, rfl⟩ := okWide_slice Try.underlying23 hval
  obtain ⟨fuel, hf⟩ := h
  rcases DataW.trod_slice Try.underlying23 hf with ⟨e, _⟩ | ⟨a, len', cap', elems, rest, m2, rfl, e, _, _, hlc, hcm, hel, helem, _, _⟩
  · simp [Value.cells] at e
    obtain ⟨rfl, rfl, rfl⟩ := e
    exact ⟨[], none, 0, rfl, ⟨by simp, by simp [maxLen], fun _ => rfl, fun i hi => by simp at hi⟩⟩
  · simp [Value.cells] at e
    obtain ⟨rfl, rfl, rfl⟩ := e
    rw [cellsOf_value] at helem
    have hex : ∀ i, i < len → ∃ (v : V) (b o : Nat) (z : Value), a.add (i * 4) = ⟨b, o, none⟩ ∧ At4 W b o z ∧ RV (fun b => b < W.heap.size) W v z := fun i hi => by
      have h1 := helem i hi
      rw [List.getElem?_eq_getElem (by omega)] at h1
      obtain ⟨cs', hc, ht⟩ := Option.bind_eq_some_iff.1 h1
      obtain ⟨v, hv⟩ := rv_of_trod m2 cs' _ ht
      obtain ⟨k', nn', s', a3', _, _, _, rfl, _⟩ := trod_fields ht
      obtain ⟨b, o, e, h4⟩ := at4_of hc
      exact ⟨v, b, o, _, e, h4, hv⟩
    let vs : List V := (List.range len).attach.map fun i => (hex i.1 (List.mem_range.1 i.2)).choose
    have hvl : vs.length = len := by simp [vs]
    refine ⟨vs, some a, cap, by rw [hvl], ⟨by omega, hcm, (fun e => by cases e), fun i hi => ?_⟩⟩
    have hi' : i < len := by omega
    have hsp := (hex i hi').choose_spec
    have hvi : vs[i] = (hex i hi').choose := by simp [vs]
    obtain ⟨b, o, z, e, h4, hv⟩ := hsp
    obtain ⟨ab, ao, asp⟩ := a
    have hspot : asp = none := by
      obtain ⟨_, b0, o0, _, e0, _, _⟩ := hex 0 (by omega)
      rw [Nat.zero_mul] at e0
      have e1 : (⟨ab, ao, asp⟩ : Addr).add 0 = ⟨ab, ao, asp⟩ := by simp [Addr.add]
      rw [e1] at e0
      cases e0; rfl
    subst hspot
    rw [addPl] at e
    have eb : b = ab := (congrArg Addr.block e).symm
    have eo : o = ao + i * 4 := (congrArg Addr.off e).symm
    rw [eb, eo] at h4
    exact ⟨ab, ao, z, rfl, h4.lt, h4, by rw [hvi]; exact hv⟩
end
end Go.Proofs.Ytgamhgeiceakeaa
/- Arguments of the rows of droverlaw03: a message, a packet that came in read as such. -/
set_option linter.unusedVariables false
set_option linter.unusedSimpArgs false
namespace Go.Proofs.Ytgamhgeiceakeaa
open Go.ChangeShapes Go.WideShapes Go.ChangeAt Go.RowKit Go.Deep
open By (Bs)
open Va (V)
open Me (Ms)
section
variable {H : Type} {enc : TypeId × Value → H}
theorem addr_lt {W : World} {b o : Nat} {u : Value} (h : W.cell? ⟨b, o, none⟩ = some u) : b < W.heap.size := by
  unfold World.cell? at h
  split at h
  · rename_i hb; exact (Array.getElem?_eq_some_iff.1 hb).1
  · cases h
set_option maxRecDepth 100000 in
theorem nums_of_trod {W : World} {n : Nat} {a1 : Value} {x : DataW H × List MemPlace} (hf : DataW.trod enc Try.prog W 0 (fun _ => true) true n 26 [a1] = some x) :
    ∃ (l : List Int) (ba : Option Addr) (cap : Nat), a1 = .slice ba l.length cap ∧ RN (fun b => b < W.heap.size) W l ba cap ∧ ∀ z ∈ l, Va.I64 z := by
  rcases open_ints Try.underlying26 Try.underlying2 (by kernel_rfl) hf with ⟨hcs, hx⟩ | ⟨a, len, cap, zs, hcs, _, hl, hm, hz, hx, hcell, hwz⟩
  · cases hcs
    exact ⟨[], none, 0, rfl, ⟨Nat.le_refl _, by simp [maxLen], fun _ => rfl, fun i hi => by simp at hi⟩, fun z hz => by cases hz⟩
  · cases hcs
    simp only [if_true] at hz
    have hlen : (zs.take len).length = len := by rw [List.length_take]; omega
    refine ⟨zs.take len, some a, cap, by rw [hlen], ⟨by omega, hm, (fun e => by cases e), fun i hi => ?_⟩, fun z hz' => ?_⟩
    · rw [hlen] at hi
      obtain ⟨ab, ao, spot⟩ := a
      have hspot : spot = none := by simpa [Addr.add] using World.cell?_spot (hcell 0 (by omega))
      subst hspot
      have hc := hcell i (by omega)
      rw [addPl] at hc
      have e : zs.getD i 0 = (zs.take len)[i]'(by omega) := by simp [List.getD, List.getElem?_eq_getElem (show i < zs.length by omega)]
      exact ⟨ab, ao, rfl, addr_lt hc, addr_lt hc, by rw [hc, e]⟩
    · have hb := bounds_i64 (hwz z (List.mem_of_mem_take hz'))
      exact ⟨hb.1, by omega⟩
set_option maxRecDepth 100000 in
theorem vals_of_trod {W : World} {n : Nat} {a1 : Value} {x : DataW H × List MemPlace} (hf : DataW.trod enc Try.prog W 0 (fun _ => true) true n 23 [a1] = some x) :
    ∃ (l : List V) (ba : Option Addr) (cap : Nat), a1 = .slice ba l.length cap ∧ RL (fun b => b < W.heap.size) W l ba cap := by
  rcases DataW.trod_slice Try.underlying23 hf with ⟨e, _⟩ | ⟨a, len, cap, elems, rest, m2, rfl, e, _, _, hlc, hcm, hel, helem, _, _⟩
  · cases e
    exact ⟨[], none, 0, rfl, ⟨Nat.le_refl _, by simp [maxLen], fun _ => rfl, fun i hi => by simp at hi⟩⟩
  · cases e
    rw [cellsOf_value] at helem
    have hex : ∀ i, i < len → ∃ (v : V) (b o : Nat) (z : Value), a.add (i * 4) = ⟨b, o, none⟩ ∧ At4 W b o z ∧ RV (fun b => b < W.heap.size) W v z := fun i hi => by
      have h1 := helem i hi
      rw [List.getElem?_eq_getElem (by omega)] at h1
      obtain ⟨cs', hc, ht⟩ := Option.bind_eq_some_iff.1 h1
      obtain ⟨v, hv⟩ := rv_of_trod m2 cs' _ ht
      obtain ⟨k', nn', s', a3', _, _, _, rfl, _⟩ := trod_fields ht
      obtain ⟨b, o, e, h4⟩ := at4_of hc
      exact ⟨v, b, o, _, e, h4, hv⟩
    let vs : List V := (List.range len).attach.map fun i => (hex i.1 (List.mem_range.1 i.2)).choose
    have hvl : vs.length = len := by simp [vs]
    refine ⟨vs, some a, cap, by rw [hvl], ⟨by omega, hcm, (fun e => by cases e), fun i hi => ?_⟩⟩
    have hi' : i < len := by omega
    have hsp := (hex i hi').choose_spec
    have hvi : vs[i] = (hex i hi').choose := by simp [vs]
    obtain ⟨b, o, z, e, h4, hv⟩ := hsp
    obtain ⟨ab, ao, asp⟩ := a
    have hspot : asp = none := by
      obtain ⟨_, b0, o0, _, e0, _, _⟩ := hex 0 (by omega)
      rw [Nat.zero_mul] at e0
      have e1 : (⟨ab, ao, asp⟩ : Addr).add 0 = ⟨ab, ao, asp⟩ := by simp [Addr.add]
      rw [e1] at e0
      cases e0; rfl
    subst hspot
    rw [addPl] at e
    have eb : b = ab := (congrArg Addr.block e).symm
    have eo : o = ao + i * 4 := (congrArg Addr.off e).symm
    rw [eb, eo] at h4
    exact ⟨ab, ao, z, rfl, h4.lt, h4, by rw [hvi]; exact hv⟩
set_option maxRecDepth 100000 in
theorem blobs_of_trod {W : World} {n : Nat} {a1 : Value} {x : DataW H × List MemPlace} (hf : DataW.trod enc Try.prog W 0 (fun _ => true) true n 28 [a1] = some x) :
    ∃ (l : List Bs) (ba : Option Addr) (cap : Nat), a1 = .slice ba l.length cap ∧ RB (fun b => b < W.heap.size) W l ba cap := by
  rcases open_int_rows Try.underlying28 Try.underlying27 Try.underlying5 (by kernel_rfl) (by kernel_rfl) hf with ⟨hcs, hx⟩ | ⟨a, len, cap, A, L, C, Z, hcs, _, hl, hm, hx, hr⟩
  · cases hcs
    exact ⟨[], none, 0, rfl, ⟨Nat.le_refl _, by simp [maxLen], fun _ => rfl, fun i hi => by simp at hi, fun i hi => by simp at hi⟩⟩
  · cases hcs
    have hdl : ∀ r, r < cap → (((Z r).take (L r)).map fun n => UInt8.ofNat n.toNat).length = L r := fun r hr' => by
      obtain ⟨_, h2, _, h4, _⟩ := hr r hr'; simp; omega
    refine ⟨(List.range len).map fun r => ((Z r).take (L r)).map fun n => UInt8.ofNat n.toNat, some a, cap, by simp, ⟨by simp; exact hl, hm, (fun e => by cases e), fun i hi => ?_, fun i hi b o g n c b' o' eb hc eg hne => ?_⟩⟩
    rotate_left
    · simp only [List.length_map, List.length_range] at hi
      obtain ⟨h1, h2, h3, h4, h5, h6, h7⟩ := hr i (by omega)
      cases eb
      rw [addPl] at h1
      rw [h1] at hc
      obtain ⟨e1, _, _⟩ := Value.slice.inj (Option.some.inj hc)
      rw [eg] at e1
      obtain ⟨_, hcc⟩ := h7 _ e1
      have hL : L i ≠ 0 := fun h0 => hne (by simp only [List.getElem_map, List.getElem_range, h0]; rfl)
      have h := hcc 0 (by omega)
      rw [addPl] at h
      exact addr_lt h
    simp only [List.length_map, List.length_range] at hi
    obtain ⟨h1, h2, h3, h4, h5, h6, h7⟩ := hr i (by omega)
    obtain ⟨ab, ao, spot⟩ := a
    have hspot : spot = none := by
      have h0 := (hr 0 (by omega)).1
      simpa [Addr.add] using World.cell?_spot h0
    subst hspot
    rw [addPl] at h1
    refine ⟨ab, ao, _, rfl, addr_lt h1, addr_lt h1, h1, ⟨A i, C i, ?_⟩⟩
    simp only [List.getElem_map, List.getElem_range]
    refine ⟨by rw [hdl i (by omega)], ?_, ?_, ?_, ?_⟩
    · by_cases h0 : L i = 0
      · left; simp only [h0]; rfl
      · cases hA : A i with
        | none => have := h6 hA; omega
        | some a' =>
          obtain ⟨_, hc⟩ := h7 a' hA
          obtain ⟨ab', ao', spot⟩ := a'
          have hspot : spot = none := by simpa [Addr.add] using World.cell?_spot (hc 0 (by omega))
          subst hspot
          refine Or.inr ⟨ab', ao', rfl, ?_, fun j hj => ?_⟩
          · have h := hc 0 (by omega)
            rw [addPl] at h
            exact addr_lt h
          · rw [hdl i (by omega)] at hj
            have hcc := hc j (by omega)
            rw [addPl] at hcc
            rw [hcc]
            have e : (Z i).getD j 0 = (Z i)[j]'(by omega) := by simp [List.getD, List.getElem?_eq_getElem (show j < (Z i).length by omega)]
            have hw := h5 ((Z i)[j]'(by omega)) (List.getElem_mem _)
            rw [e]
            simp only [List.getElem_map, List.getElem_take]
            generalize (Z i)[j]'(by omega) = z at hw
            have hb := bounds_u8 hw
            congr 2
            simp only [UInt8.toNat_ofNat']
            omega
    · intro e; rw [hdl i (by omega)]; have := h6 e; omega
    · rw [hdl i (by omega)]; omega
    · omega
theorem cellsOf_u8 : Try.prog.cellsOf 5 = 1 := by kernel_rfl
theorem cellsOf_nums : Try.prog.cellsOf 26 = 1 := by kernel_rfl
theorem cellsOf_blobs : Try.prog.cellsOf 28 = 1 := by kernel_rfl
theorem cellsOf_bytes : Try.prog.cellsOf 27 = 1 := by kernel_rfl
theorem cellsOf_int : Try.prog.cellsOf 3 = 1 := by kernel_rfl
theorem cellsOf_msg : Try.prog.cellsOf 30 = 4 := by kernel_rfl
theorem cellsOf_packet : Try.prog.cellsOf 41 = 5 := by kernel_rfl
set_option maxRecDepth 100000 in
/-- an argument of type api.Msg -/
theorem open_msg {r : Reach} {base : Nat} {W : World} {v0 : Value} {d0 : DataW H} {p0 : List MemPlace} (hval : Value.okWide Try.prog W r base 30 v0) (h : DataW.Trod enc Try.prog W 0 (fun _ => true) true 30 v0 d0 p0) :
    ∃ m bn bv bb cn cv cb, v0 = .agg (mcells m bn bv bb cn cv cb) ∧ RM (fun b => b < W.heap.size) W m bn bv bb cn cv cb := by
  obtain ⟨cs0, rfl, _⟩ := okWide_struct Try.underlying30 hval
  obtain ⟨fuel, hf⟩ := h
  obtain ⟨xs, m, rfl, hx, hlen, hxl, hall⟩ := DataW.trod_struct Try.underlying30 hf
  rw [cellsOf_msg] at hlen
  obtain ⟨cl⟩ := cs0
  have hlen' : cl.length = 4 := by simpa [Value.cells] using hlen
  obtain ⟨a0, a1, a2, a3, rfl⟩ : ∃ a0 a1 a2 a3, cl = [a0, a1, a2, a3] := by
    match cl, hlen' with
    | [a0, a1, a2, a3], _ => exact ⟨_, _, _, _, rfl⟩
  have hl4 : xs.length = 4 := hxl
  obtain ⟨x0, x1, x2, x3, rfl⟩ : ∃ x0 x1 x2 x3, xs = [x0, x1, x2, x3] := by
    match xs, hl4 with
    | [a0, a1, a2, a3], _ => exact ⟨_, _, _, _, rfl⟩
  have f0 := hall 0 _ rfl
  have f1 := hall 1 _ rfl
  have f2 := hall 2 _ rfl
  have f3 := hall 3 _ rfl
  simp only [Value.cells, cellsOf_u8, cellsOf_nums, cellsOf_values, cellsOf_blobs, List.drop_zero, List.drop_succ_cons, List.take_succ_cons, List.take_zero, List.getElem?_cons_zero, List.getElem?_cons_succ] at f0 f1 f2 f3
  obtain ⟨n0, e0, _, w0⟩ := DataW.trod_int Try.underlying5 f0
  cases e0
  have b0 := bounds_u8 w0
  obtain ⟨ns, bn, cn, rfl, hn, hi⟩ := nums_of_trod f1
  obtain ⟨vs, bv, cv, rfl, hv⟩ := vals_of_trod f2
  obtain ⟨bs, bb, cb, rfl, hb⟩ := blobs_of_trod f3
  refine ⟨⟨n0.toNat, ns, vs, bs⟩, bn, bv, bb, cn, cv, cb, ?_, ⟨by show n0.toNat < 256; omega, hi, hn, hv, hb⟩⟩
  show Value.agg #[.int .u8 n0, _, _, _] = .agg #[.int .u8 (n0.toNat : Nat), _, _, _]
  rw [Int.toNat_of_nonneg b0.1]
set_option maxRecDepth 100000 in
theorem bytes_of_trod {W : World} {n : Nat} {a1 : Value} {x : DataW H × List MemPlace} (hf : DataW.trod enc Try.prog W 0 (fun _ => true) true n 27 [a1] = some x) :
    ∃ l : Bs, Bt W l a1 := by
  rcases open_ints Try.underlying27 Try.underlying5 (by kernel_rfl) hf with ⟨hcs, hx⟩ | ⟨a, len, cap, zs, hcs, _, hl, hm, hz, hx, hcell, hwz⟩
  · cases hcs
    exact ⟨[], none, 0, rfl, Or.inl rfl, fun _ => rfl, Nat.le_refl _, by simp [maxLen]⟩
  · cases hcs
    simp only [if_true] at hz
    have hlen : ((zs.take len).map fun n => UInt8.ofNat n.toNat).length = len := by simp; omega
    refine ⟨(zs.take len).map fun n => UInt8.ofNat n.toNat, some a, cap, by rw [hlen], ?_, (fun e => by cases e), by omega, hm⟩
    by_cases h0 : len = 0
    · left; subst h0; rfl
    · obtain ⟨ab, ao, spot⟩ := a
      have hspot : spot = none := by simpa [Addr.add] using World.cell?_spot (hcell 0 (by omega))
      subst hspot
      refine Or.inr ⟨ab, ao, rfl, ?_, fun i hi => ?_⟩
      · have h := hcell 0 (by omega)
        rw [addPl] at h
        exact addr_lt h
      · rw [hlen] at hi
        have hc := hcell i (by omega)
        rw [addPl] at hc
        rw [hc]
        have e : zs.getD i 0 = zs[i]'(by omega) := by simp [List.getD, List.getElem?_eq_getElem (show i < zs.length by omega)]
        have hw := hwz (zs[i]'(by omega)) (List.getElem_mem _)
        rw [e]
        simp only [List.getElem_map, List.getElem_take]
        generalize zs[i]'(by omega) = z at hw
        have hb := bounds_u8 hw
        congr 2
        simp only [UInt8.toNat_ofNat']
        omega
/-- a packet -/
structure RP (w : World) (f l s a : Int) (d : Bs) (x : Value) : Prop where
  ex : ∃ (ba : Option Addr) (cap : Nat), x = .agg #[.int .i64 f, .int .i64 l, .int .i64 s, .int .i64 a, .slice ba d.length cap] ∧ Rd w ba d ∧ (ba = none → d.length = 0) ∧ d.length ≤ cap ∧ cap ≤ maxLen
  num : Va.I64 f ∧ Va.I64 l ∧ Va.I64 s ∧ Va.I64 a
set_option maxRecDepth 100000 in
/-- an argument of type api.Packet -/
theorem open_packet {r : Reach} {base : Nat} {W : World} {v0 : Value} {d0 : DataW H} {p0 : List MemPlace} (hval : Value.okWide Try.prog W r base 41 v0) (h : DataW.Trod enc Try.prog W 0 (fun _ => true) true 41 v0 d0 p0) :
    ∃ f l s a d, RP W f l s a d v0 := by
  obtain ⟨cs0, rfl, _⟩ := okWide_struct Try.underlying41 hval
  obtain ⟨fuel, hf⟩ := h
  obtain ⟨xs, m, rfl, hx, hlen, hxl, hall⟩ := DataW.trod_struct Try.underlying41 hf
  rw [cellsOf_packet] at hlen
  obtain ⟨cl⟩ := cs0
  have hlen' : cl.length = 5 := by simpa [Value.cells] using hlen
  obtain ⟨a0, a1, a2, a3, a4, rfl⟩ : ∃ a0 a1 a2 a3 a4, cl = [a0, a1, a2, a3, a4] := by
    match cl, hlen' with
    | [a0, a1, a2, a3, a4], _ => exact ⟨_, _, _, _, _, rfl⟩
  have hl5 : xs.length = 5 := hxl
  obtain ⟨x0, x1, x2, x3, x4, rfl⟩ : ∃ x0 x1 x2 x3 x4, xs = [x0, x1, x2, x3, x4] := by
    match xs, hl5 with
    | [a0, a1, a2, a3, a4], _ => exact ⟨_, _, _, _, _, rfl⟩
  have f0 := hall 0 _ rfl
  have f1 := hall 1 _ rfl
  have f2 := hall 2 _ rfl
  have f3 := hall 3 _ rfl
  have f4 := hall 4 _ rfl
  simp only [Value.cells, cellsOf_int, cellsOf_bytes, List.drop_zero, List.drop_succ_cons, List.take_succ_cons, List.take_zero, List.getElem?_cons_zero, List.getElem?_cons_succ] at f0 f1 f2 f3 f4
  obtain ⟨n0, e0, _, w0⟩ := DataW.trod_int Try.underlying3 f0
  obtain ⟨n1, e1, _, w1⟩ := DataW.trod_int Try.underlying3 f1
  obtain ⟨n2, e2, _, w2⟩ := DataW.trod_int Try.underlying3 f2
  obtain ⟨n3, e3, _, w3⟩ := DataW.trod_int Try.underlying3 f3
  cases e0; cases e1; cases e2; cases e3
  obtain ⟨d, hd⟩ := bytes_of_trod f4
  obtain ⟨ba, cap, rfl, h1, h2, h3, h4⟩ := hd.ex
  have b0 := bounds_i64 w0
  have b1 := bounds_i64 w1
  have b2 := bounds_i64 w2
  have b3 := bounds_i64 w3
  exact ⟨n0, n1, n2, n3, d, ⟨ba, cap, rfl, h1, h2, h3, h4⟩, ⟨b0.1, by omega⟩, ⟨b1.1, by omega⟩, ⟨b2.1, by omega⟩, ⟨b3.1, by omega⟩⟩
end
end Go.Proofs.Ytgamhgeiceakeaa
/- What the rows of droverlaw03 have alike: behind a call that turns nothing that was there. Picked out of wip/value's XVRow. -/
set_option linter.unusedVariables false
set_option linter.unusedSimpArgs false
namespace Go.Proofs.Ytgamhgeiceakeaa
open Go.ChangeShapes Go.WideShapes Go.ChangeAt Go.RowKit
theorem post_of_below {H : Type} {enc : TypeId × Value → H} {P : Program} {f : Func} {s : ChangeSpec} {apart fresh handsOn again : Bool} {W W' : World} {args : Array Value} {v : Value} {ds gs : List (DataW H)} {before pa pv : List MemPlace}
    (hW : DataW.Whole enc P f.params.toList s.vars apart W args.toList ds gs before)
    (hres : ∀ (b : Nat) (sp : Nat → Bool) (hd : Bool), DataW.TrodAll enc P W' b sp hd f.resultTypes.toList (v.resultList f.resultTypes.size) (s.fn H (ds ++ gs)).results [])
    (hargs : ∀ sp : Nat → Bool, (∀ p ∈ before, sp p.block = true) → DataW.TrodAll enc P W' 0 sp true f.params.toList args.toList (s.fn H (ds ++ gs)).args pa)
    (hvars : ∀ sp : Nat → Bool, (∀ p ∈ before, sp p.block = true) → DataW.TrodVars enc P W' sp s.vars (s.fn H (ds ++ gs)).vars pv)
    (hps : before = pa ++ pv) (hb : Below W.heap.size W W')
    (hok : ∀ (j : Nat) (t : TypeId) (r : Value), f.resultTypes[j]? = some t → (v.resultList f.resultTypes.size)[j]? = some r → Value.okWide P W' .any 0 t r) :
    s.post enc P f apart fresh handsOn again W args v W' := by
  have hlt := hW.lt
  have hold : ∀ p ∈ before, (fun b => decide (b < W.heap.size)) p.block = true := fun p hp => by simpa using hlt p hp
  refine ⟨ds, gs, before, [], pa, pv, hW, hres _ _ _, hargs _ hold, hvars _ hold, World.keptBut_mono (fun p hp => ⟨hp, ?_⟩) (hb.frame (· ∈ before)), fun _ => ?_⟩
  · rw [hps, List.mem_append] at hp
    exact Or.inr hp
  · obtain ⟨_, _, _, _, _, hz, hn⟩ := hW
    refine ⟨hok, _, _, ([] ++ pa) ++ pv, ⟨[] ++ pa, pv, trodAll_append (hargs _ (fun _ _ => rfl)) (hres _ _ _), hvars _ (fun _ _ => rfl), rfl, ?_, ?_⟩, ?_⟩
    · intro b off hp
      have hm : MemPlace.cell b off ∈ before := by rw [hps]; simpa using hp
      have hq := hlt _ hm
      rw [hb.frozen (p := ⟨b, off, none⟩) hq]
      exact hz b off hm
    · intro ha
      have := hn ha
      rw [hps] at this
      simpa using this
    · intro p hp _
      rw [hps]
      simpa using hp
theorem zz_own : ownKnob Try.prog.godebug = none := by kernel_rfl
theorem zz_laid : laidOutB Try.prog = true := by kernel_rfl

variable {H : Type} {enc : TypeId × Value → H}
theorem all_stay {W W' : World} (hl : laidOutB Try.prog = true) (sp : Nat → Bool) (hb : Below W.heap.size W W') : ∀ (ts : List TypeId) (vs : List Value) (ds : List (DataW H)) (ps : List MemPlace), (∀ t ∈ ts, Try.prog.readableRec t = true ∧ t < Try.prog.types.size) →
    DataW.TrodAll enc Try.prog W 0 (fun _ => true) true ts vs ds ps → (∀ p ∈ ps, p.block < W.heap.size) → (∀ p ∈ ps, sp p.block = true) → DataW.TrodAll enc Try.prog W' 0 sp true ts vs ds ps := by
  intro ts
  induction ts with
  | nil =>
    intro vs ds ps _ h _ _
    obtain ⟨rfl, rfl, rfl⟩ := trodAll_nil h
    rfl
  | cons t ts ih =>
    intro vs ds ps ht h hlt hsp
    obtain ⟨v, vs', d, ds', p, q, rfl, rfl, rfl, h1, h2⟩ := trodAll_cons h
    obtain ⟨k1, k2⟩ := ht t (List.mem_cons_self ..)
    exact ⟨p, q, WideElems.Trod_stays hl k1 k2 h1 (fun x hx => hb.same (hlt x (by simp [hx]))) (fun x hx => hsp x (by simp [hx])), ih vs' ds' q (fun t' ht' => ht t' (List.mem_cons_of_mem _ ht')) h2 (fun x hx => hlt x (by simp [hx])) (fun x hx => hsp x (by simp [hx])), rfl⟩
end Go.Proofs.Ytgamhgeiceakeaa
/- frame.Put and frame.Pack in one form; what messages' and packets' bytes say. -/
set_option linter.unusedVariables false
set_option linter.unusedSimpArgs false
namespace Go.Proofs.Ytgamhgeiceakeaa
open Go.RowKit
open By (Bs)
open Va (V)
open Me (Ms)
/-- bytes and an error, told -/
def BePost (l : Bs) (er : Int) (w : World) (e : Ending) (w' : World) : Prop :=
  ∃ (g : Option Addr) (c : Nat), e = .returned (.tuple #[.slice g l.length c, .int .i64 er]) ∧ Rd w' g l ∧ (g = none → l.length = 0) ∧ l.length ≤ c ∧ Ow w' w.heap.size (.slice g l.length c) l ∧ Below w.heap.size w w'
theorem mput_any (ok : Nat → Prop) (m : Ms) (bn bv bb : Option Addr) (cn cv cb : Nat) (w : World) (h : RM ok w m bn bv bb cn cv cb) :
    Calls Try.prog 10 #[.agg (mcells m bn bv bb cn cv cb)] w (BePost (Me.put m).1 (Me.put m).2 w) := by
  unfold Me.put
  cases hr : Me.right m with
  | true =>
    exact (mput_yes ok m bn bv bb cn cv cb w h hr).mono fun e w' ⟨g, c, he, ho, hc, _, hb⟩ => by
      obtain ⟨ba, cap, e2, h1, h2, h3⟩ := ho.rd
      cases e2
      exact ⟨some ⟨g, 0, none⟩, c, he, h1, h2, hc, ho, hb⟩
  | false =>
    exact (mput_no ok m bn bv bb cn cv cb w h hr).mono fun e w' ⟨he, hb⟩ => ⟨none, 0, he, Or.inl rfl, fun _ => rfl, Nat.le_refl _, Ow.nil _ _, hb⟩
set_option maxHeartbeats 1600000 in
set_option maxRecDepth 100000 in
theorem pack_no (f l s a : Int) (ba : Option Addr) (n cap : Nat) (w : World) (hr : rightB f l s a n = false) :
    Calls Try.prog 18 #[.agg #[.int .i64 f, .int .i64 l, .int .i64 s, .int .i64 a, .slice ba n cap]] w (BqPost (.tuple #[.slice none 0 0, .int .i64 14]) w) := by
  have c1 := fun w => pkr_any f l s a ba n cap w
  rw [hr] at c1
  have C1 := Lib.hid c1
  clear c1 hr
  go_enter Try.func18, Try.ntmps18
  go_wp2_with fail
  with_reducible refine (C1.out _).mono ?_
  rintro e w2 ⟨rfl, hb2⟩
  obtain ⟨q1, q2, q3⟩ := cells_one hb2
  have HB2 := Lib.hid q3
  clear hb2 q3
  go_wp2
  go_ret2
  exact ⟨rfl, HB2.out⟩
namespace Me
/-- a packet's bytes, or none -/
def pack (f l s a : Int) (d : Bs) : Bs × Int := if rightB f l s a d.length then (By.pack ⟨f.toNat, l.toNat, s.toNat, a.toNat, d⟩, 0) else ([], 14)
end Me
theorem pk_right {f l s a : Int} {d : Bs} (h : rightB f l s a d.length = true) : (0 ≤ f ∧ 0 ≤ l ∧ 0 ≤ s ∧ 0 ≤ a) ∧ (⟨f.toNat, l.toNat, s.toNat, a.toNat, d⟩ : By.Pk).right := by
  unfold rightB okN at h
  simp only [Bool.and_eq_true, Bool.or_eq_true, decide_eq_true_eq, beq_iff_eq] at h
  unfold By.Pk.right By.top
  simp only
  refine ⟨by omega, by omega, by omega, by omega, by omega, by omega, ?_⟩
  rcases h.2.2 with h2 | h2
  · left; omega
  · right; exact List.eq_nil_of_length_eq_zero h2
theorem pack_any (f l s a : Int) (d : Bs) (x : Value) (w : World) (h : RP w f l s a d x) :
    Calls Try.prog 18 #[x] w (BePost (Me.pack f l s a d).1 (Me.pack f l s a d).2 w) := by
  obtain ⟨ba, cap, rfl, h1, h2, h3, h4⟩ := h.ex
  unfold Me.pack
  cases hr : rightB f l s a d.length with
  | true =>
    obtain ⟨⟨p1, p2, p3, p4⟩, hp⟩ := pk_right hr
    have C := pack_yes f.toNat l.toNat s.toNat a.toNat ba d.length cap d w rfl h1 h2 hp
    rw [Int.toNat_of_nonneg p1, Int.toNat_of_nonneg p2, Int.toNat_of_nonneg p3, Int.toNat_of_nonneg p4] at C
    exact C.mono fun e w' ⟨v', he, ho, hb⟩ => by
      obtain ⟨b1, c1, rfl, h5, h6, h7⟩ := ho.rd
      exact ⟨b1, c1, he, h5, h6, h7, ho, hb⟩
  | false =>
    exact (pack_no f l s a ba d.length cap w hr).mono fun e w' ⟨he, hb⟩ => ⟨none, 0, he, Or.inl rfl, fun _ => rfl, Nat.le_refl _, Ow.nil _ _, hb⟩
theorem rv_wf {ok : Nat → Prop} {w : World} {v : V} {x : Value} (h : RV ok w v x) : Va.wf v := by
  induction h with
  | mk k n s l ba cap xs a1 a2 a3 a4 a5 a6 hat hrec ih =>
    unfold Va.wf
    exact ⟨a1, a2, (Va.wfL_iff l).2 fun v hv => by obtain ⟨i, hi, rfl⟩ := List.getElem_of_mem hv; exact ih i hi⟩
theorem rm_wf {ok : Nat → Prop} {w : World} {m : Ms} {bn bv bb : Option Addr} {cn cv cb : Nat} (h : RM ok w m bn bv bb cn cv cb) : Me.Wf m :=
  ⟨h.kind, h.i64, fun v hv => by
    obtain ⟨i, hi, rfl⟩ := List.mem_iff_getElem.1 hv
    obtain ⟨b, o, x, _, _, _, hr⟩ := h.vals.at_ i hi
    exact rv_wf hr⟩
theorem shut_inj {a b : Bs} (h : By.shut a = By.shut b) : a = b := by
  have h1 := By.open_shut a
  rw [h, By.open_shut] at h1
  exact (Prod.mk.inj h1).1.symm
/-- the same bytes just if the same -/
theorem put_same {m n : Ms} (hm : Me.right m = true) (hn : Me.right n = true) (wm : Me.Wf m) (wn : Me.Wf n) : (By.shut (Me.body m) == By.shut (Me.body n)) = Me.same m n := by
  rw [Bool.eq_iff_iff, beq_iff_eq, Me.same_iff]
  constructor
  · intro h
    have h1 := Me.get_body m hm wm
    rw [shut_inj h, Me.get_body n hn wn] at h1
    exact (Except.ok.inj h1).symm
  · rintro rfl; rfl
theorem pack_same {f l s a f' l' s' a' : Int} {d d' : Bs} (h : rightB f l s a d.length = true) (h' : rightB f' l' s' a' d'.length = true) :
    (By.pack ⟨f.toNat, l.toNat, s.toNat, a.toNat, d⟩ == By.pack ⟨f'.toNat, l'.toNat, s'.toNat, a'.toNat, d'⟩) = (eq4 f l s a f' l' s' a' && (d == d')) := by
  obtain ⟨p, hp⟩ := pk_right h
  obtain ⟨p', hp'⟩ := pk_right h'
  rw [Bool.eq_iff_iff, beq_iff_eq]
  unfold eq4
  simp only [Bool.and_eq_true, beq_iff_eq]
  constructor
  · intro he
    have h1 := By.unpack_pack _ hp
    rw [he, By.unpack_pack _ hp'] at h1
    have h2 := (Prod.mk.inj h1).1
    simp only [By.Pk.mk.injEq] at h2
    obtain ⟨q1, q2, q3, q4, q5⟩ := h2
    refine ⟨⟨⟨⟨by omega, by omega⟩, by omega⟩, by omega⟩, q5.symm⟩
  · rintro ⟨⟨⟨⟨rfl, rfl⟩, rfl⟩, rfl⟩, rfl⟩; rfl
end Go.Proofs.Ytgamhgeiceakeaa
/- The chapter's examples come out true: droverlaw03.awake hands back true in every world, and nothing that was there turns. The run is computed by the kernel with the evaluator of the texts 'Ev..'. -/
set_option linter.unusedVariables false
namespace Go.Proofs.Ytgamhgeiceakeaa
open Go.RowKit
theorem zz_names : Ev.namesOK Try.prog = true := by kernel_rfl
set_option maxRecDepth 100000 in
theorem awake_any (w : World) : Calls Try.prog 20 #[] w fun e w' => e = .returned (.bool true) ∧ Below w.heap.size w w' :=
  Ev.run_true (K := 1000) (n := 1000) (m := 1000) (ι := fun _ => none) zz_names (fun _ _ => rfl) .nil (show Ev.isTrue (Ev.callF (Ev.tab Try.prog) 1000 1000 20 [] ⟨1000, .nil⟩) = true by kernel_rfl) w
end Go.Proofs.Ytgamhgeiceakeaa
