/- What a quoted text says, by contract. -/
import Derived.Test.YthbdnbeiafpkcaaDoorWThree
import Derived.Laws.AppendOwn
import Derived.Laws.IdiomStrings
import Derived.Laws.BytesArg
import Derived.OwnWalk
import Derived.Below
import Derived.WalkSmall
set_option linter.unusedVariables false
namespace Go.Proofs.YthbdnbeiafpkcaaDoor
open Go.RowKit
def u8s (l : List UInt8) : List Value := l.map fun b => Value.int .u8 b.toNat
theorem u8s_app (l r : List UInt8) : u8s (l ++ r) = u8s l ++ u8s r := by unfold u8s; simp
theorem u8s_len (l : List UInt8) : (u8s l).length = l.length := by unfold u8s; simp
theorem Tryd.info_u8 : (Tryd.prog.info? 5).map (fun i => (i.zero, i.size, i.bytes)) = some (some (.int .u8 0), 1, 1) := by kernel_rfl
/-- string(out) of a slice of the call's own -/
theorem conv_own {w : World} {B : Nat} {v : Value} {l : List UInt8} (h : w.ownsRow B 5 1 v l.length (u8s l)) :
    (convert 36 9 v).run Tryd.prog w = .ok (.string ⟨l.toArray⟩) w := by
  rcases h.2 with ⟨rfl, h0⟩ | ⟨g, cap, cur, rfl, _, hb, hn, hcap, hcur, hxs⟩
  · obtain rfl : l = [] := List.eq_nil_of_length_eq_zero h0
    exact run_convert_bytes_nil w 36 5 Tryd.underlying36 Tryd.underlying5 0 0 9 Tryd.underlying9
  · refine run_convert_bytes_back w 36 9 5 ⟨g, 0, none⟩ cap l Tryd.underlying36 Tryd.underlying5 Tryd.underlying9 fun j hj => ?_
    have hc := h.cells (g := g) rfl j (.int .u8 (l[j].toNat : Int)) (by unfold u8s; simp [hj])
    exact hc
theorem belowN {B : Nat} {a w : World} (h : Below B a w) (n : Nat) : Below B a (w.drewN n) := h.trans ⟨rfl, rfl, rfl, Nat.le_refl _, fun _ _ => rfl⟩
theorem cell_new1 (w : World) (v : Value) (T : TypeId) : (w.alloc (.cells #[v] T)).cell? ⟨w.heap.size, 0, none⟩ = some v := by simp
def TextPost (l : List UInt8) (w : World) (e : Ending) (w' : World) : Prop := e = .returned (.tuple #[.string ⟨(Wo.textL l).1.toArray⟩, .int .i64 (Wo.textL l).2]) ∧ Below w.heap.size w w'
theorem textL_some (l : List UInt8) (o : List UInt8) (n : Nat) (h : Wo.tx (l.drop 1) = some (o, n)) : Wo.textL l = (o, n + 1) := by
  unfold Wo.textL; rw [h]
theorem textL_none (l : List UInt8) (h : Wo.tx (l.drop 1) = none) : Wo.textL l = ([], 0) := by
  unfold Wo.textL; rw [h]
theorem ret_text {o o' : List UInt8} {n n' : Int} (h : o = o') (h' : n = n') : Ending.returned (.tuple #[.string ⟨o.toArray⟩, .int .i64 n]) = .returned (.tuple #[.string ⟨o'.toArray⟩, .int .i64 n']) := by rw [h, h']
set_option maxHeartbeats 1600000 in
set_option maxRecDepth 1000000 in
theorem text_any (s : ByteArray) (w : World) (hs : s.size ≤ 1048576) : Calls Tryd.prog 41 #[.string s] w (TextPost s.data.toList w) := by
  obtain ⟨i0, hi, hz0, hz1, hz2⟩ := info_parts Tryd.info_u8
  go_enter Tryd.func41, Tryd.ntmps41
  go_wp2
  go_loopw [4, 5] (fun v i wr => ∃ (j : Nat) (out : List UInt8), 1 ≤ j ∧ j ≤ s.size + 1 ∧ out.length ≤ j ∧ i = .int .i64 j ∧ wr.ownsRow w.heap.size 5 1 v out.length (u8s out) ∧ Below w.heap.size w wr ∧ Wo.tx (s.data.toList.drop 1) = Wo.txAt s.data.toList out j)
    (fun _ i _ => s.size + 1 - (intOf i).toNat)
  case atStart => exact ⟨1, [], Nat.le_refl _, by omega, by simp, rfl, World.ownsRow_nil _ _ _ _, Below.refl _ _, Wo.txAt_start _⟩
  case round =>
    obtain ⟨j, out, hj1, hj, hol, rfl, hown, hbel, hall⟩ := hrel
    have HA := Lib.hid hall
    have hcv := conv_own hown
    have HC := Lib.hid hcv
    have HB := Lib.hid hbel
    have HO := Lib.hid hown
    clear hall hcv
    by_cases hlt : j < s.size
    · have hat := Wo.txAt_at s.data.toList out j hlt hj1
      change Wo.txAt s.data.toList out j = (if s[j].toNat = 34 then some (out, j) else if s[j].toNat < 32 then none else if s[j].toNat = 92 then
        (if (Wo.esc (s.data.toList.drop (j + 1))).2 = 0 then none else Wo.txAt s.data.toList (out ++ [(Wo.esc (s.data.toList.drop (j + 1))).1]) (j + (Wo.esc (s.data.toList.drop (j + 1))).2 + 1))
        else Wo.txAt s.data.toList (out ++ [s[j]]) (j + 1)) at hat
      by_cases p1 : s[j].toNat = 34
      · rw [if_pos p1] at hat
        have hfin := textL_some _ _ _ (HA.out.trans hat)
        have HF := Lib.hid hfin
        have k1 : ((s[j].toNat : Int) == 34) = true := beqI (by omega)
        have hcv := HC.out
        clear hat hfin p1 hown hbel
        go_wp2
        go_ret2
        exact ⟨by rw [HF.out]; rfl, HB.out⟩
      · rw [if_neg p1] at hat
        have k1 : ((s[j].toNat : Int) == 34) = false := bneI (by omega)
        by_cases p2 : s[j].toNat < 32
        · rw [if_pos p2] at hat
          have hfin := textL_none _ (HA.out.trans hat)
          have HF := Lib.hid hfin
          clear hat hfin p1 hown hbel
          go_wp2
          go_ret2
          exact ⟨by rw [HF.out]; rfl, HB.out⟩
        · rw [if_neg p2] at hat
          by_cases p3 : s[j].toNat = 92
          · rw [if_pos p3] at hat
            have k3 : ((s[j].toNat : Int) == 92) = true := beqI (by omega)
            have hel := Wo.esc_le (s.data.toList.drop (j + 1))
            rw [List.length_drop, Array.length_toList] at hel
            have ce := fun wr' => esc_any (s.extract (j + 1) s.size) wr' (by simp; unfold maxLen; omega)
            rw [dropS] at ce
            unfold EscPost at ce
            have hsz : w.heap.size ≤ wr.heap.size := hbel.size
            generalize Wo.esc (s.data.toList.drop (j + 1)) = r at hat hel ce
            obtain ⟨c, n⟩ := r
            have hel' : j + 1 + n ≤ s.size := by have : s.data.size = s.size := rfl; simp only at hel; omega
            have CE := Lib.hid ce
            clear hel ce p1 p3 hown hbel
            by_cases p4 : n = 0
            · subst p4
              rw [if_pos rfl] at hat
              have hfin := textL_none _ (HA.out.trans hat)
              have HF := Lib.hid hfin
              clear hat hfin
              go_wp2_with fail
              with_reducible refine (CE.out _).mono ?_
              rintro e w' ⟨rfl, n, rfl⟩
              go_wp2
              go_ret2
              exact ⟨by rw [HF.out]; rfl, belowN HB.out _⟩
            · rw [if_neg p4] at hat
              have HT := Lib.hid (HA.out.trans hat)
              have k4 : ((n : Int) == 0) = false := bneI (by omega)
              clear hat p4
              go_wp2_with fail
              with_reducible refine (CE.out _).mono ?_
              rintro e w' ⟨rfl, nd, rfl⟩
              go_wp2_with (at_builtin; refine wpList_append_own _ rfl _ _ 36 rfl w.heap.size 5 i0 (.int .u8 0) 1 1 Tryd.underlying36 hi hz0 hz1 hz2 rfl (by decide) _ out.length (u8s out) rfl ?d0 ⟨wr.heap.size, 0, none⟩ 1 1 [.int .u8 (c.toNat : Int)] rfl rfl ?d1 ?d2 ?d3 ?d4 ?d5 ?_)
              case d0 => exact World.ownsRow.alloc (w := wr.drewN nd) HO.out _
              case d1 =>
                intro j u hj
                match j, hj with
                | 0, hj => simp at hj; subst hj; exact cell_new1 (wr.drewN nd) _ _
              case d2 => intro u hu; simp at hu; subst hu; rfl
              case d3 => unfold maxLen; omega
              case d4 => omega
              case d5 => simp; omega
              intro v' w1 hown' hgrow _
              have hown1 : w1.ownsRow w.heap.size 5 1 v' (out ++ [c]).length (u8s (out ++ [c])) := by rw [u8s_app, List.length_append]; exact hown'
              have hb1 : Below w.heap.size w w1 := ((belowN HB.out nd).alloc hsz _).grown hgrow (by simp; omega) (fun k hk => (HO.out.lt k hk).1)
              clear hown' hgrow
              have HO1 := Lib.hid hown1
              have HB1 := Lib.hid hb1
              clear hown1 hb1
              go_wp2
              go_roundw
              case rel => exact ⟨j + n + 1, out ++ [c], by omega, by omega, by simp; omega, by go_num, HO1.out, HB1.out, HT.out⟩
              case measure => simp [intOf]; omega
          · rw [if_neg p3] at hat
            have k3 : ((s[j].toNat : Int) == 92) = false := bneI (by omega)
            have HT := Lib.hid (HA.out.trans hat)
            have hsz : w.heap.size ≤ wr.heap.size := hbel.size
            clear hat p1 p3
            go_wp2_with (at_builtin; refine wpList_append_own _ rfl _ _ 36 rfl w.heap.size 5 i0 (.int .u8 0) 1 1 Tryd.underlying36 hi hz0 hz1 hz2 rfl (by decide) _ _ _ rfl (HO.out.alloc _) ⟨wr.heap.size, 0, none⟩ 1 1 [.int .u8 (s[j].toNat : Int)] rfl rfl ?c1 ?c2 ?c3 ?c4 ?c5 ?_)
            case c1 =>
              intro j u hj
              match j, hj with
              | 0, hj => simp at hj; subst hj; simp [Addr.add]
            case c2 => intro u hu; simp at hu; subst hu; rfl
            case c3 => unfold maxLen; omega
            case c4 => omega
            case c5 => simp; omega
            intro v' w1 hown' hgrow _
            have hown1 : w1.ownsRow w.heap.size 5 1 v' (out ++ [s[j]]).length (u8s (out ++ [s[j]])) := by rw [u8s_app, List.length_append]; exact hown'
            have hb1 : Below w.heap.size w w1 := (HB.out.alloc hsz _).grown hgrow (by simp; omega) (fun k hk => (HO.out.lt k hk).1)
            clear hown' hgrow hown hbel
            have HO1 := Lib.hid hown1
            have HB1 := Lib.hid hb1
            clear hown1 hb1
            go_wp2
            go_roundw
            case rel => exact ⟨j + 1, out ++ [s[j]], by omega, by omega, by simp; omega, by go_num, HO1.out, HB1.out, HT.out⟩
            case measure => simp [intOf]; omega
    · have hfin := textL_none _ (HA.out.trans (Wo.txAt_end _ _ _ (by have : s.data.toList.length = s.size := rfl; omega)))
      have HF := Lib.hid hfin
      clear hfin hown hbel
      go_wp2
      go_ret2
      exact ⟨by rw [HF.out]; rfl, HB.out⟩
end Go.Proofs.YthbdnbeiafpkcaaDoor
