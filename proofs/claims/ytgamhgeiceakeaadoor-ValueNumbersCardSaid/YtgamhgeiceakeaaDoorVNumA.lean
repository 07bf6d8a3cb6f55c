/- droverlaw02: many, wide, deep; strings.Repeat; wrong, by contract. -/
import Derived.Test.YtgamhgeiceakeaaDoorVAwC
import Derived.Test.YtgamhgeiceakeaaDoorShelfb
set_option linter.unusedVariables false
set_option linter.unusedSimpArgs false
namespace Go.Proofs.YtgamhgeiceakeaaDoor
open Go.RowKit
open Va (V)
namespace Va
def ints (n : Nat) : List V := (List.range n).map fun i : Nat => .mk 1 (i : Int) em []
theorem ints_len (n : Nat) : (ints n).length = n := by unfold ints; simp
/-- so many tuples in one another -/
def nest : Nat → V
  | 0 => .mk 4 0 em []
  | n + 1 => .mk 4 0 em [nest n]
end Va
def numx (i : Nat) : Value := .agg #[.int .u8 1, .int .i64 (i : Int), .string ⟨#[]⟩, .slice none 0 0]
def numxs (n : Nat) : List Value := (List.range n).map numx
theorem numxs_len (n : Nat) : (numxs n).length = n := by unfold numxs; simp
theorem numxs_four (n : Nat) : Four (numxs n) := by
  intro x hx
  unfold numxs at hx
  obtain ⟨i, _, rfl⟩ := List.mem_map.1 hx
  exact ⟨_, _, _, _, rfl⟩
theorem vcs_num (n : Nat) : vcs (numxs (n + 1)) = vcs (numxs n) ++ [.int .u8 1, .int .i64 (n : Int), .string ⟨#[]⟩, .slice none 0 0] := by
  unfold numxs
  rw [List.range_succ, List.map_append]
  exact vcs_snoc _ _ _ _ _
/-- a tuple of a list's values, told -/
def TPost (l : List V) (m : Nat) (w : World) (e : Ending) (w' : World) : Prop :=
  ∃ g c, e = .returned (.agg #[.int .u8 4, .int .i64 0, .string ⟨#[]⟩, .slice g m c]) ∧ RV (fun _ => True) w' (.mk 4 0 Va.em l) (.agg #[.int .u8 4, .int .i64 0, .string ⟨#[]⟩, .slice g m c]) ∧ Below w.heap.size w w'
/-- a row of values, told -/
def MPost (n : Nat) (w : World) (e : Ending) (w' : World) : Prop := ∃ g c, e = .returned (.slice g n c) ∧ RL (fun b => w.heap.size ≤ b) w' (Va.ints n) g c ∧ Below w.heap.size w w'
theorem many_end {w W : World} {lv : Value} {n : Nat} (hn : n ≤ 1000) (hb : Below w.heap.size w W) (ho : W.ownsRow w.heap.size 25 4 lv n (vcs (numxs n))) : MPost n w (.returned lv) W := by
  rcases ho.2 with ⟨rfl, h0⟩ | ⟨g, cap, cur, rfl, hg0, hg, hcap, hm, _⟩
  · subst h0
    exact ⟨none, 0, rfl, ⟨by simp [Va.ints], by simp [maxLen], fun _ => by simp [Va.ints], fun i h => by simp [Va.ints] at h⟩, hb⟩
  · refine ⟨_, cap, rfl, ⟨by rw [Va.ints_len]; omega, hm, (fun e => by cases e), fun i h => ?_⟩, hb⟩
    rw [Va.ints_len] at h
    have hi : i < (numxs n).length := by rw [numxs_len]; exact h
    have hx : (numxs n)[i] = numx i := by
      show ((List.range n).map numx)[i]'(by simpa [numxs] using hi) = _
      rw [List.getElem_map, List.getElem_range]
    have hc : ∀ k, k < 4 → ∀ u, (c4 (numx i))[k]? = some u → W.cell? ⟨g, 0 + i * 4 + k, none⟩ = some u := fun k hk u hu => by
      have := ho.cells (g := g) rfl (i * 4 + k) u (by rw [vcs_at _ (numxs_four n) i k hi hk, hx]; exact hu)
      rw [addPl] at this
      rw [Nat.add_assoc]; exact this
    have he : (Va.ints n)[i]'(by rw [Va.ints_len]; exact h) = .mk 1 (i : Int) Va.em [] := by unfold Va.ints; simp
    rw [he]
    exact ⟨g, 0, _, rfl, hg0, ⟨(Array.getElem?_eq_some_iff.1 hg).1, _, _, _, _, rfl, hc 0 (by omega) _ rfl, hc 1 (by omega) _ rfl, hc 2 (by omega) _ rfl, hc 3 (by omega) _ rfl⟩, rv_leaf _ 1 _ ⟨#[]⟩ (by decide) (by unfold Va.I64; omega) (by decide)⟩
set_option maxHeartbeats 1600000 in
set_option maxRecDepth 100000 in
theorem many_any (n : Nat) (hn : n ≤ 1000) (w : World) : Calls Tryd.prog 23 #[.int .i64 n] w (MPost n w) := by
  go_enter Tryd.func23, Tryd.ntmps23
  go_wp2_with fail
  go_loopw [3, 4] (fun lv iv W => ∃ i : Nat, i ≤ n ∧ iv = .int .i64 i ∧ Below w.heap.size w W ∧ W.ownsRow w.heap.size 25 4 lv i (vcs (numxs i))) (fun _ iv _ => n - (intOf iv).toNat)
  case atStart => exact ⟨0, by omega, rfl, Below.refl _ _, World.ownsRow_nil _ _ _ _⟩
  case round =>
    obtain ⟨i, hi, rfl, hb, ho⟩ := hrel
    rename_i lv
    have HB := Lib.hid hb
    have HO := Lib.hid ho
    clear hb ho
    by_cases hlt : i < n
    · have hj : (i : Int) < (n : Int) := by omega
      go_wp2_with fail
      with_reducible refine (num_any _ _).mono ?_
      rintro e w1 ⟨rfl, hb1⟩
      have HB1 := Lib.hid (bto HB.out hb1)
      have HO1 := Lib.hid (row_below HO.out hb1)
      clear hb1
      obtain ⟨i0, hi0, hz0, hz1, hz2⟩ := info_parts Tryd.info_value
      go_wp2_with (at_builtin; refine wpList_append_gw _ rfl _ _ 23 rfl w.heap.size 25 i0 _ 4 56 Tryd.underlying23 hi0 hz0 hz1 hz2 rfl (by decide) _ i (vcs (numxs i)) rfl (HO1.out.alloc _) ⟨w1.heap.size, 0, none⟩ 1 1 [.int .u8 1, .int .i64 (i : Int), .string ⟨#[]⟩, .slice none 0 0] rfl rfl ?c1 ?c2 ?c3 ?c4 ?c5 ?_)
      case c1 =>
        intro j u hj
        exact cells_new _ #[.int .u8 1, .int .i64 (i : Int), .string ⟨#[]⟩, .slice none 0 0] _ _ rfl j u (by simpa using hj)
      case c2 => intro u hu; simp only [List.mem_cons, List.not_mem_nil, or_false] at hu; rcases hu with rfl | rfl | rfl | rfl <;> rfl
      case c3 => unfold maxLen; omega
      case c4 => omega
      case c5 => have := HB1.out.size; simp; omega
      intro v2 w2 hown hg hnn
      rw [← vcs_num] at hown
      have HB2 := Lib.hid (Gw.less (HB1.out.alloc HB1.out.size (.cells #[.int .u8 1, .int .i64 (i : Int), .string ⟨#[]⟩, .slice none 0 0] 25)) hg (by have := HB1.out.size; simp; omega) (fun i hi => ((HO1.out.alloc (.cells #[.int .u8 1, .int .i64 (i : Int), .string ⟨#[]⟩, .slice none 0 0] 25)).lt _ hi).1))
      have HO2 := Lib.hid hown
      clear hown hg hnn hi0 hz0 hz1 hz2
      go_wp2
      go_roundw
      case rel => exact ⟨i + 1, by omega, by go_num, HB2.out, HO2.out⟩
      case measure => simp [intOf]; omega
    · obtain rfl : n = i := by omega
      go_wp2
      go_ret
      exact many_end hn HB.out HO.out
set_option maxHeartbeats 1600000 in
set_option maxRecDepth 100000 in
theorem wide_any (n : Nat) (hn : n ≤ 1000) (w : World) : Calls Tryd.prog 26 #[.int .i64 n] w (TPost (Va.ints n) n w) := by
  have HA := Lib.hid (bbox (Below.refl w.heap.size w) (.cells #[.int .u8 0, .int .i64 0, .string ⟨#[]⟩, .slice none 0 0] 25))
  have HF := Lib.hid (Blk.new w #[.int .u8 0, .int .i64 0, .string ⟨#[]⟩, .slice none 0 0] 25)
  go_enter Tryd.func26, Tryd.ntmps26
  go_wp2_with fail
  with_reducible refine (many_any _ hn _).mono ?_
  rintro e w1 ⟨g, c, rfl, hL, hb⟩
  have F := HF.out.below hb
  have HB := Lib.hid (bto HA.out hb)
  have HL := Lib.hid hL
  have d0 := F.cell 0
  have d1 := F.cell 1
  have d2 := F.cell 2
  have d3 := F.cell 3
  have f0 := F.free 0
  have f1 := F.free 1
  have f2 := F.free 2
  have f3 := F.free 3
  have dlt := F.lt
  clear hb hL
  go_wp2
  have QF := (((F.set 0 (.int .u8 4)).set 1 (.int .i64 0)).set 2 (.string ⟨#[]⟩)).set 3 (.slice g n c)
  (try simp only [Exit.inBlock, Exit.then])
  refine bodyPost_ret (results_cell_row rfl _ _ w.heap.size 25 _ (0, 0) _ rfl QF Tryd.underlying25 rfl (by kernel_rfl)) rfl ?_
  have h3 := RV.mk' (k := 4) (n := 0) (s := Va.em) (by decide) (by unfold Va.I64; omega) (by decide) HL.out
  rw [Va.ints_len] at h3
  refine ⟨g, c, rfl, (h3.kept (by simp) (fun b hb _ => ?_)).mono (fun _ _ _ => trivial), put4_below HB.out _ (Nat.le_refl _) _ _ _ _⟩
  have hs : ∀ (W : World) (i : Nat) (u : Value), (W.setCell ⟨w.heap.size, i, none⟩ u).heap[b]? = W.heap[b]? := fun W i u => Below.heap_setCell _ _ _ _ (fun e => by simp at hb e; omega)
  rw [hs, hs, hs, hs]
theorem blk_other {W : World} {p q i : Nat} {u : Value} {cs : Array Value} {T : TypeId} (h : Blk W p cs T) (hne : p ≠ q) : Blk (W.setCell ⟨q, i, none⟩ u) p cs T := by
  unfold Blk; rw [Below.heap_setCell _ _ _ _ (fun e => hne (by rw [e]))]; exact h
theorem nest_step {w wr : World} {q i m : Nat} {g : Option Addr} {c : Nat} (hq : w.heap.size ≤ q) (hb : Below w.heap.size w wr) (hB : Blk wr q #[.int .u8 4, .int .i64 0, .string ⟨#[]⟩, .slice g m c] 25)
    (hv : RV (fun b => q < b) wr (Va.nest i) (.agg #[.int .u8 4, .int .i64 0, .string ⟨#[]⟩, .slice g m c])) (w1 : World)
    (hb1 : Below (wr.alloc (.cells #[.int .u8 4, .int .i64 0, .string ⟨#[]⟩, .slice g m c] 25)).heap.size (wr.alloc (.cells #[.int .u8 4, .int .i64 0, .string ⟨#[]⟩, .slice g m c] 25)) w1) (W : World)
    (hW : W = ((((w1.setCell ⟨q, 0, none⟩ (.int .u8 4)).setCell ⟨q, 1, none⟩ (.int .i64 0)).setCell ⟨q, 2, none⟩ (.string ⟨#[]⟩)).setCell ⟨q, 3, none⟩ (.slice (some ⟨wr.heap.size, 0, none⟩) 1 1))) :
    Below w.heap.size w W ∧ Blk W q #[.int .u8 4, .int .i64 0, .string ⟨#[]⟩, .slice (some ⟨wr.heap.size, 0, none⟩) 1 1] 25 ∧ RV (fun b => q < b) W (Va.nest (i + 1)) (.agg #[.int .u8 4, .int .i64 0, .string ⟨#[]⟩, .slice (some ⟨wr.heap.size, 0, none⟩) 1 1]) := by
  have hlt := hB.lt
  have hal := (Below.refl wr.heap.size wr).alloc (Nat.le_refl _) (.cells #[.int .u8 4, .int .i64 0, .string ⟨#[]⟩, .slice g m c] 25)
  have hb2 := bto hal hb1
  have N := (Blk.new wr #[.int .u8 4, .int .i64 0, .string ⟨#[]⟩, .slice g m c] 25).below hb1
  have B1 := hB.below hb2
  have V1 := hv.past hb2
  have hs : ∀ b, b ≠ q → W.heap[b]? = w1.heap[b]? := fun b hb' => by
    have hs : ∀ (W : World) (i : Nat) (u : Value), (W.setCell ⟨q, i, none⟩ u).heap[b]? = W.heap[b]? := fun W i u => Below.heap_setCell _ _ _ _ (fun e => by simp at e; omega)
    rw [hW, hs, hs, hs, hs]
  have hsz : W.heap.size = w1.heap.size := by rw [hW]; simp
  have hsz1 := hb1.size
  have hsz2 : wr.heap.size < (wr.alloc (.cells #[.int .u8 4, .int .i64 0, .string ⟨#[]⟩, .slice g m c] 25)).heap.size := by simp
  have N2 : Blk W wr.heap.size #[.int .u8 4, .int .i64 0, .string ⟨#[]⟩, .slice g m c] 25 := by
    unfold Blk; rw [hs _ (by omega)]; exact N
  refine ⟨by rw [hW]; exact put4_below (bto hb hb2) _ hq _ _ _ _, by rw [hW]; exact (((B1.set 0 _).set 1 _).set 2 _).set 3 _, ?_⟩
  refine RV.mk' (l := [Va.nest i]) (s := Va.em) (by decide) (by unfold Va.I64; omega) (by decide) ⟨by simp, by simp [maxLen], fun e => (by cases e), fun j hj => ?_⟩
  obtain rfl : j = 0 := by simpa using hj
  exact ⟨wr.heap.size, 0, _, rfl, by omega, ⟨by omega, _, _, _, _, rfl, N2.cell 0, N2.cell 1, N2.cell 2, N2.cell 3⟩, V1.kept (by omega) (fun b h1 h2 => hs b (by omega))⟩
set_option maxHeartbeats 1600000 in
set_option maxRecDepth 100000 in
theorem deep_any (n : Nat) (hn : 1 ≤ n) (hn2 : n ≤ 100) (w : World) : Calls Tryd.prog 25 #[.int .i64 n] w (fun e w' => ∃ l m, Va.nest (n - 1) = .mk 4 0 Va.em l ∧ TPost l m w e w') := by
  have hA := bbox (Below.refl w.heap.size w) (.cells #[.int .u8 0, .int .i64 0, .string ⟨#[]⟩, .slice none 0 0] 25)
  have HA := Lib.hid hA
  have HF := Lib.hid (Blk.new w #[.int .u8 0, .int .i64 0, .string ⟨#[]⟩, .slice none 0 0] 25)
  clear hA
  go_enter Tryd.func25, Tryd.ntmps25
  go_wp2_with fail
  with_reducible refine (tuple_any _ _ _ _).mono ?_
  rintro e w1 ⟨rfl, hb⟩
  have HF1 := Lib.hid (HF.out.below hb)
  have HB1 := Lib.hid (bto HA.out hb)
  clear hb
  go_wp2_with fail
  go_loopw [4] (fun iv W => ∃ i m : Nat, ∃ g c, i + 1 ≤ n ∧ iv = .int .i64 ((i : Int) + 1) ∧ Below w.heap.size w W ∧ Blk W w.heap.size #[.int .u8 0, .int .i64 0, .string ⟨#[]⟩, .slice none 0 0] 25 ∧ Blk W w1.heap.size #[.int .u8 4, .int .i64 0, .string ⟨#[]⟩, .slice g m c] 25 ∧ RV (fun b => w1.heap.size < b) W (Va.nest i) (.agg #[.int .u8 4, .int .i64 0, .string ⟨#[]⟩, .slice g m c])) (fun iv _ => n - (intOf iv).toNat)
  case atStart =>
    refine ⟨0, 0, none, 0, by omega, rfl, bbox HB1.out _, HF1.out.below (bbox (Below.refl _ _) _), Blk.new _ _ _, rv_leaf _ 4 0 ⟨#[]⟩ (by decide) (by unfold Va.I64; omega) (by decide)⟩
  case round =>
    obtain ⟨i, m, g, c, hi, rfl, hb, hF, hB, hv⟩ := hrel
    have HB := Lib.hid hb
    have HFF := Lib.hid hF
    have HK := Lib.hid hB
    have HV := Lib.hid hv
    have hq1 : w.heap.size < w1.heap.size := HF1.out.lt
    have hq : w.heap.size ≤ w1.heap.size := HB1.out.size
    have e0 := hB.cell 0
    have e1 := hB.cell 1
    have e2 := hB.cell 2
    have e3 := hB.cell 3
    have elt := hB.lt
    clear hb hB hv hF
    by_cases hlt : i + 1 < n
    · have hj : (i : Int) + 1 < (n : Int) := by omega
      go_wp2_with fail
      with_reducible refine (tuple_any _ _ _ _).mono ?_
      rintro e w2 ⟨rfl, hb2⟩
      have HB2 := Lib.hid hb2
      have HK2 := Lib.hid (HK.out.below (bto (bbox (Below.refl _ _) _) hb2))
      clear e0 e1 e2 e3 elt
      have e0 := HK2.out.cell 0
      have e1 := HK2.out.cell 1
      have e2 := HK2.out.cell 2
      have e3 := HK2.out.cell 3
      have elt := HK2.out.lt
      have f0 := HK2.out.free 0
      have f1 := HK2.out.free 1
      have f2 := HK2.out.free 2
      have f3 := HK2.out.free 3
      have HFW := Lib.hid (HFF.out.below (bto (bbox (Below.refl _ _) _) hb2))
      clear hb2
      go_wp2
      go_roundw
      case rel =>
        obtain ⟨h1, h2, h3⟩ := nest_step hq HB.out HK.out HV.out w2 HB2.out _ rfl
        exact ⟨i + 1, 1, _, _, by omega, by go_num, h1, blk_other (blk_other (blk_other (blk_other HFW.out (by omega)) (by omega)) (by omega)) (by omega), h2, h3⟩
      case measure => simp [intOf]; omega
    · obtain rfl : n = i + 1 := by omega
      have d0 := HFF.out.cell 0
      have d1 := HFF.out.cell 1
      have d2 := HFF.out.cell 2
      have d3 := HFF.out.cell 3
      have f0 := HFF.out.free 0
      have f1 := HFF.out.free 1
      have f2 := HFF.out.free 2
      have f3 := HFF.out.free 3
      have dlt := HFF.out.lt
      go_wp2
      have QF := (((HFF.out.set 0 (.int .u8 4)).set 1 (.int .i64 0)).set 2 (.string ⟨#[]⟩)).set 3 (.slice g m c)
      (try simp only [Exit.inBlock, Exit.then])
      refine bodyPost_ret (results_cell_row rfl _ _ w.heap.size 25 _ (0, 0) _ rfl QF Tryd.underlying25 rfl (by kernel_rfl)) rfl ?_
      have hs : ∀ (W : World) (i : Nat) (u : Value) (b : Nat), w1.heap.size < b → (W.setCell ⟨w.heap.size, i, none⟩ u).heap[b]? = W.heap[b]? := fun W i u b hb => Below.heap_setCell _ _ _ _ (fun e => by simp at e; omega)
      have h3 := HV.out.kept (w' := (((wr.setCell ⟨w.heap.size, 0, none⟩ (.int .u8 4)).setCell ⟨w.heap.size, 1, none⟩ (.int .i64 0)).setCell ⟨w.heap.size, 2, none⟩ (.string ⟨#[]⟩)).setCell ⟨w.heap.size, 3, none⟩ (.slice g m c)) (by simp) (fun b hb _ => by rw [hs _ _ _ _ hb, hs _ _ _ _ hb, hs _ _ _ _ hb, hs _ _ _ _ hb])
      rw [Nat.add_sub_cancel]
      have h4 := put4_below HB.out w.heap.size (Nat.le_refl _) (.int .u8 4) (.int .i64 0) (.string ⟨#[]⟩) (.slice g m c)
      cases i with
      | zero =>
        obtain ⟨ba, cap, hx, _⟩ := h3.inv
        cases hx
        exact ⟨[], 0, rfl, _, _, rfl, h3.mono (fun _ _ _ => trivial), h4⟩
      | succ i =>
        obtain ⟨ba, cap, hx, _⟩ := h3.inv
        cases hx
        exact ⟨[Va.nest i], 1, rfl, _, _, rfl, h3.mono (fun _ _ _ => trivial), h4⟩
end Go.Proofs.YtgamhgeiceakeaaDoor
