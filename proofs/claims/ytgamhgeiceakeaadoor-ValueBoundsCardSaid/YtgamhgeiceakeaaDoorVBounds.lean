/- ValueBounds, the walk. -/
import Derived.Test.YtgamhgeiceakeaaDoorVTuples
import Derived.Test.YtgamhgeiceakeaaDoorVSpecj
import Derived.Deep.DeepCutAuto
import Derived.Laws.MakeOwn
set_option linter.unusedVariables false
set_option linter.unusedSimpArgs false
namespace Go.Proofs.YtgamhgeiceakeaaDoor
open Go.RowKit
open Va (V)
set_option maxRecDepth 100000 in
theorem info_value : ∃ i : TypeInfo, Tryd.prog.info? 25 = some i ∧ i.zero = some (.agg vz) ∧ i.size = 4 ∧ i.bytes = 56 := ⟨_, rfl, rfl, rfl, rfl⟩
theorem make_values (m : Nat) (hm : m ≤ 1000) (w : World) : (Instr.makeSlice 23 (.int .i64 (m : Int)) (.int .i64 (m : Int))).run Tryd.prog w = .ok (.slice (some ⟨w.heap.size, 0, none⟩) m m) (w.alloc (.cells (madeCells vz (m * 4)) 25)) := by
  obtain ⟨i, h0, h1, h2, h3⟩ := info_value
  have := run_make (P := Tryd.prog) w 23 25 i _ Tryd.underlying23 h0 h1 .i64 .i64 m m (by omega) (Int.le_refl _) (by rw [h3]; omega) (by omega)
  rw [h2, Int.toNat_natCast] at this
  exact this
theorem make_bytes (m : Nat) (hm : m ≤ 10000) (w : World) : (Instr.makeSlice 26 (.int .i64 (m : Int)) (.int .i64 (m : Int))).run Tryd.prog w = .ok (.slice (some ⟨w.heap.size, 0, none⟩) m m) (w.alloc (.cells (madeCells #[.int .u8 0] m) 5)) := by
  obtain ⟨i, hi0, hz0, hzi1, hzi2⟩ := info_parts Tryd.info_u8
  have := run_make (P := Tryd.prog) w 26 5 i _ Tryd.underlying26 hi0 hz0 .i64 .i64 m m (by omega) (Int.le_refl _) (by rw [hzi2]; omega) (by omega)
  rw [hzi1, Int.toNat_natCast, Nat.mul_one] at this
  exact this
/-- four cells of a block laid anew -/
def fill4 (W : World) (q : Nat) (a b c d : Value) : World := (((W.setCell ⟨q, 0, none⟩ a).setCell ⟨q, 1, none⟩ b).setCell ⟨q, 2, none⟩ c).setCell ⟨q, 3, none⟩ d
theorem fill4_other (W : World) (q k : Nat) (a b c d : Value) (h : k ≠ q) : (fill4 W q a b c d).heap[k]? = W.heap[k]? := by
  have hs : ∀ (W : World) (i : Nat) (u : Value), (W.setCell ⟨q, i, none⟩ u).heap[k]? = W.heap[k]? := fun W i u => Below.heap_setCell _ _ _ _ (fun e => h (by rw [e]))
  unfold fill4
  rw [hs, hs, hs, hs]
theorem fill4_size (W : World) (q : Nat) (a b c d : Value) : (fill4 W q a b c d).heap.size = W.heap.size := by unfold fill4; simp
theorem chain_step {w wr : World} {i : Nat} {a b c d : Value} (hb : Below w.heap.size w wr) (hB : Blk wr w.heap.size #[a, b, c, d] 25) (hv : RV (fun b => b ≠ w.heap.size) wr (Va.chain i) (.agg #[a, b, c, d])) (W : World)
    (hW : W = (fill4 wr w.heap.size (.int .u8 4) (.int .i64 0) (.string ⟨#[]⟩) (.slice (some ⟨wr.heap.size, 0, none⟩) 1 1)).alloc (.cells #[a, b, c, d] 25)) :
    ∃ a b c d, Below w.heap.size w W ∧ Blk W w.heap.size #[a, b, c, d] 25 ∧ RV (fun b => b ≠ w.heap.size) W (Va.chain (i + 1)) (.agg #[a, b, c, d]) := by
  have hlt := hB.lt
  obtain ⟨U, hU⟩ : ∃ U, fill4 wr w.heap.size (.int .u8 4) (.int .i64 0) (.string ⟨#[]⟩) (.slice (some ⟨wr.heap.size, 0, none⟩) 1 1) = U := ⟨_, rfl⟩
  have hUs : U.heap.size = wr.heap.size := by rw [← hU, fill4_size]
  have hUo : ∀ k, k ≠ w.heap.size → U.heap[k]? = wr.heap[k]? := fun k h => by rw [← hU, fill4_other _ _ _ _ _ _ _ h]
  have B2 : Blk U w.heap.size #[.int .u8 4, .int .i64 0, .string ⟨#[]⟩, .slice (some ⟨wr.heap.size, 0, none⟩) 1 1] 25 := by rw [← hU]; exact (((hB.set 0 (.int .u8 4)).set 1 (.int .i64 0)).set 2 (.string ⟨#[]⟩)).set 3 (.slice (some ⟨wr.heap.size, 0, none⟩) 1 1)
  have hbU : Below w.heap.size w U := by rw [← hU]; exact put4_below hb _ (Nat.le_refl _) _ _ _ _
  rw [hU] at hW
  clear hU
  subst hW
  have hal : Below U.heap.size U (U.alloc (.cells #[a, b, c, d] 25)) := (Below.refl _ _).alloc (Nat.le_refl _) _
  have N := Blk.new U #[a, b, c, d] 25
  have hsz : U.heap.size < (U.alloc (.cells #[a, b, c, d] 25)).heap.size := by simp
  rw [hUs] at N hsz
  refine ⟨_, _, _, _, bbox hbU _, B2.below hal, ?_⟩
  refine RV.mk' (l := [Va.chain i]) (s := Va.em) (by decide) (by unfold Va.I64; omega) (by decide) ⟨by simp, by simp [maxLen], fun e => (by cases e), fun j hj => ?_⟩
  obtain rfl : j = 0 := by simpa using hj
  exact ⟨wr.heap.size, 0, _, rfl, by omega, ⟨hsz, a, b, c, d, rfl, N.cell 0, N.cell 1, N.cell 2, N.cell 3⟩, hv.kept (by omega) (fun b h1 h2 => by rw [hal.block b (by omega)]; exact hUo b h1)⟩
theorem fourth {cs : Array Value} {j m t : Nat} {a b c d : Value} (hcs : cs.size = m * 4) (hj : j < m) (ht : t = j) :
    let ds := (((cs.setIfInBounds (j * 4) a).setIfInBounds (j * 4 + 1) b).setIfInBounds (j * 4 + 2) c).setIfInBounds (j * 4 + 3) d
    ds[t * 4]? = some a ∧ ds[t * 4 + 1]? = some b ∧ ds[t * 4 + 2]? = some c ∧ ds[t * 4 + 3]? = some d := by
  subst ht
  intro ds
  refine ⟨?_, ?_, ?_, ?_⟩ <;> (show (((((cs.setIfInBounds (t * 4) a).setIfInBounds (t * 4 + 1) b).setIfInBounds (t * 4 + 2) c).setIfInBounds (t * 4 + 3) d) : Array Value)[_]? = _)
  · rw [Array.getElem?_setIfInBounds_ne (by omega), Array.getElem?_setIfInBounds_ne (by omega), Array.getElem?_setIfInBounds_ne (by omega), Array.getElem?_setIfInBounds_self_of_lt (by omega)]
  · rw [Array.getElem?_setIfInBounds_ne (by omega), Array.getElem?_setIfInBounds_ne (by omega), Array.getElem?_setIfInBounds_self_of_lt (by simp; omega)]
  · rw [Array.getElem?_setIfInBounds_ne (by omega), Array.getElem?_setIfInBounds_self_of_lt (by simp; omega)]
  · rw [Array.getElem?_setIfInBounds_self_of_lt (by simp; omega)]
theorem fifth {cs : Array Value} {j o : Nat} {a b c d : Value} (h : o < j * 4 ∨ j * 4 + 3 < o) :
    ((((cs.setIfInBounds (j * 4) a).setIfInBounds (j * 4 + 1) b).setIfInBounds (j * 4 + 2) c).setIfInBounds (j * 4 + 3) d)[o]? = cs[o]? := by
  rw [Array.getElem?_setIfInBounds_ne (by omega), Array.getElem?_setIfInBounds_ne (by omega), Array.getElem?_setIfInBounds_ne (by omega), Array.getElem?_setIfInBounds_ne (by omega)]
theorem Blk.other {W : World} {p q i : Nat} {u : Value} {cs : Array Value} {T : TypeId} (h : Blk W p cs T) (hne : p ≠ q) : Blk (W.setCell ⟨q, i, none⟩ u) p cs T := by
  unfold Blk; rw [Below.heap_setCell _ _ _ _ (fun e => hne (by rw [e]))]; exact h
theorem rv_halves {W : World} {p m : Nat} {cs : Array Value} (hR : Blk W p cs 25) (hm : m ≤ 300) (hall : ∀ t, t < m → cs[t * 4]? = some (.int .u8 2) ∧ cs[t * 4 + 1]? = some (.int .i64 ((t % 2 : Nat) : Int)) ∧ cs[t * 4 + 2]? = some (.string ⟨#[]⟩) ∧ cs[t * 4 + 3]? = some (.slice none 0 0)) :
    RV (fun _ => True) W (.mk 4 0 Va.em (Va.halves m)) (.agg #[.int .u8 4, .int .i64 0, .string ⟨#[]⟩, .slice (some ⟨p, 0, none⟩) m m]) := by
  have h := RV.mk' (ok := fun _ => True) (w := W) (k := 4) (n := 0) (s := Va.em) (l := Va.halves m) (ba := some ⟨p, 0, none⟩) (cap := m) (by decide) (by unfold Va.I64; omega) (by decide)
    ⟨by rw [Va.halves_len]; exact Nat.le_refl _, by unfold maxLen; omega, fun e => (by cases e), fun j hj => by
      rw [Va.halves_len] at hj
      obtain ⟨h1, h2, h3, h4⟩ := hall j hj
      have hel : (Va.halves m)[j]'(by rw [Va.halves_len]; exact hj) = Va.half j := by unfold Va.halves; simp
      rw [hel]
      refine ⟨p, 0, _, rfl, trivial, ⟨hR.lt, _, _, _, _, rfl, by rw [hR.cell, Nat.zero_add]; exact h1, by rw [hR.cell, Nat.zero_add]; exact h2, by rw [hR.cell, Nat.zero_add]; exact h3, by rw [hR.cell, Nat.zero_add]; exact h4⟩, ?_⟩
      exact rv_leaf W 2 _ ⟨#[]⟩ (by decide) (by unfold Va.I64; omega) (by decide)⟩
  rw [Va.halves_len] at h
  exact h
theorem right_tof (v : V) (ok : Nat → Prop) (x : Value) (w : World) (o : Bool) (ho : Va.right v = o) (h : RV ok w v x) : Calls Tryd.prog 13 #[x] w (MkPost (.bool o) w) :=
  (right_any ok v x w h).mono fun e w' ⟨he, hb⟩ => ⟨by rw [he, ho], hb⟩
/-- an entry of the law's list: a value, and whether it is right -/
def Ent (W : World) (cs : Array Value) (i : Nat) : Prop := ∃ (v : V) (a b c d : Value) (o : Bool), cs[i * 5]? = some a ∧ cs[i * 5 + 1]? = some b ∧ cs[i * 5 + 2]? = some c ∧ cs[i * 5 + 3]? = some d ∧ cs[i * 5 + 4]? = some (.bool o) ∧ RV (fun _ => True) W v (.agg #[a, b, c, d]) ∧ Va.right v = o ∧ (Va.txt v == [63]) = false
theorem ents {W : World} {u v x : V} {a b c d a' b' c' d' a2 b2 c2 d2 : Value} {o o' o2 : Bool} (h1 : RV (fun _ => True) W u (.agg #[a, b, c, d])) (h2 : RV (fun _ => True) W v (.agg #[a', b', c', d'])) (h3 : RV (fun _ => True) W x (.agg #[a2, b2, c2, d2]))
    (r1 : Va.right u = o) (r2 : Va.right v = o') (r3 : Va.right x = o2) (t1 : (Va.txt u == [63]) = false) (t2 : (Va.txt v == [63]) = false) (t3 : (Va.txt x == [63]) = false) (i : Nat) (hi : i < 3) :
    Ent W #[a, b, c, d, .bool o, a', b', c', d', .bool o', a2, b2, c2, d2, .bool o2] i := by
  match i, hi with
  | 0, _ => exact ⟨u, a, b, c, d, o, rfl, rfl, rfl, rfl, rfl, h1, r1, t1⟩
  | 1, _ => exact ⟨v, a', b', c', d', o', rfl, rfl, rfl, rfl, rfl, h2, r2, t2⟩
  | 2, _ => exact ⟨x, a2, b2, c2, d2, o2, rfl, rfl, rfl, rfl, rfl, h3, r3, t3⟩
set_option maxHeartbeats 1600000 in
set_option maxRecDepth 100000 in
theorem bounds_row (p q r : Nat) (w : World) (hp : p < 65536) (hq : q < 65536) (hr : r < 256) (ht : Tab w) :
    Calls Tryd.prog 5 #[.int .u16 p, .int .u16 q, .int .u8 r] w (BB true w) := by
  have CW := Lib.hid (fun W (hbl : Below w.heap.size w W) => awake_any W (ht.past hbl))
  obtain ⟨n, hn⟩ : ∃ n, p % 41 = n := ⟨_, rfl⟩
  obtain ⟨m, hm⟩ : ∃ m, q % 301 = m := ⟨_, rfl⟩
  obtain ⟨k, hk⟩ : ∃ k, 3968 + r = k := ⟨_, rfl⟩
  have n1 : (p : Int) % 41 = (n : Int) := by omega
  have m1 : (q : Int) % 301 = (m : Int) := by omega
  have k1 : 3968 + (r : Int) = (k : Int) := by omega
  have n2 : n ≤ 40 := by omega
  have m2 : m ≤ 300 := by omega
  have k2 : k ≤ 4300 := by omega
  clear hn hm hk
  go_enter Tryd.func5, Tryd.ntmps5
  go_wp2_with fail
  go_loopw [11] (fun iv wr => ∃ (i : Nat) (a b c d : Value), i ≤ n ∧ iv = .int .i64 i ∧ Below w.heap.size w wr ∧ Blk wr w.heap.size #[a, b, c, d] 25 ∧ RV (fun b => b ≠ w.heap.size) wr (Va.chain i) (.agg #[a, b, c, d])) (fun iv _ => n - (intOf iv).toNat)
  case atStart =>
    exact ⟨0, _, _, _, _, by omega, rfl, (Below.refl _ _).alloc (Nat.le_refl _) _, Blk.new _ _ _, rv_leaf _ 1 5 ⟨#[]⟩ (by decide) (by unfold Va.I64; omega) (by decide)⟩
  case round =>
    obtain ⟨i, a, b, c, d, hi, rfl, hb, hB, hv⟩ := hrel
    have HB := Lib.hid hb
    have HK := Lib.hid hB
    have HV := Lib.hid hv
    have e0 := hB.cell 0
    have e1 := hB.cell 1
    have e2 := hB.cell 2
    have e3 := hB.cell 3
    have elt := hB.lt
    have f0 := hB.free 0
    have f1 := hB.free 1
    have f2 := hB.free 2
    have f3 := hB.free 3
    clear hb hB hv
    by_cases hlt : i < n
    · have hj : (i : Int) < (n : Int) := by omega
      go_wp2
      go_roundw
      case rel =>
        obtain ⟨a', b', c', d', h1, h2, h3⟩ := chain_step HB.out HK.out HV.out _ rfl
        exact ⟨i + 1, a', b', c', d', by omega, by go_num, h1, h2, h3⟩
      case measure => simp [intOf]; omega
    · obtain rfl : n = i := by omega
      obtain ⟨wx, rfl⟩ : ∃ wx, wx = wr := ⟨_, rfl⟩
      have hmk := make_values m (by omega) wx
      clear e0 e1 e2 e3 elt f0 f1 f2 f3
      go_wp2_with fail
      clear hmk
      have hR0 : Blk (wx.alloc (.cells (madeCells vz (m * 4)) 25)) wx.heap.size (madeCells vz (m * 4)) 25 := Blk.new _ _ _
      have hB0 := Blk.new (wx.alloc (.cells (madeCells vz (m * 4)) 25)) #[.int .u8 4, .int .i64 0, .string ⟨#[]⟩, .slice (some ⟨wx.heap.size, 0, none⟩) m m] 25
      rw [show (wx.alloc (.cells (madeCells vz (m * 4)) 25)).heap.size = wx.heap.size + 1 by simp] at hB0
      have HR0 := Lib.hid (hR0.below ((Below.refl _ _).alloc (Nat.le_refl _) (.cells #[.int .u8 4, .int .i64 0, .string ⟨#[]⟩, .slice (some ⟨wx.heap.size, 0, none⟩) m m] 25)))
      have HB0 := Lib.hid hB0
      clear hR0 hB0
      go_loopw [13] (fun iv W => ∃ (j : Nat) (cs : Array Value), j ≤ m ∧ iv = .int .i64 j ∧ Below wx.heap.size wx W ∧ Blk W wx.heap.size cs 25 ∧ cs.size = m * 4 ∧ (∀ t, t < j → cs[t * 4]? = some (.int .u8 2) ∧ cs[t * 4 + 1]? = some (.int .i64 ((t % 2 : Nat) : Int)) ∧ cs[t * 4 + 2]? = some (.string ⟨#[]⟩) ∧ cs[t * 4 + 3]? = some (.slice none 0 0)) ∧ Blk W (wx.heap.size + 1) #[.int .u8 4, .int .i64 0, .string ⟨#[]⟩, .slice (some ⟨wx.heap.size, 0, none⟩) m m] 25) (fun iv _ => m - (intOf iv).toNat)
      case atStart => exact ⟨0, _, by omega, rfl, bbox (bbox (Below.refl _ _) _) _, HR0.out, size_madeCells _ _, fun t ht => by omega, HB0.out⟩
      case round =>
        obtain ⟨j, cs, hj, rfl, hb, hR, hcs, hall, hB⟩ := hrel
        have HBL := Lib.hid hb
        have HRW := Lib.hid hR
        have HCS := Lib.hid hcs
        have HALL := Lib.hid hall
        have HP1 := Lib.hid hB
        have d3 := hB.cell 3
        have dlt := hB.lt
        have rlt := hR.lt
        have f0 := hR.free (j * 4)
        have f1 := hR.free (j * 4 + 1)
        have f2 := hR.free (j * 4 + 2)
        have f3 := hR.free (j * 4 + 3)
        have hce := fun o => hR.cell o
        clear hb hR hall hB
        by_cases hlt2 : j < m
        · have hex : ∀ o, o < m * 4 → ∃ u, wr.cell? ⟨wx.heap.size, o, none⟩ = some u := fun o ho => ⟨cs[o]'(by omega), by rw [hce]; exact Array.getElem?_eq_getElem (by omega)⟩
          obtain ⟨u0, g0⟩ := hex (j * 4) (by omega)
          obtain ⟨u1, g1⟩ := hex (j * 4 + 1) (by omega)
          obtain ⟨u2, g2⟩ := hex (j * 4 + 2) (by omega)
          obtain ⟨u3, g3⟩ := hex (j * 4 + 3) (by omega)
          clear hex hce hcs
          have hj0 : (0 : Int) ≤ (j : Int) := by omega
          have hj1 : (j : Int) < (m : Int) := by omega
          go_wp2
          go_roundw
          case rel =>
            refine ⟨j + 1, _, by omega, by go_num, (((HBL.out.setCell (Nat.le_refl _) _).setCell (Nat.le_refl _) _).setCell (Nat.le_refl _) _).setCell (Nat.le_refl _) _, (((HRW.out.set _ _).set _ _).set _ _).set _ _, by simp only [Array.size_setIfInBounds]; exact HCS.out, fun t ht => ?_, (((HP1.out.other (by omega)).other (by omega)).other (by omega)).other (by omega)⟩
            by_cases htj : t = j
            · have h4 := fourth (a := .int .u8 2) (b := .int .i64 ((j : Int) % 2)) (c := .string ⟨#[]⟩) (d := .slice none 0 0) HCS.out hlt2 htj
              have h5 : ((t % 2 : Nat) : Int) = (j : Int) % 2 := by omega
              rw [h5]; exact h4
            · have h6 := HALL.out t (by omega)
              rw [fifth (by omega), fifth (by omega), fifth (by omega), fifth (by omega)]; exact h6
          case measure => simp [intOf]; omega
        · obtain rfl : m = j := by omega
          obtain ⟨wy, rfl⟩ : ∃ wy, wy = wr := ⟨_, rfl⟩
          have hmk := make_bytes k (by omega) wy
          have hrd : Rd (wy.alloc (.cells (madeCells #[.int .u8 0] k) 5)) (some ⟨wy.heap.size, 0, none⟩) (List.replicate k 0) := Or.inr ⟨wy.heap.size, 0, rfl, by simp, fun t ht => by
            rw [List.length_replicate] at ht
            have h := (Blk.new wy (madeCells #[.int .u8 0] k) 5).cell t
            rw [Nat.zero_add, h]
            unfold madeCells
            simp [ht, Nat.mod_one]⟩
          have hcv := conv_rd (cap := k) (List.length_replicate) hrd (fun e => by cases e)
          clear hrd d3 dlt rlt f0 f1 f2 f3
          go_upto_region 13 with (fail)
          clear hmk hcv
          have hbwy : Below wx.heap.size wx ((wy.alloc (.cells (madeCells #[.int .u8 0] k) 5)).alloc (.cells #[.int .u8 3, .int .i64 0, .string ⟨Array.replicate k 0⟩, .slice none 0 0] 25)) := bbox (bbox HBL.out _) _
          have hbyy : Below wy.heap.size wy ((wy.alloc (.cells (madeCells #[.int .u8 0] k) 5)).alloc (.cells #[.int .u8 3, .int .i64 0, .string ⟨Array.replicate k 0⟩, .slice none 0 0] 25)) := bbox (bbox (Below.refl _ _) _) _
          have hB3 := Blk.new (wy.alloc (.cells (madeCells #[.int .u8 0] k) 5)) #[.int .u8 3, .int .i64 0, .string ⟨Array.replicate k 0⟩, .slice none 0 0] 25
          rw [show (wy.alloc (.cells (madeCells #[.int .u8 0] k) 5)).heap.size = wy.heap.size + 1 by simp] at hB3
          obtain ⟨W, hW⟩ : ∃ W, (wy.alloc (.cells (madeCells #[.int .u8 0] k) 5)).alloc (.cells #[.int .u8 3, .int .i64 0, .string ⟨Array.replicate k 0⟩, .slice none 0 0] 25) = W := ⟨_, rfl⟩
          rw [hW] at hbwy hbyy hB3 ⊢
          have hB1 := HK.out.below hbwy
          have hB2 := HP1.out.below hbyy
          have R1 := Lib.hid ((HV.out.past hbwy).mono (ok' := fun _ => True) (fun _ _ _ => trivial))
          have R2 := Lib.hid (rv_halves (HRW.out.below hbyy) m2 HALL.out)
          have R3 := Lib.hid (rv_leaf (ok := fun _ => True) W 3 0 (Va.nought k) (by decide) (by unfold Va.I64; omega) (by rw [Va.nought_size]; unfold maxLen; omega))
          have HBW := Lib.hid (HB.out.trans (hbwy.mono HB.out.size))
          have e0 := hB1.cell 0
          have e1 := hB1.cell 1
          have e2 := hB1.cell 2
          have e3 := hB1.cell 3
          have elt := hB1.lt
          have d0 := hB2.cell 0
          have d1 := hB2.cell 1
          have d2 := hB2.cell 2
          have d3 := hB2.cell 3
          have dlt := hB2.lt
          have g0 := hB3.cell 0
          have g1 := hB3.cell 1
          have g2 := hB3.cell 2
          have g3 := hB3.cell 3
          have glt := hB3.lt
          clear hW hbwy hbyy hB1 hB2 hB3 HB HK HV HBL HRW HCS HALL HP1
          clear hce
          obtain ⟨o1, ho1⟩ : ∃ o1, decide ((n : Int) + 1 ≤ 16) = o1 := ⟨_, rfl⟩
          obtain ⟨o2, ho2⟩ : ∃ o2, decide ((m : Int) + 1 ≤ 256) = o2 := ⟨_, rfl⟩
          obtain ⟨o3, ho3⟩ : ∃ o3, decide ((k : Int) ≤ 4096) = o3 := ⟨_, rfl⟩
          have HENT := Lib.hid (ents R1.out R2.out R3.out (o := o1) (o' := o2) (o2 := o3) (by rw [Va.right_chain, ← ho1, Bool.eq_iff_iff, decide_eq_true_eq, decide_eq_true_eq]; omega) (by rw [Va.right_wide, ← ho2, Bool.eq_iff_iff, decide_eq_true_eq, decide_eq_true_eq]; omega) (by rw [Va.right_long, ← ho3, Bool.eq_iff_iff, decide_eq_true_eq, decide_eq_true_eq]; omega) (Va.txt_chain n) (Va.txt_wide m) (Va.txt_long k))
          go_wp2_with fail
          clear e0 e1 e2 e3 elt d0 d1 d2 d3 dlt g0 g1 g2 g3 glt R1 R2 R3 ho1 ho2 ho3
          rw [show Va.nought k = (⟨Array.replicate k 0⟩ : ByteArray) from rfl] at HENT
          obtain ⟨CE, hCE⟩ : ∃ CE : Array Value, #[a, b, c, d, .bool o1, .int .u8 4, .int .i64 0, .string ⟨#[]⟩, .slice (some ⟨wx.heap.size, 0, none⟩) m m, .bool o2, .int .u8 3, .int .i64 0, .string ⟨Array.replicate k 0⟩, .slice none 0 0, .bool o3] = CE := ⟨_, rfl⟩
          have hent : ∀ i, i < 3 → Ent W CE i := by rw [← hCE]; exact HENT.out
          rw [hCE]
          clear HENT hCE
          have HE := Lib.hid hent
          clear hent n1 m1 k1
          go_loopw [16, 17, 18, 72] (fun _ _ _ iv V => ∃ i : Nat, i ≤ 3 ∧ iv = .int .i64 i ∧ Below W.heap.size W V ∧ Blk V W.heap.size CE 43) (fun _ _ _ iv _ => 3 - (intOf iv).toNat)
          case atStart => exact ⟨0, by omega, rfl, (Below.refl _ _).alloc (Nat.le_refl _) _, Blk.new _ _ _⟩
          case round =>
            obtain ⟨i, hi3, rfl, hbV, hBE⟩ := hrel
            have HBV := Lib.hid hbV
            have HBE := Lib.hid hBE
            by_cases hlt3 : i < 3
            · obtain ⟨v, a1, b1, c1, d1, o, x0, x1, x2, x3, x4, hrv, hri, htx⟩ := HE.out i hlt3
              obtain ⟨kk, nn, ss, ll⟩ := v
              obtain ⟨bb1, cc1, hxx, -, -, -, -⟩ := hrv.inv
              cases hxx
              have y0 := (hBE.cell (i * 5)).trans x0
              have y1 := (hBE.cell (i * 5 + 1)).trans x1
              have y2 := (hBE.cell (i * 5 + 2)).trans x2
              have y3 := (hBE.cell (i * 5 + 3)).trans x3
              have y4 := (hBE.cell (i * 5 + 4)).trans x4
              have ylt := hBE.lt
              have hj0 : (0 : Int) ≤ (i : Int) := by omega
              have hj1 : (i : Int) < 3 := by omega
              have HRV := Lib.hid hrv
              have HRI := Lib.hid hri
              have HTX := Lib.hid htx
              clear x0 x1 x2 x3 x4 hrv hri htx hbV hBE
              have HTB := Lib.hid ht
              cases o with
              | true =>
                have CP := Lib.hid (fun V (hb : Below W.heap.size W V) => put_yes _ _ _ V (HRV.out.past hb) HRI.out)
                have CR := Lib.hid (fun V (hb : Below W.heap.size W V) => right_tof _ _ _ V true HRI.out (HRV.out.past hb))
                have CS := Lib.hid (fun V (hb : Below W.heap.size W V) => Show_lit _ _ _ V ⟨(Va.txt (Va.V.mk kk nn ss ll)).toArray⟩ (by unfold shownPost; rw [if_pos HRI.out]) (HRV.out.past hb) (HTB.out.past (HBW.out.trans (hb.mono HBW.out.size))))
                have hbox := Lib.hid (bbox HBV.out (.cells #[.int .u8 kk, .int .i64 nn, .string ss, .slice bb1 ll.length cc1, .bool true] 43))
                go_wp2_with fail
                with_reducible refine (CP.out _ (bbox HBV.out _)).mono ?_
                rintro e V2 ⟨b4, c4, rfl, hx5, hc4, hb4, hfr⟩
                have hne : 0 < (Va.enc (V.mk kk nn ss ll)).length := List.length_pos_iff.2 (enc_ne (V.mk kk nn ss ll))
                clear hx5 hc4 hfr
                generalize (Va.enc (V.mk kk nn ss ll)).length = el at hne
                have HV2 := Lib.hid (hbox.out.trans (hb4.mono hbox.out.size))
                have hBX := Blk.new wr #[.int .u8 kk, .int .i64 nn, .string ss, .slice bb1 ll.length cc1, .bool true] 43
                have HBX := Lib.hid (hBX.below hb4)
                have HBE2 := Lib.hid ((HBE.out.below ((Below.refl _ _).alloc (Nat.le_refl _) (.cells #[.int .u8 kk, .int .i64 nn, .string ss, .slice bb1 ll.length cc1, .bool true] 43))).below hb4)
                clear hb4 hBX y0 y1 y2 y3 y4 ylt CP hbox
                have z0 := HBX.out.cell 0
                have z1 := HBX.out.cell 1
                have z2 := HBX.out.cell 2
                have z3 := HBX.out.cell 3
                have z4 := HBX.out.cell 4
                have zlt := HBX.out.lt
                go_upto_region 17 with (fail)
                refine wp_region_T_drew (fun w' => w'.cell? ⟨wr.heap.size, 0, none⟩ = some (.int .u8 kk) ∧ w'.cell? ⟨wr.heap.size, 1, none⟩ = some (.int .i64 nn) ∧ w'.cell? ⟨wr.heap.size, 2, none⟩ = some (.string ss) ∧ w'.cell? ⟨wr.heap.size, 3, none⟩ = some (.slice bb1 ll.length cc1) ∧ w'.cell? ⟨wr.heap.size, 4, none⟩ = some (.bool true)) 30 (by kernel_rfl) ⟨z0, z1, z2, z3, z4⟩ (fun hS => ?_)
                have hdr : Below V2.heap.size V2 V2.drew := (Below.refl _ _).drew
                have HV3 := Lib.hid (HV2.out.trans (hdr.mono HV2.out.size))
                have HBX3 := Lib.hid (HBX.out.below hdr)
                have HBE3 := Lib.hid (HBE2.out.below hdr)
                clear hdr HV2 HBX HBE2 z0 z1 z2 z3 z4 zlt
                refine wpAnyT_take 0 rfl (by kernel_rfl) (by kernel_rfl) (by decide) (by kernel_rfl) (by kernel_rfl) (fun _ _ _ h => h) hS (by kernel_rfl) (v := ?_) ?_ ?_
                rotate_left
                · intro w' hSw; (try dsimp only at hSw); go_simp; (try with_reducible rfl)
                simp only [Act.put, List.setIfInBounds_toArray, List.set_cons_zero, List.set_cons_succ]
                refine wpAnyT_take 1 rfl (by kernel_rfl) (by kernel_rfl) (by decide) (by kernel_rfl) (by kernel_rfl) (fun _ _ _ h => h) hS (by kernel_rfl) (v := ?_) ?_ ?_
                rotate_left
                · intro w' hSw; (try dsimp only at hSw); go_simp; (try with_reducible rfl)
                simp only [Act.put, List.setIfInBounds_toArray, List.set_cons_zero, List.set_cons_succ]
                refine wpAnyT_take 3 rfl (by kernel_rfl) (by kernel_rfl) (by decide) (by kernel_rfl) (by kernel_rfl) (fun _ _ _ h => h) hS (by kernel_rfl) (v := ?_) ?_ ?_
                rotate_left
                · intro w' hSw; (try dsimp only at hSw); go_simp; (try with_reducible rfl)
                simp only [Act.put, List.setIfInBounds_toArray, List.set_cons_zero, List.set_cons_succ]
                refine wpAnyT_take 4 rfl (by kernel_rfl) (by kernel_rfl) (by decide) (by kernel_rfl) (by kernel_rfl) (fun _ _ _ h => h) hS (by kernel_rfl) (v := ?_) ?_ ?_
                rotate_left
                · intro w' hSw; (try dsimp only at hSw); go_simp; (try with_reducible rfl)
                simp only [Act.put, List.setIfInBounds_toArray, List.set_cons_zero, List.set_cons_succ]
                refine wpAnyT_one 2 (by kernel_rfl) rfl (by kernel_rfl) (fun K hK => ?_)
                go_simp
                with_reducible refine (CR.out _ HV3.out).mono ?_
                rintro e V4 ⟨rfl, hb5⟩
                have HV4 := Lib.hid (HV3.out.trans (hb5.mono HV3.out.size))
                have HBX4 := Lib.hid (HBX3.out.below hb5)
                have HBE4 := Lib.hid (HBE3.out.below hb5)
                have hS : _ ∧ _ ∧ _ ∧ _ ∧ _ := ⟨HBX4.out.cell 0, HBX4.out.cell 1, HBX4.out.cell 2, HBX4.out.cell 3, HBX4.out.cell 4⟩
                clear hb5 HV3 HBX3 HBE3
                refine hK _ _ (fun _ => hS) ?_
                clear hK K
                refine wpAnyT_pure 5 rfl (by kernel_rfl) (by decide) (by kernel_rfl) (by kernel_rfl) (fun _ _ _ h => h) hS (by kernel_rfl) (v := ?_) ?_ ?_
                rotate_left
                · intro w'; go_simp; (try with_reducible rfl)
                simp only [Act.put, List.setIfInBounds_toArray, List.set_cons_zero, List.set_cons_succ]
                refine wpAnyT_pure 6 rfl (by kernel_rfl) (by decide) (by kernel_rfl) (by kernel_rfl) (fun _ _ _ h => h) hS (by kernel_rfl) (v := ?_) ?_ ?_
                rotate_left
                · intro w'; go_simp; (try with_reducible rfl)
                simp only [Act.put, List.setIfInBounds_toArray, List.set_cons_zero, List.set_cons_succ]
                refine wpAnyT_pure 7 rfl (by kernel_rfl) (by decide) (by kernel_rfl) (by kernel_rfl) (fun _ _ _ h => h) hS (by kernel_rfl) (v := ?_) ?_ ?_
                rotate_left
                · intro w'; go_simp; (try with_reducible rfl)
                simp only [Act.put, List.setIfInBounds_toArray, List.set_cons_zero, List.set_cons_succ]
                refine wpAnyT_pure 8 rfl (by kernel_rfl) (by decide) (by kernel_rfl) (by kernel_rfl) (fun _ _ _ h => h) hS (by kernel_rfl) (v := ?_) ?_ ?_
                rotate_left
                · intro w'; go_simp; (try with_reducible rfl)
                simp only [Act.put, List.setIfInBounds_toArray, List.set_cons_zero, List.set_cons_succ]
                refine wpAnyT_take 9 rfl (by kernel_rfl) (by kernel_rfl) (by decide) (by kernel_rfl) (by kernel_rfl) (fun _ _ _ h => h) hS (by kernel_rfl) (v := ?_) ?_ ?_
                rotate_left
                · intro w' hSw; (try dsimp only at hSw); go_simp; (try with_reducible rfl)
                simp only [Act.put, List.setIfInBounds_toArray, List.set_cons_zero, List.set_cons_succ]
                refine wpAnyT_take 10 rfl (by kernel_rfl) (by kernel_rfl) (by decide) (by kernel_rfl) (by kernel_rfl) (fun _ _ _ h => h) hS (by kernel_rfl) (v := ?_) ?_ ?_
                rotate_left
                · intro w' hSw; (try dsimp only at hSw); go_simp; (try with_reducible rfl)
                simp only [Act.put, List.setIfInBounds_toArray, List.set_cons_zero, List.set_cons_succ]
                refine wpAnyT_pure 11 rfl (by kernel_rfl) (by decide) (by kernel_rfl) (by kernel_rfl) (fun _ _ _ h => h) hS (by kernel_rfl) (v := ?_) ?_ ?_
                rotate_left
                · intro w'; go_simp; (try with_reducible rfl)
                simp only [Act.put, List.setIfInBounds_toArray, List.set_cons_zero, List.set_cons_succ]
                refine wpAnyT_pure 12 rfl (by kernel_rfl) (by decide) (by kernel_rfl) (by kernel_rfl) (fun _ _ _ h => h) hS (by kernel_rfl) (v := ?_) ?_ ?_
                rotate_left
                · intro w'; go_simp; (try with_reducible rfl)
                simp only [Act.put, List.setIfInBounds_toArray, List.set_cons_zero, List.set_cons_succ]
                refine wpAnyT_pure 13 rfl (by kernel_rfl) (by decide) (by kernel_rfl) (by kernel_rfl) (fun _ _ _ h => h) hS (by kernel_rfl) (v := ?_) ?_ ?_
                rotate_left
                · intro w'; go_simp; (try with_reducible rfl)
                simp only [Act.put, List.setIfInBounds_toArray, List.set_cons_zero, List.set_cons_succ]
                refine wpAnyT_pure 14 rfl (by kernel_rfl) (by decide) (by kernel_rfl) (by kernel_rfl) (fun _ _ _ h => h) hS (by kernel_rfl) (v := ?_) ?_ ?_
                rotate_left
                · intro w'; go_simp; (try with_reducible rfl)
                simp only [Act.put, List.setIfInBounds_toArray, List.set_cons_zero, List.set_cons_succ]
                refine wpAnyT_pure 15 rfl (by kernel_rfl) (by decide) (by kernel_rfl) (by kernel_rfl) (fun _ _ _ h => h) hS (by kernel_rfl) (v := ?_) ?_ ?_
                rotate_left
                · intro w'; go_simp; (try with_reducible rfl)
                simp only [Act.put, List.setIfInBounds_toArray, List.set_cons_zero, List.set_cons_succ]
                refine wpAnyT_pure 16 rfl (by kernel_rfl) (by decide) (by kernel_rfl) (by kernel_rfl) (fun _ _ _ h => h) hS (by kernel_rfl) (v := ?_) ?_ ?_
                rotate_left
                · intro w'; go_simp; (try with_reducible rfl)
                simp only [Act.put, List.setIfInBounds_toArray, List.set_cons_zero, List.set_cons_succ]
                refine wpAnyT_take 17 rfl (by kernel_rfl) (by kernel_rfl) (by decide) (by kernel_rfl) (by kernel_rfl) (fun _ _ _ h => h) hS (by kernel_rfl) (v := ?_) ?_ ?_
                rotate_left
                · intro w' hSw; (try dsimp only at hSw); go_simp; (try with_reducible rfl)
                simp only [Act.put, List.setIfInBounds_toArray, List.set_cons_zero, List.set_cons_succ]
                refine wpAnyT_take 18 rfl (by kernel_rfl) (by kernel_rfl) (by decide) (by kernel_rfl) (by kernel_rfl) (fun _ _ _ h => h) hS (by kernel_rfl) (v := ?_) ?_ ?_
                rotate_left
                · intro w' hSw; (try dsimp only at hSw); go_simp; (try with_reducible rfl)
                simp only [Act.put, List.setIfInBounds_toArray, List.set_cons_zero, List.set_cons_succ]
                refine wpAnyT_pure 19 rfl (by kernel_rfl) (by decide) (by kernel_rfl) (by kernel_rfl) (fun _ _ _ h => h) hS (by kernel_rfl) (v := ?_) ?_ ?_
                rotate_left
                · intro w'; go_simp; (try with_reducible rfl)
                simp only [Act.put, List.setIfInBounds_toArray, List.set_cons_zero, List.set_cons_succ]
                refine wpAnyT_pure 20 rfl (by kernel_rfl) (by decide) (by kernel_rfl) (by kernel_rfl) (fun _ _ _ h => h) hS (by kernel_rfl) (v := ?_) ?_ ?_
                rotate_left
                · intro w'; go_simp; (try with_reducible rfl)
                simp only [Act.put, List.setIfInBounds_toArray, List.set_cons_zero, List.set_cons_succ]
                refine wpAnyT_pure 21 rfl (by kernel_rfl) (by decide) (by kernel_rfl) (by kernel_rfl) (fun _ _ _ h => h) hS (by kernel_rfl) (v := ?_) ?_ ?_
                rotate_left
                · intro w'; go_simp; (try with_reducible rfl)
                simp only [Act.put, List.setIfInBounds_toArray, List.set_cons_zero, List.set_cons_succ]
                refine wpAnyT_take 22 rfl (by kernel_rfl) (by kernel_rfl) (by decide) (by kernel_rfl) (by kernel_rfl) (fun _ _ _ h => h) hS (by kernel_rfl) (v := ?_) ?_ ?_
                rotate_left
                · intro w' hSw; (try dsimp only at hSw); go_simp; (try with_reducible rfl)
                simp only [Act.put, List.setIfInBounds_toArray, List.set_cons_zero, List.set_cons_succ]
                refine wpAnyT_take 23 rfl (by kernel_rfl) (by kernel_rfl) (by decide) (by kernel_rfl) (by kernel_rfl) (fun _ _ _ h => h) hS (by kernel_rfl) (v := ?_) ?_ ?_
                rotate_left
                · intro w' hSw; (try dsimp only at hSw); go_simp; (try with_reducible rfl)
                simp only [Act.put, List.setIfInBounds_toArray, List.set_cons_zero, List.set_cons_succ]
                refine wpAnyT_take 26 rfl (by kernel_rfl) (by kernel_rfl) (by decide) (by kernel_rfl) (by kernel_rfl) (fun _ _ _ h => h) hS (by kernel_rfl) (v := ?_) ?_ ?_
                rotate_left
                · intro w' hSw; (try dsimp only at hSw); go_simp; (try with_reducible rfl)
                simp only [Act.put, List.setIfInBounds_toArray, List.set_cons_zero, List.set_cons_succ]
                refine wpAnyT_take 27 rfl (by kernel_rfl) (by kernel_rfl) (by decide) (by kernel_rfl) (by kernel_rfl) (fun _ _ _ h => h) hS (by kernel_rfl) (v := ?_) ?_ ?_
                rotate_left
                · intro w' hSw; (try dsimp only at hSw); go_simp; (try with_reducible rfl)
                simp only [Act.put, List.setIfInBounds_toArray, List.set_cons_zero, List.set_cons_succ]
                refine wpAnyT_one 24 (by kernel_rfl) rfl (by kernel_rfl) (fun K hK => ?_)
                go_simp
                with_reducible refine (CS.out _ HV4.out).mono ?_
                rintro e V5 ⟨rfl, hb5⟩
                have HV5 := Lib.hid (HV4.out.trans (hb5.mono HV4.out.size))
                have HBX5 := Lib.hid (HBX4.out.below hb5)
                have HBE5 := Lib.hid (HBE4.out.below hb5)
                have hS : _ ∧ _ ∧ _ ∧ _ ∧ _ := ⟨HBX5.out.cell 0, HBX5.out.cell 1, HBX5.out.cell 2, HBX5.out.cell 3, HBX5.out.cell 4⟩
                clear hb5 HV4 HBX4 HBE4
                refine hK _ _ (fun _ => hS) ?_
                clear hK K
                have htq := HTX.out
                refine wpAnyT_pure 25 rfl (by kernel_rfl) (by decide) (by kernel_rfl) (by kernel_rfl) (fun _ _ _ h => h) hS (by kernel_rfl) (v := ?_) ?_ ?_
                rotate_left
                · intro w'; go_simp; (try with_reducible rfl)
                simp only [Act.put, List.setIfInBounds_toArray, List.set_cons_zero, List.set_cons_succ]
                refine wpAnyT_pure 28 rfl (by kernel_rfl) (by decide) (by kernel_rfl) (by kernel_rfl) (fun _ _ _ h => h) hS (by kernel_rfl) (v := ?_) ?_ ?_
                rotate_left
                · intro w'; go_simp; (try with_reducible rfl)
                simp only [Act.put, List.setIfInBounds_toArray, List.set_cons_zero, List.set_cons_succ]
                refine wpAnyT_pure 29 rfl (by kernel_rfl) (by decide) (by kernel_rfl) (by kernel_rfl) (fun _ _ _ h => h) hS (by kernel_rfl) (v := ?_) ?_ ?_
                rotate_left
                · intro w'; go_simp; (try with_reducible rfl)
                simp only [Act.put, List.setIfInBounds_toArray, List.set_cons_zero, List.set_cons_succ]
                refine wpAnyT_done (by kernel_rfl) ?_
                clear hS CR CS
                go_wp2
                go_roundw
                case rel => exact ⟨i + 1, by omega, by go_num, HV5.out, HBE5.out⟩
                case measure => simp [intOf]; omega
              | false =>
                have CP := Lib.hid (fun V (hb : Below W.heap.size W V) => put_no _ _ _ V (HRV.out.past hb) HRI.out)
                have CR := Lib.hid (fun V (hb : Below W.heap.size W V) => right_tof _ _ _ V false HRI.out (HRV.out.past hb))
                have CS := Lib.hid (fun V (hb : Below W.heap.size W V) => Show_lit _ _ _ V ⟨#[63]⟩ (by unfold shownPost; rw [HRI.out]; rfl) (HRV.out.past hb) (HTB.out.past (HBW.out.trans (hb.mono HBW.out.size))))
                have hbox := Lib.hid (bbox HBV.out (.cells #[.int .u8 kk, .int .i64 nn, .string ss, .slice bb1 ll.length cc1, .bool false] 43))
                go_wp2_with fail
                with_reducible refine (CP.out _ (bbox HBV.out _)).mono ?_
                rintro e V2 ⟨rfl, hb4⟩
                have HV2 := Lib.hid (hbox.out.trans (hb4.mono hbox.out.size))
                have hBX := Blk.new wr #[.int .u8 kk, .int .i64 nn, .string ss, .slice bb1 ll.length cc1, .bool false] 43
                have HBX := Lib.hid (hBX.below hb4)
                have HBE2 := Lib.hid ((HBE.out.below ((Below.refl _ _).alloc (Nat.le_refl _) (.cells #[.int .u8 kk, .int .i64 nn, .string ss, .slice bb1 ll.length cc1, .bool false] 43))).below hb4)
                clear hb4 hBX y0 y1 y2 y3 y4 ylt CP hbox
                have z0 := HBX.out.cell 0
                have z1 := HBX.out.cell 1
                have z2 := HBX.out.cell 2
                have z3 := HBX.out.cell 3
                have z4 := HBX.out.cell 4
                have zlt := HBX.out.lt
                go_upto_region 17 with (fail)
                refine wp_region_T_drew (fun w' => w'.cell? ⟨wr.heap.size, 0, none⟩ = some (.int .u8 kk) ∧ w'.cell? ⟨wr.heap.size, 1, none⟩ = some (.int .i64 nn) ∧ w'.cell? ⟨wr.heap.size, 2, none⟩ = some (.string ss) ∧ w'.cell? ⟨wr.heap.size, 3, none⟩ = some (.slice bb1 ll.length cc1) ∧ w'.cell? ⟨wr.heap.size, 4, none⟩ = some (.bool false)) 30 (by kernel_rfl) ⟨z0, z1, z2, z3, z4⟩ (fun hS => ?_)
                have hdr : Below V2.heap.size V2 V2.drew := (Below.refl _ _).drew
                have HV3 := Lib.hid (HV2.out.trans (hdr.mono HV2.out.size))
                have HBX3 := Lib.hid (HBX.out.below hdr)
                have HBE3 := Lib.hid (HBE2.out.below hdr)
                clear hdr HV2 HBX HBE2 z0 z1 z2 z3 z4 zlt
                refine wpAnyT_take 0 rfl (by kernel_rfl) (by kernel_rfl) (by decide) (by kernel_rfl) (by kernel_rfl) (fun _ _ _ h => h) hS (by kernel_rfl) (v := ?_) ?_ ?_
                rotate_left
                · intro w' hSw; (try dsimp only at hSw); go_simp; (try with_reducible rfl)
                simp only [Act.put, List.setIfInBounds_toArray, List.set_cons_zero, List.set_cons_succ]
                refine wpAnyT_take 1 rfl (by kernel_rfl) (by kernel_rfl) (by decide) (by kernel_rfl) (by kernel_rfl) (fun _ _ _ h => h) hS (by kernel_rfl) (v := ?_) ?_ ?_
                rotate_left
                · intro w' hSw; (try dsimp only at hSw); go_simp; (try with_reducible rfl)
                simp only [Act.put, List.setIfInBounds_toArray, List.set_cons_zero, List.set_cons_succ]
                refine wpAnyT_take 3 rfl (by kernel_rfl) (by kernel_rfl) (by decide) (by kernel_rfl) (by kernel_rfl) (fun _ _ _ h => h) hS (by kernel_rfl) (v := ?_) ?_ ?_
                rotate_left
                · intro w' hSw; (try dsimp only at hSw); go_simp; (try with_reducible rfl)
                simp only [Act.put, List.setIfInBounds_toArray, List.set_cons_zero, List.set_cons_succ]
                refine wpAnyT_take 4 rfl (by kernel_rfl) (by kernel_rfl) (by decide) (by kernel_rfl) (by kernel_rfl) (fun _ _ _ h => h) hS (by kernel_rfl) (v := ?_) ?_ ?_
                rotate_left
                · intro w' hSw; (try dsimp only at hSw); go_simp; (try with_reducible rfl)
                simp only [Act.put, List.setIfInBounds_toArray, List.set_cons_zero, List.set_cons_succ]
                refine wpAnyT_one 2 (by kernel_rfl) rfl (by kernel_rfl) (fun K hK => ?_)
                go_simp
                with_reducible refine (CR.out _ HV3.out).mono ?_
                rintro e V4 ⟨rfl, hb5⟩
                have HV4 := Lib.hid (HV3.out.trans (hb5.mono HV3.out.size))
                have HBX4 := Lib.hid (HBX3.out.below hb5)
                have HBE4 := Lib.hid (HBE3.out.below hb5)
                have hS : _ ∧ _ ∧ _ ∧ _ ∧ _ := ⟨HBX4.out.cell 0, HBX4.out.cell 1, HBX4.out.cell 2, HBX4.out.cell 3, HBX4.out.cell 4⟩
                clear hb5 HV3 HBX3 HBE3
                refine hK _ _ (fun _ => hS) ?_
                clear hK K
                refine wpAnyT_pure 5 rfl (by kernel_rfl) (by decide) (by kernel_rfl) (by kernel_rfl) (fun _ _ _ h => h) hS (by kernel_rfl) (v := ?_) ?_ ?_
                rotate_left
                · intro w'; go_simp; (try with_reducible rfl)
                simp only [Act.put, List.setIfInBounds_toArray, List.set_cons_zero, List.set_cons_succ]
                refine wpAnyT_pure 6 rfl (by kernel_rfl) (by decide) (by kernel_rfl) (by kernel_rfl) (fun _ _ _ h => h) hS (by kernel_rfl) (v := ?_) ?_ ?_
                rotate_left
                · intro w'; go_simp; (try with_reducible rfl)
                simp only [Act.put, List.setIfInBounds_toArray, List.set_cons_zero, List.set_cons_succ]
                refine wpAnyT_pure 7 rfl (by kernel_rfl) (by decide) (by kernel_rfl) (by kernel_rfl) (fun _ _ _ h => h) hS (by kernel_rfl) (v := ?_) ?_ ?_
                rotate_left
                · intro w'; go_simp; (try with_reducible rfl)
                simp only [Act.put, List.setIfInBounds_toArray, List.set_cons_zero, List.set_cons_succ]
                refine wpAnyT_pure 8 rfl (by kernel_rfl) (by decide) (by kernel_rfl) (by kernel_rfl) (fun _ _ _ h => h) hS (by kernel_rfl) (v := ?_) ?_ ?_
                rotate_left
                · intro w'; go_simp; (try with_reducible rfl)
                simp only [Act.put, List.setIfInBounds_toArray, List.set_cons_zero, List.set_cons_succ]
                refine wpAnyT_take 9 rfl (by kernel_rfl) (by kernel_rfl) (by decide) (by kernel_rfl) (by kernel_rfl) (fun _ _ _ h => h) hS (by kernel_rfl) (v := ?_) ?_ ?_
                rotate_left
                · intro w' hSw; (try dsimp only at hSw); go_simp; (try with_reducible rfl)
                simp only [Act.put, List.setIfInBounds_toArray, List.set_cons_zero, List.set_cons_succ]
                refine wpAnyT_take 10 rfl (by kernel_rfl) (by kernel_rfl) (by decide) (by kernel_rfl) (by kernel_rfl) (fun _ _ _ h => h) hS (by kernel_rfl) (v := ?_) ?_ ?_
                rotate_left
                · intro w' hSw; (try dsimp only at hSw); go_simp; (try with_reducible rfl)
                simp only [Act.put, List.setIfInBounds_toArray, List.set_cons_zero, List.set_cons_succ]
                refine wpAnyT_pure 11 rfl (by kernel_rfl) (by decide) (by kernel_rfl) (by kernel_rfl) (fun _ _ _ h => h) hS (by kernel_rfl) (v := ?_) ?_ ?_
                rotate_left
                · intro w'; go_simp; (try with_reducible rfl)
                simp only [Act.put, List.setIfInBounds_toArray, List.set_cons_zero, List.set_cons_succ]
                refine wpAnyT_pure 12 rfl (by kernel_rfl) (by decide) (by kernel_rfl) (by kernel_rfl) (fun _ _ _ h => h) hS (by kernel_rfl) (v := ?_) ?_ ?_
                rotate_left
                · intro w'; go_simp; (try with_reducible rfl)
                simp only [Act.put, List.setIfInBounds_toArray, List.set_cons_zero, List.set_cons_succ]
                refine wpAnyT_pure 13 rfl (by kernel_rfl) (by decide) (by kernel_rfl) (by kernel_rfl) (fun _ _ _ h => h) hS (by kernel_rfl) (v := ?_) ?_ ?_
                rotate_left
                · intro w'; go_simp; (try with_reducible rfl)
                simp only [Act.put, List.setIfInBounds_toArray, List.set_cons_zero, List.set_cons_succ]
                refine wpAnyT_pure 14 rfl (by kernel_rfl) (by decide) (by kernel_rfl) (by kernel_rfl) (fun _ _ _ h => h) hS (by kernel_rfl) (v := ?_) ?_ ?_
                rotate_left
                · intro w'; go_simp; (try with_reducible rfl)
                simp only [Act.put, List.setIfInBounds_toArray, List.set_cons_zero, List.set_cons_succ]
                refine wpAnyT_pure 15 rfl (by kernel_rfl) (by decide) (by kernel_rfl) (by kernel_rfl) (fun _ _ _ h => h) hS (by kernel_rfl) (v := ?_) ?_ ?_
                rotate_left
                · intro w'; go_simp; (try with_reducible rfl)
                simp only [Act.put, List.setIfInBounds_toArray, List.set_cons_zero, List.set_cons_succ]
                refine wpAnyT_pure 16 rfl (by kernel_rfl) (by decide) (by kernel_rfl) (by kernel_rfl) (fun _ _ _ h => h) hS (by kernel_rfl) (v := ?_) ?_ ?_
                rotate_left
                · intro w'; go_simp; (try with_reducible rfl)
                simp only [Act.put, List.setIfInBounds_toArray, List.set_cons_zero, List.set_cons_succ]
                refine wpAnyT_take 17 rfl (by kernel_rfl) (by kernel_rfl) (by decide) (by kernel_rfl) (by kernel_rfl) (fun _ _ _ h => h) hS (by kernel_rfl) (v := ?_) ?_ ?_
                rotate_left
                · intro w' hSw; (try dsimp only at hSw); go_simp; (try with_reducible rfl)
                simp only [Act.put, List.setIfInBounds_toArray, List.set_cons_zero, List.set_cons_succ]
                refine wpAnyT_take 18 rfl (by kernel_rfl) (by kernel_rfl) (by decide) (by kernel_rfl) (by kernel_rfl) (fun _ _ _ h => h) hS (by kernel_rfl) (v := ?_) ?_ ?_
                rotate_left
                · intro w' hSw; (try dsimp only at hSw); go_simp; (try with_reducible rfl)
                simp only [Act.put, List.setIfInBounds_toArray, List.set_cons_zero, List.set_cons_succ]
                refine wpAnyT_pure 19 rfl (by kernel_rfl) (by decide) (by kernel_rfl) (by kernel_rfl) (fun _ _ _ h => h) hS (by kernel_rfl) (v := ?_) ?_ ?_
                rotate_left
                · intro w'; go_simp; (try with_reducible rfl)
                simp only [Act.put, List.setIfInBounds_toArray, List.set_cons_zero, List.set_cons_succ]
                refine wpAnyT_pure 20 rfl (by kernel_rfl) (by decide) (by kernel_rfl) (by kernel_rfl) (fun _ _ _ h => h) hS (by kernel_rfl) (v := ?_) ?_ ?_
                rotate_left
                · intro w'; go_simp; (try with_reducible rfl)
                simp only [Act.put, List.setIfInBounds_toArray, List.set_cons_zero, List.set_cons_succ]
                refine wpAnyT_pure 21 rfl (by kernel_rfl) (by decide) (by kernel_rfl) (by kernel_rfl) (fun _ _ _ h => h) hS (by kernel_rfl) (v := ?_) ?_ ?_
                rotate_left
                · intro w'; go_simp; (try with_reducible rfl)
                simp only [Act.put, List.setIfInBounds_toArray, List.set_cons_zero, List.set_cons_succ]
                refine wpAnyT_take 22 rfl (by kernel_rfl) (by kernel_rfl) (by decide) (by kernel_rfl) (by kernel_rfl) (fun _ _ _ h => h) hS (by kernel_rfl) (v := ?_) ?_ ?_
                rotate_left
                · intro w' hSw; (try dsimp only at hSw); go_simp; (try with_reducible rfl)
                simp only [Act.put, List.setIfInBounds_toArray, List.set_cons_zero, List.set_cons_succ]
                refine wpAnyT_take 23 rfl (by kernel_rfl) (by kernel_rfl) (by decide) (by kernel_rfl) (by kernel_rfl) (fun _ _ _ h => h) hS (by kernel_rfl) (v := ?_) ?_ ?_
                rotate_left
                · intro w' hSw; (try dsimp only at hSw); go_simp; (try with_reducible rfl)
                simp only [Act.put, List.setIfInBounds_toArray, List.set_cons_zero, List.set_cons_succ]
                refine wpAnyT_take 26 rfl (by kernel_rfl) (by kernel_rfl) (by decide) (by kernel_rfl) (by kernel_rfl) (fun _ _ _ h => h) hS (by kernel_rfl) (v := ?_) ?_ ?_
                rotate_left
                · intro w' hSw; (try dsimp only at hSw); go_simp; (try with_reducible rfl)
                simp only [Act.put, List.setIfInBounds_toArray, List.set_cons_zero, List.set_cons_succ]
                refine wpAnyT_take 27 rfl (by kernel_rfl) (by kernel_rfl) (by decide) (by kernel_rfl) (by kernel_rfl) (fun _ _ _ h => h) hS (by kernel_rfl) (v := ?_) ?_ ?_
                rotate_left
                · intro w' hSw; (try dsimp only at hSw); go_simp; (try with_reducible rfl)
                simp only [Act.put, List.setIfInBounds_toArray, List.set_cons_zero, List.set_cons_succ]
                refine wpAnyT_one 24 (by kernel_rfl) rfl (by kernel_rfl) (fun K hK => ?_)
                go_simp
                with_reducible refine (CS.out _ HV4.out).mono ?_
                rintro e V5 ⟨rfl, hb5⟩
                have HV5 := Lib.hid (HV4.out.trans (hb5.mono HV4.out.size))
                have HBX5 := Lib.hid (HBX4.out.below hb5)
                have HBE5 := Lib.hid (HBE4.out.below hb5)
                have hS : _ ∧ _ ∧ _ ∧ _ ∧ _ := ⟨HBX5.out.cell 0, HBX5.out.cell 1, HBX5.out.cell 2, HBX5.out.cell 3, HBX5.out.cell 4⟩
                clear hb5 HV4 HBX4 HBE4
                refine hK _ _ (fun _ => hS) ?_
                clear hK K
                have htq := HTX.out
                refine wpAnyT_pure 25 rfl (by kernel_rfl) (by decide) (by kernel_rfl) (by kernel_rfl) (fun _ _ _ h => h) hS (by kernel_rfl) (v := ?_) ?_ ?_
                rotate_left
                · intro w'; go_simp; (try with_reducible rfl)
                simp only [Act.put, List.setIfInBounds_toArray, List.set_cons_zero, List.set_cons_succ]
                refine wpAnyT_pure 28 rfl (by kernel_rfl) (by decide) (by kernel_rfl) (by kernel_rfl) (fun _ _ _ h => h) hS (by kernel_rfl) (v := ?_) ?_ ?_
                rotate_left
                · intro w'; go_simp; (try with_reducible rfl)
                simp only [Act.put, List.setIfInBounds_toArray, List.set_cons_zero, List.set_cons_succ]
                refine wpAnyT_pure 29 rfl (by kernel_rfl) (by decide) (by kernel_rfl) (by kernel_rfl) (fun _ _ _ h => h) hS (by kernel_rfl) (v := ?_) ?_ ?_
                rotate_left
                · intro w'; go_simp; (try with_reducible rfl)
                simp only [Act.put, List.setIfInBounds_toArray, List.set_cons_zero, List.set_cons_succ]
                refine wpAnyT_done (by kernel_rfl) ?_
                clear hS CR CS
                go_wp2
                go_roundw
                case rel => exact ⟨i + 1, by omega, by go_num, HV5.out, HBE5.out⟩
                case measure => simp [intOf]; omega
            · obtain rfl : i = 3 := by omega
              clear hbV hBE
              go_wp2_with fail
              with_reducible refine (CW.out _ (HBW.out.trans (HBV.out.mono HBW.out.size))).mono ?_
              rintro e V9 ⟨rfl, hb⟩
              have HB9 := Lib.hid (bto (HBW.out.trans (HBV.out.mono HBW.out.size)) hb)
              clear hb
              go_wp2
              go_ret
              exact ⟨rfl, HB9.out⟩
end Go.Proofs.YtgamhgeiceakeaaDoor
