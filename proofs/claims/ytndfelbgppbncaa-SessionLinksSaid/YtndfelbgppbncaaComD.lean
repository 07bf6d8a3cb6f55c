/- Texts of this claim, part 4: SDelb, SRecv, SSs, SFil, SFilb, SCopy, SLink, SIn, SRowb, SAwake. -/
import Derived.Test.YtndfelbgppbncaaComC
import Derived.Deep.Onto
import Derived.Test.YtndfelbgppbncaaRows
import Derived.ProofKit
import Derived.Carry
import Derived.ChangeSlices
import Derived.OpenShut
import Derived.Deep.Matrix
import Derived.WideKeyArgs
import Derived.ChangeSame
import Derived.Test.YtndfelbgppbncaaProg
/- slices.DeleteFunc over a session's own items: those from the first on that go. -/
set_option linter.unusedVariables false
set_option linter.unusedSimpArgs false
namespace Go.Proofs.Ytndfelbgppbncaa
open Go.RowKit
/-- the row while it is being written: the first i elements are L's from r on, those from i on are as they were -/
def Mid (cur : Array Value) (L : List It) (r i : Nat) : Prop :=
  (∀ t (h : r + t < L.length), t < i → cur[t * 2]? = some (.int .i64 L[r + t].seq) ∧ cur[t * 2 + 1]? = some (.slice L[r + t].ba L[r + t].data.length L[r + t].cap)) ∧
  (∀ t (h : t < L.length), i ≤ t → cur[t * 2]? = some (.int .i64 L[t].seq) ∧ cur[t * 2 + 1]? = some (.slice L[t].ba L[t].data.length L[t].cap))
theorem Mid.start {cur : Array Value} {L : List It} {r : Nat} (h : ∀ t (h : t < L.length), cur[t * 2]? = some (.int .i64 L[t].seq) ∧ cur[t * 2 + 1]? = some (.slice L[t].ba L[t].data.length L[t].cap)) : Mid cur L r 0 :=
  ⟨fun t _ ht => by omega, fun t ht _ => h t ht⟩
theorem Mid.set {cur : Array Value} {L : List It} {r i : Nat} (h : Mid cur L r i) (hi : r + i < L.length) (hs : i * 2 + 1 < cur.size) :
    Mid ((cur.setIfInBounds (i * 2) (.int .i64 L[r + i].seq)).setIfInBounds (i * 2 + 1) (.slice L[r + i].ba L[r + i].data.length L[r + i].cap)) L r (i + 1) := by
  refine ⟨fun t ht hlt => ?_, fun t ht hge => ?_⟩
  · by_cases hti : t = i
    · subst hti
      constructor
      · rw [Array.getElem?_setIfInBounds_ne (by omega), Array.getElem?_setIfInBounds_self_of_lt (by omega)]
      · rw [Array.getElem?_setIfInBounds_self_of_lt (by simp; omega)]
    · have := h.1 t ht (by omega)
      constructor
      · rw [Array.getElem?_setIfInBounds_ne (by omega), Array.getElem?_setIfInBounds_ne (by omega)]; exact this.1
      · rw [Array.getElem?_setIfInBounds_ne (by omega), Array.getElem?_setIfInBounds_ne (by omega)]; exact this.2
  · have := h.2 t ht (by omega)
    constructor
    · rw [Array.getElem?_setIfInBounds_ne (by omega), Array.getElem?_setIfInBounds_ne (by omega)]; exact this.1
    · rw [Array.getElem?_setIfInBounds_ne (by omega), Array.getElem?_setIfInBounds_ne (by omega)]; exact this.2
theorem Mid.put {cur : Array Value} {L : List It} {r i j : Nat} (h : Mid cur L r i) (hj : j < L.length) (hij : j = r + i) (hs : i * 2 + 1 < cur.size) :
    Mid ((cur.setIfInBounds (i * 2) (.int .i64 L[j].seq)).setIfInBounds (i * 2 + 1) (.slice L[j].ba L[j].data.length L[j].cap)) L r (i + 1) := by
  subst hij; exact h.set hj hs
/-- many cells of a block -/
theorem Blk.sets {p : Nat} {T : TypeId} : ∀ (vs : List Value) (o : Nat) (w : World) (cs : Array Value), Blk w p cs T → ∃ cs', Blk (w.setCells p o vs) p cs' T ∧ cs'.size = cs.size ∧ (∀ t, t < o → cs'[t]? = cs[t]?) ∧ w.grownBy (w.setCells p o vs) (some p)
  | [], o, w, cs, h => ⟨cs, h, rfl, fun _ _ => rfl, grown_refl _ _⟩
  | v :: vs, o, w, cs, h => by
    obtain ⟨cs', h1, h2, h3, h4⟩ := Blk.sets vs (o + 1) (w.setCell ⟨p, o, none⟩ v) _ (h.set o v)
    refine ⟨cs', h1, by rw [h2]; simp, fun t ht => ?_, grown_trans (grown_set (grown_refl _ _) o v) h4⟩
    rw [h3 t (by omega), Array.getElem?_setIfInBounds_ne (by omega)]
theorem zero_item (n : Nat) : ((Builtin.zeroCells (Value.agg #[.int .i64 0, .slice none 0 0]).cells n).toList).length = n * 2 ∧ ∀ u ∈ (Builtin.zeroCells (Value.agg #[.int .i64 0, .slice none 0 0]).cells n).toList, u.oneCell' = true := by
  constructor
  · simp [Builtin.zeroCells, Value.cells]
  · intro u hu
    simp only [Builtin.zeroCells, Value.cells] at hu
    simp at hu
    obtain ⟨a, _, rfl⟩ := hu
    have : a % 2 = 0 ∨ a % 2 = 1 := by omega
    rcases this with h | h <;> simp [h] <;> rfl
/-- clear of the rest of a row of items -/
theorem run_clear_items (w : World) (g off n c : Nat) (cs : Array Value) (h : Blk w g cs 27) (hs : off + n * 2 ≤ cs.size) (ty : TypeId) :
    ∃ w' cs', (Builtin.clear_ #[22] ty #[.slice (some ⟨g, off, none⟩) n c]).run Try.prog w = .ok (.tuple #[]) w' ∧ Blk w' g cs' 27 ∧ cs'.size = cs.size ∧ (∀ t, t < off → cs'[t]? = cs[t]?) ∧ w.grownBy w' (some g) := by
  obtain ⟨i0, hi0, hz0, hz1, hz2⟩ := info_parts Try.info_item
  cases n with
  | zero => exact ⟨w, cs, by simp [Builtin.clear_, run_underlying Try.underlying22], h, rfl, fun _ _ => rfl, grown_refl _ _⟩
  | succ m =>
    obtain ⟨z1, z2⟩ := zero_item (m + 1)
    have hst := run_storeCells_cells (P := Try.prog) g off (Builtin.zeroCells (Value.agg #[.int .i64 0, .slice none 0 0]).cells (m + 1)).toList 0 w (by
      intro j hj
      rw [z1] at hj
      rw [Nat.add_zero, h.cell, Array.getElem?_eq_getElem (by omega)]; rfl) (by intro j hj; exact h.free _) z2
    simp only [Nat.add_zero] at hst
    obtain ⟨cs', h1, h2, h3, h4⟩ := Blk.sets (Builtin.zeroCells (Value.agg #[.int .i64 0, .slice none 0 0]).cells (m + 1)).toList off w cs h
    refine ⟨_, cs', ?_, h1, h2, h3, h4⟩
    have hv : (zeroValue 27).run Try.prog w = .ok (.agg #[.int .i64 0, .slice none 0 0]) w := by kernel_rfl
    simp [Builtin.clear_, run_underlying Try.underlying22, hv, hst]
theorem icells_of {cs : Array Value} : ∀ (M : List It), M.length * 2 ≤ cs.size → (∀ t (h : t < M.length), cs[t * 2]? = some (.int .i64 M[t].seq) ∧ cs[t * 2 + 1]? = some (.slice M[t].ba M[t].data.length M[t].cap)) → cs.toList.take (M.length * 2) = icells M := by
  intro M hs h
  apply List.ext_getElem?
  intro i
  by_cases hi : i < M.length * 2
  · rw [List.getElem?_take, if_pos hi, Array.getElem?_toList]
    have ht : i / 2 < M.length := by omega
    rcases Nat.mod_two_eq_zero_or_one i with h0 | h1
    · have e : i = i / 2 * 2 := by omega
      have e' : i = 2 * (i / 2) + 0 := by omega
      have a := (h (i / 2) ht).1
      rw [← e] at a
      have b := icells_at M (i / 2) 0 ht (by omega)
      rw [← e'] at b
      rw [a, b]
      rfl
    · have e : i = i / 2 * 2 + 1 := by omega
      have e' : i = 2 * (i / 2) + 1 := by omega
      have a := (h (i / 2) ht).2
      rw [← e] at a
      have b := icells_at M (i / 2) 1 ht (by omega)
      rw [← e'] at b
      rw [a, b]
      rfl
  · rw [List.getElem?_eq_none (by rw [List.length_take]; omega), List.getElem?_eq_none (by rw [icells_len]; omega)]
def DelPost (k cg B r : Nat) (L : List It) (w : World) (e : Ending) (w' : World) : Prop :=
  e = .returned (.slice (some ⟨k, 0, none⟩) (L.length - r) cg) ∧ Its w' B (.slice (some ⟨k, 0, none⟩) (L.length - r) cg) (L.drop r) ∧ w.grownBy w' (some k)
def DelRel (w : World) (k cg r : Nat) (L : List It) (iv jv : Value) (wr : World) : Prop :=
  ∃ (j i : Nat) (cur : Array Value), 1 ≤ j ∧ j ≤ L.length ∧ i = j - r ∧ jv = .int .i64 j ∧ iv = .int .i64 i ∧ Mid cur L r i ∧ Blk wr k cur 27 ∧ cur.size = cg * 2 ∧ w.grownBy wr (some k)
set_option maxHeartbeats 1600000 in
set_option maxRecDepth 100000 in
theorem deleteFunc_some (k cg q B r : Nat) (ack : Int) (L : List It) (w : World) (hi : Its w B (.slice (some ⟨k, 0, none⟩) L.length cg) L) (hq : w.cell? ⟨q, 3, none⟩ = some (.int .i64 ack)) (hlt : q < w.heap.size) (hqk : q ≠ k)
    (hr1 : 1 ≤ r) (hr2 : r ≤ L.length) (hr : ∀ j (h : j < L.length), (L[j].seq ≤ ack ↔ j < r)) (hlen : L.length ≤ 1024) :
    Calls Try.prog 53 #[.slice (some ⟨k, 0, none⟩) L.length cg, .func (.func 54) #[] #[.pointer (some ⟨q, 0, none⟩)]] w (DelPost k cg B r L w) := by
  obtain ⟨cur, hk0, hcm, hcs, hnc, hBk⟩ : ∃ cur, Blk w k cur 27 ∧ cg ≤ maxLen ∧ cur.size = cg * 2 ∧ L.length ≤ cg ∧ B ≤ k := by
    rcases hi.own.2 with ⟨e, _⟩ | ⟨g, cap, cur, e, h1, h2, h3, h4, h5, h6⟩
    · cases e
    · cases e; exact ⟨cur, h2, h4, h5, h3, h1⟩
  have hcell : ∀ t (h : t < L.length), cur[t * 2]? = some (.int .i64 L[t].seq) ∧ cur[t * 2 + 1]? = some (.slice L[t].ba L[t].data.length L[t].cap) := fun t ht => by
    have := it_cells hi t ht
    rw [hk0.cell, hk0.cell] at this; exact this
  have hsrc : Src w k L := ⟨hk0.lt, fun i hi' => (it_cells hi i hi').1, fun i hi' => (it_cells hi i hi').2, fun x hx => (hi.rd x hx).rd, hi.nil⟩
  have CI := Lib.hid (indexFunc_yes k cg q ack L w hsrc hq hlt (by omega) ((hr 0 (by omega)).2 (by omega)) hlen)
  have HI := Lib.hid hi
  have HC := Lib.hid hcell
  have HB0 := Lib.hid hk0
  have HCS := Lib.hid hcs
  have HQ := Lib.hid hq
  have HR := Lib.hid hr
  unfold maxLen at hcm
  clear hi hcell hk0 hcs hq hr hsrc
  go_enter Try.func53, Try.ntmps53
  go_wp2_with fail
  with_reducible refine (CI.out).mono ?_
  rintro e w1 ⟨rfl, hb1⟩
  have HB1 := Lib.hid (HB0.out.below hb1)
  have HG1 := Lib.hid (below_grown hb1 (grown_refl w1 (some k)))
  clear hb1
  go_wp2
  go_loopw [5, 6] (fun iv jv wr => DelRel w k cg r L iv jv wr) (fun _ j _ => L.length - (intOf j).toNat)
  case atStart => exact ⟨1, 0, cur, by omega, by omega, by omega, rfl, rfl, Mid.start HC.out, HB1.out, HCS.out, HG1.out⟩
  case round =>
    obtain ⟨j, i, cs, hj1, hj, hij, rfl, rfl, hmid, hblk, hsz, hg⟩ := hrel
    have HM := Lib.hid hmid
    have HBK := Lib.hid hblk
    have HSZ := Lib.hid hsz
    have HG := Lib.hid hg
    have HIJ := Lib.hid hij
    have hij2 : i ≤ j := by omega
    have hkl := hblk.lt
    have hqr : wr.cell? ⟨q, 3, none⟩ = some (.int .i64 ack) := by
      rw [World.cell?_of_block (w := w) (hg.block q hlt (fun e => hqk (Option.some.inj e)))]; exact HQ.out
    have HQR := Lib.hid hqr
    have hql : q < wr.heap.size := Nat.lt_of_lt_of_le hlt hg.size
    by_cases hx : j < L.length
    · have d0 := hblk.cell (j * 2)
      have d1 := hblk.cell (j * 2 + 1)
      obtain ⟨m0, m1⟩ := hmid.2 j hx hij2
      rw [m0] at d0
      rw [m1] at d1
      have hj0 : (0 : Int) ≤ (j : Int) := by omega
      have hjl : (j : Int) < (L.length : Int) := by omega
      clear hmid hblk hsz hg hij m0 m1 hqr
      by_cases hjr : j < r
      · have hsl := (HR.out j hx).2 hjr
        generalize L[j] = x at d0 d1 hsl
        have C := Lib.hid (del_yes q x.seq ack x.ba x.data.length x.cap (wr.alloc (.cells #[.int .i64 x.seq, .slice x.ba x.data.length x.cap] 27)) (by rw [World.cell?_alloc_lt _ _ _ hql]; exact HQR.out) (by simp; omega) hsl)
        clear hsl
        go_wp2_with fail
        with_reducible refine (C.out).mono ?_
        rintro e w2 ⟨rfl, hb2⟩
        have hb3 : Below wr.heap.size wr w2 := ((Below.refl wr.heap.size wr).alloc (Nat.le_refl _) _).trans (hb2.mono (by simp))
        have HB3 := Lib.hid (HBK.out.below hb3)
        have HG3 := Lib.hid (grown_below HG.out hb3)
        clear hb2 hb3
        go_wp2
        go_roundw
        case rel => exact ⟨j + 1, i, cs, by omega, by omega, by have := HIJ.out; omega, by go_num, rfl, HM.out, HB3.out, HSZ.out, HG3.out⟩
        case measure => simp [intOf]; omega
      · have hij3 : j = r + i := by have := HIJ.out; omega
        have hil : i < L.length := by omega
        have hci : i * 2 + 1 < cs.size := by have := HSZ.out; omega
        have hmp := HM.out.put hx hij3 hci
        have hsl : ack < L[j].seq := by
          have := (HR.out j hx)
          rcases Int.lt_or_le ack L[j].seq with h | h
          · exact h
          · exact absurd (this.1 h) hjr
        generalize L[j] = x at d0 d1 hsl hmp
        have HMP := Lib.hid hmp
        have C := Lib.hid (del_no q x.seq ack x.ba x.data.length x.cap (wr.alloc (.cells #[.int .i64 x.seq, .slice x.ba x.data.length x.cap] 27)) (by rw [World.cell?_alloc_lt _ _ _ hql]; exact HQR.out) (by simp; omega) hsl)
        clear hsl hmp hij3
        go_wp2_with fail
        with_reducible refine (C.out).mono ?_
        rintro e w2 ⟨rfl, hb2⟩
        have hb3 : Below wr.heap.size wr w2 := ((Below.refl wr.heap.size wr).alloc (Nat.le_refl _) _).trans (hb2.mono (by simp))
        have hbx : Blk w2 wr.heap.size #[.int .i64 x.seq, .slice x.ba x.data.length x.cap] 27 := (Blk.new _ _ _).below hb2
        have x0 := hbx.cell 0
        have x1 := hbx.cell 1
        have xl := hbx.lt
        have hb4 := HBK.out.below hb3
        have y0 := hb4.cell (i * 2)
        have y1 := hb4.cell (i * 2 + 1)
        obtain ⟨m0, m1⟩ := HM.out.2 i hil (Nat.le_refl _)
        rw [m0] at y0
        rw [m1] at y1
        have yf := fun o => hb4.free o
        have yl := hb4.lt
        have hi0' : (0 : Int) ≤ (i : Int) := by omega
        have hil' : (i : Int) < (L.length : Int) := by omega
        have HB4 := Lib.hid hb4
        have HG3 := Lib.hid (grown_below HG.out hb3)
        clear hb2 hb3 hbx hb4 m0 m1
        go_wp2
        have HB5 := Lib.hid ((HB4.out.set (i * 2) (.int .i64 x.seq)).set (i * 2 + 1) (.slice x.ba x.data.length x.cap))
        have HG5 := Lib.hid (grown_set (grown_set HG3.out (i * 2) (.int .i64 x.seq)) (i * 2 + 1) (.slice x.ba x.data.length x.cap))
        go_roundw
        case rel => exact ⟨j + 1, i + 1, _, by omega, by omega, by have := HIJ.out; omega, by go_num, by go_num, HMP.out, HB5.out, by simp; exact HSZ.out, HG5.out⟩
        case measure => simp [intOf]; omega
    · obtain rfl : j = L.length := by omega
      have hir : i = L.length - r := hij
      have hil : i < cg := by omega
      have hicg : ¬ cg = i := by omega
      have hi0' : (0 : Int) ≤ (i : Int) := by omega
      have hil' : (i : Int) ≤ (L.length : Int) := by omega
      have hil2 : (i : Int) ≤ (cg : Int) := by omega
      obtain ⟨w3, cs3, hcl, hb3, hs3, hp3, hg3⟩ := run_clear_items wr k (i * 2) (L.length - i) (cg - i) cs hblk (by have := HSZ.out; omega) 0
      have HB3 := Lib.hid hb3
      have HS3 := Lib.hid hs3
      have HP3 := Lib.hid hp3
      have HG3 := Lib.hid (grown_trans hg hg3)
      have HIR := Lib.hid hir
      clear hmid hblk hsz hg hij hqr hb3 hs3 hp3 hg3 hir
      go_wp2
      go_ret
      have hir := HIR.out
      have hdl : (L.drop r).length = i := by rw [List.length_drop]; omega
      have hk3 := Kb.grown HB0.out (by decide) (by decide) HG3.out
      have hall : ∀ t (h : t < (L.drop r).length), cs3[t * 2]? = some (.int .i64 (L.drop r)[t].seq) ∧ cs3[t * 2 + 1]? = some (.slice (L.drop r)[t].ba (L.drop r)[t].data.length (L.drop r)[t].cap) := by
        intro t ht
        rw [HP3.out (t * 2) (by omega), HP3.out (t * 2 + 1) (by omega), List.getElem_drop]
        exact HM.out.1 t (by omega) (by omega)
      have hsz := HSZ.out
      have hs3 := HS3.out
      have htk := icells_of (L.drop r) (by omega) hall
      rw [hdl] at htk
      unfold DelPost
      rw [← hir]
      refine ⟨rfl, ⟨?_, fun x hx => (HI.out.rd x (List.mem_of_mem_drop hx)).kept hk3, fun x hx => HI.out.nil x (List.mem_of_mem_drop hx), fun x hx => HI.out.cap x (List.mem_of_mem_drop hx)⟩, HG3.out⟩
      rw [hdl]
      exact ⟨by rw [icells_len, hdl], Or.inr ⟨k, cg, cs3, rfl, hBk, HB3.out, by omega, by unfold maxLen; exact hcm, by omega, htk⟩⟩
set_option maxHeartbeats 1600000 in
set_option maxRecDepth 100000 in
theorem deleteFunc_none (k cg q : Nat) (ack : Int) (L : List It) (w : World) (h : Src w k L) (hq : w.cell? ⟨q, 3, none⟩ = some (.int .i64 ack)) (hlt : q < w.heap.size) (hall : ∀ x ∈ L, ack < x.seq) (hlen : L.length ≤ 1024) :
    Calls Try.prog 53 #[.slice (some ⟨k, 0, none⟩) L.length cg, .func (.func 54) #[] #[.pointer (some ⟨q, 0, none⟩)]] w fun e w' => e = .returned (.slice (some ⟨k, 0, none⟩) L.length cg) ∧ Below w.heap.size w w' := by
  have C := Lib.hid (indexFunc_no k cg q ack L w h hq hlt hall hlen)
  clear h hq hall
  go_enter Try.func53, Try.ntmps53
  go_wp2_with fail
  with_reducible refine (C.out).mono ?_
  rintro e w1 ⟨rfl, hb1⟩
  have HB := Lib.hid hb1
  clear hb1
  go_wp2
  go_ret
  exact ⟨rfl, HB.out⟩
set_option maxHeartbeats 800000 in
set_option maxRecDepth 100000 in
theorem indexFunc_empty (g : Option Addr) (f : Value) (cap : Nat) (w : World) : Calls Try.prog 73 #[.slice g 0 cap, f] w fun e w' => e = .returned (.int .i64 (-1)) ∧ w = w' := by
  go_enter Try.func73, Try.ntmps73
  go_wp2
  go_loop [8] (fun i => i = .int .i64 0) (fun i => 4 - (intOf i).toNat)
  case atStart => rfl
  case round =>
    subst hrel
    go_wp2
    go_ret
    exact ⟨rfl, rfl⟩
set_option maxHeartbeats 800000 in
set_option maxRecDepth 100000 in
theorem deleteFunc_empty (g : Option Addr) (f : Value) (cap : Nat) (w : World) : Calls Try.prog 53 #[.slice g 0 cap, f] w fun e w' => e = .returned (.slice g 0 cap) ∧ w = w' := by
  have C := Lib.hid (fun f cap w => indexFunc_empty g f cap w)
  go_enter Try.func53, Try.ntmps53
  go_wp2_with fail
  with_reducible refine (C.out _ _ _).mono ?_
  rintro e w1 ⟨rfl, rfl⟩
  go_wp2
  go_ret
  exact ⟨rfl, rfl⟩
end Go.Proofs.Ytndfelbgppbncaa
/- Receive, whatever waits, by contract. -/
set_option linter.unusedVariables false
set_option linter.unusedSimpArgs false
namespace Go.Proofs.Ytndfelbgppbncaa
open Go.RowKit
/-- the items' numbers are the last ones -/
def SeqOk (last : Int) (L : List It) : Prop := (L.length : Int) ≤ last ∧ ∀ j (h : j < L.length), L[j].seq = last - L.length + 1 + j
/-- how many an acknowledgement takes -/
def gone (last ack : Int) (n : Nat) : Nat := (ack - (last - n)).toNat
theorem SeqOk.drop {last : Int} {L : List It} (h : SeqOk last L) (r : Nat) (hr : r ≤ L.length) : SeqOk last (L.drop r) := by
  have h1 := h.1
  refine ⟨by rw [List.length_drop]; omega, fun j hj => ?_⟩
  rw [List.length_drop] at hj ⊢
  rw [List.getElem_drop, h.2 (r + j) (by omega)]; omega
def DelAny (B r : Nat) (out : Value) (L : List It) (w : World) (e : Ending) (w' : World) : Prop :=
  ∃ g c, e = .returned (.slice g (L.length - r) c) ∧ Its w' B (.slice g (L.length - r) c) (L.drop r) ∧ (Value.slice g (L.length - r) c).ownBlock = out.ownBlock ∧ w.grownBy w' out.ownBlock
theorem below_any {w w' : World} {r : Option Nat} (h : Below w.heap.size w w') : w.grownBy w' r := grown_below (grown_refl w r) h
theorem deleteFunc_any (q B : Nat) (ack last : Int) (out : Value) (L : List It) (w : World) (hi : Its w B out L) (hq : w.cell? ⟨q, 3, none⟩ = some (.int .i64 ack)) (hlt : q < w.heap.size) (hqo : out.ownBlock ≠ some q)
    (hs : SeqOk last L) (hack : ack ≤ last) (hlen : L.length ≤ 1024) :
    Calls Try.prog 53 #[out, .func (.func 54) #[] #[.pointer (some ⟨q, 0, none⟩)]] w (DelAny B (gone last ack L.length) out L w) := by
  obtain ⟨g, cg, rfl, hg, hcg⟩ := hi.val
  by_cases hL : L = []
  · subst hL
    refine (deleteFunc_empty g _ cg w).mono fun e w' ⟨he, hw⟩ => ?_
    subst hw
    exact ⟨g, cg, by simpa using he, by simpa using hi, by cases g <;> rfl, grown_refl _ _⟩
  · obtain ⟨k, rfl, hk, hB⟩ := hg hL
    have hpos : 0 < L.length := List.length_pos_iff.2 hL
    by_cases hr : gone last ack L.length = 0
    · rw [hr]
      have hsrc : Src w k L := ⟨hk, fun i hi' => (it_cells hi i hi').1, fun i hi' => (it_cells hi i hi').2, fun x hx => (hi.rd x hx).rd, hi.nil⟩
      refine (deleteFunc_none k cg q ack L w hsrc hq hlt (fun x hx => ?_) hlen).mono fun e w' ⟨he, hb⟩ => ?_
      · obtain ⟨j, hj, rfl⟩ := List.mem_iff_getElem.1 hx
        rw [hs.2 j hj]; unfold gone at hr; omega
      · exact ⟨_, cg, he, hi.below hb, rfl, below_any hb⟩
    · refine (deleteFunc_some k cg q B (gone last ack L.length) ack L w hi hq hlt (fun e => hqo (by rw [e]; rfl)) (by omega) (by unfold gone; omega) (fun j hj => ?_) hlen).mono fun e w' ⟨he, h1, h2⟩ => ?_
      · rw [hs.2 j hj]; unfold gone; omega
      · exact ⟨_, cg, he, h1, rfl, h2⟩
def RYes (p B : Nat) (me peer life last done acc pl seq : Int) (L : List It) (d : List UInt8) (w : World) (e : Ending) (w' : World) : Prop :=
  ∃ g c out', e = .returned (.tuple #[.agg #[.int .i64 seq, .slice g d.length c], .bool true, .int .i64 0]) ∧ Ow w' w.heap.size (.slice g d.length c) d ∧ Se w' p me peer life last out' done acc pl ∧ Its w' B out' L ∧ Kb w w' ∧ Below B w w'
def RNo (p B : Nat) (me peer life last done acc pl : Int) (L : List It) (er : Int) (w : World) (e : Ending) (w' : World) : Prop :=
  ∃ out', e = .returned (.tuple #[.agg #[.int .i64 0, .slice none 0 0], .bool false, .int .i64 er]) ∧ Se w' p me peer life last out' done acc pl ∧ Its w' B out' L ∧ Kb w w' ∧ Below B w w'
/-- what holds where a packet was unpacked -/
structure Got (w W : World) (p q B : Nat) (me peer life last : Int) (out : Value) (done acc pl : Int) (L : List It) (A : Array Value) (g : Option Addr) (c : Nat) (d : List UInt8) : Prop where
  se : Se W p me peer life last out done acc pl
  its : Its W B out L
  pk : Blk W q A 34
  res : Blk W w.heap.size #[.int .i64 0, .slice none 0 0] 27
  own : Ow W (w.heap.size + 1) (.slice g d.length c) d
  kb : Kb w W
  below : Below B w W
  fresh : ∀ k, out.ownBlock = some k → k < w.heap.size
theorem Got.stay {w W W' : World} {p q B : Nat} {me peer life last : Int} {out : Value} {done acc pl : Int} {L : List It} {A : Array Value} {g : Option Addr} {c : Nat} {d : List UInt8} (h : Got w W p q B me peer life last out done acc pl L A g c d) (hb : Below W.heap.size W W') (hB : B ≤ W.heap.size) : Got w W' p q B me peer life last out done acc pl L A g c d :=
  ⟨h.se.below hb, h.its.below hb, h.pk.below hb, h.res.below hb, own_below h.own hb, h.kb.trans (Kb.below hb), h.below.trans (hb.mono hB), h.fresh⟩
/-- a field of the session is written -/
theorem Got.put {w W : World} {p q B : Nat} {me peer life last : Int} {out : Value} {done acc pl : Int} {L : List It} {A : Array Value} {g : Option Addr} {c : Nat} {d : List UInt8} (h : Got w W p q B me peer life last out done acc pl L A g c d) (hBp : B ≤ p) (i : Nat) (u : Value)
    {me' peer' life' last' : Int} {out' : Value} {done' acc' pl' : Int} (hs : Se (W.setCell ⟨p, i, none⟩ u) p me' peer' life' last' out' done' acc' pl') (ho : Its W B out' L) (hf : ∀ k, out'.ownBlock = some k → k < w.heap.size) :
    Got w (W.setCell ⟨p, i, none⟩ u) p q B me' peer' life' last' out' done' acc' pl' L A g c d := by
  have hg : W.grownBy (W.setCell ⟨p, i, none⟩ u) (some p) := grown_set (grown_refl _ _) _ _
  have hne : ∀ {T : TypeId} {q' : Nat} {cs : Array Value}, Blk W q' cs T → T ≠ 55 → some q' ≠ some p := fun {T q' cs} hb hT e => by
    have := Option.some.inj e
    subst this
    have h1 := h.se
    unfold Se Blk at h1
    unfold Blk at hb
    rw [hb] at h1; cases h1; exact hT rfl
  have hk := Kb.grown h.se (by decide) (by decide) hg
  refine ⟨hs, ho.turned hk hg (fun k hk' e => own_ne ho.own h.se (by decide) (e.trans hk'.symm)), h.pk.kept hg (hne h.pk (by decide)), h.res.kept hg (hne h.res (by decide)), own_kept h.own hg (fun k hk' e => own_ne h.own h.se (by decide) (e.trans hk'.symm)), h.kb.trans hk, below_row h.below hg (by have := h.se.lt; omega) (fun k hk' => by have := Option.some.inj hk'; omega), hf⟩
/-- the items that were acknowledged are struck -/
theorem Got.del {w W W4 : World} {p q B : Nat} {me peer life last : Int} {out : Value} {done acc pl : Int} {L : List It} {A : Array Value} {g : Option Addr} {c : Nat} {d : List UInt8} (h : Got w W p q B me peer life last out done acc pl L A g c d) (hBp : B ≤ p)
    {out' : Value} {L' : List It} (hg : W.grownBy W4 out.ownBlock) (hi : Its W4 B out' L') (ho : out'.ownBlock = out.ownBlock) :
    Se W4 p me peer life last out done acc pl ∧ Got w (W4.setCell ⟨p, 5, none⟩ out') p q B me peer life last out' done acc pl L' A g c d := by
  have hse : Se W4 p me peer life last out done acc pl := h.se.kept hg (own_ne h.its.own h.se (by decide))
  have hk4 : Kb W W4 := by
    have key : ∀ (k : Nat) (cur : Array Value) (T' : TypeId) (fr : Nat × Nat), 27 ≠ T' → W.heap[k]? = some (Obj.cells cur T' fr) → W4.heap[k]? = W.heap[k]? := by
      intro k cur T' fr hT hk
      refine hg.block k (Array.getElem?_eq_some_iff.1 hk).1 (fun e => ?_)
      rcases h.its.own.2 with ⟨e', _⟩ | ⟨g', cap, cur', e', _, hg', _⟩
      · rw [e'] at e; simp [Value.ownBlock] at e
      · rw [e'] at e; simp [Value.ownBlock] at e
        subst e
        rw [hg'] at hk; cases hk; exact hT rfl
    exact ⟨hg.os, hg.tape, hg.output, hg.size, fun k cur fr hk => key k cur _ fr (by decide) hk, fun k cur fr hk => key k cur _ fr (by decide) hk⟩
  have hgp : W4.grownBy (W4.setCell ⟨p, 5, none⟩ out') (some p) := grown_set (grown_refl _ _) _ _
  have hkp := Kb.grown hse (by decide) (by decide) hgp
  have hpk : Blk W4 q A 34 := h.pk.kept hg (own_ne h.its.own h.pk (by decide))
  have hres : Blk W4 w.heap.size #[.int .i64 0, .slice none 0 0] 27 := h.res.kept hg (fun e => by have := h.fresh _ e.symm; omega)
  have hown : Ow W4 (w.heap.size + 1) (.slice g d.length c) d := own_kept h.own hg (fun k hk e => by have h1 := h.fresh k e; have h2 := (h.own.lt k hk).1; omega)
  have hne : ∀ {T : TypeId} {q' : Nat} {cs : Array Value}, Blk W4 q' cs T → T ≠ 55 → some q' ≠ some p := fun {T q' cs} hb hT e => by
    have := Option.some.inj e
    subst this
    have h1 := hse
    unfold Se Blk at h1
    unfold Blk at hb
    rw [hb] at h1; cases h1; exact hT rfl
  refine ⟨hse, hse.set 5 out', hi.turned hkp hgp (fun k hk' e => own_ne hi.own hse (by decide) (e.trans hk'.symm)), hpk.kept hgp (hne hpk (by decide)), hres.kept hgp (hne hres (by decide)), own_kept hown hgp (fun k hk' e => own_ne hown hse (by decide) (e.trans hk'.symm)), h.kb.trans (hk4.trans hkp), ?_, fun k hk => h.fresh k (ho ▸ hk)⟩
  have hBW : B ≤ W.heap.size := by have := h.se.lt; omega
  exact below_row (below_row h.below hg hBW (fun k hk => (h.its.own.lt k hk).1)) hgp (Nat.le_trans hBW hg.size) (fun k hk => by have := Option.some.inj hk; omega)
theorem Got.fin {w W : World} {p q B : Nat} {me peer life last : Int} {out : Value} {done acc pl : Int} {L : List It} {A : Array Value} {g : Option Addr} {c : Nat} {d : List UInt8} (h : Got w W p q B me peer life last out done acc pl L A g c d) (hp : p < w.heap.size) (hB : B ≤ w.heap.size) (u0 u1 : Value) :
    Ow ((W.setCell ⟨w.heap.size, 0, none⟩ u0).setCell ⟨w.heap.size, 1, none⟩ u1) w.heap.size (.slice g d.length c) d ∧ Se ((W.setCell ⟨w.heap.size, 0, none⟩ u0).setCell ⟨w.heap.size, 1, none⟩ u1) p me peer life last out done acc pl ∧
    Its ((W.setCell ⟨w.heap.size, 0, none⟩ u0).setCell ⟨w.heap.size, 1, none⟩ u1) B out L ∧ Kb w ((W.setCell ⟨w.heap.size, 0, none⟩ u0).setCell ⟨w.heap.size, 1, none⟩ u1) ∧ Below B w ((W.setCell ⟨w.heap.size, 0, none⟩ u0).setCell ⟨w.heap.size, 1, none⟩ u1) := by
  have hg : W.grownBy ((W.setCell ⟨w.heap.size, 0, none⟩ u0).setCell ⟨w.heap.size, 1, none⟩ u1) (some w.heap.size) := grown_set (grown_set (grown_refl _ _) _ _) _ _
  have hk := Kb.grown h.res (by decide) (by decide) hg
  have hl := h.res.lt
  refine ⟨own_kept (h.own.mono (Nat.le_succ _)) hg (fun k hk e => by have h1 := (h.own.lt k hk).1; have h2 := Option.some.inj e; omega), h.se.kept hg (fun e => by have := Option.some.inj e; omega), h.its.turned hk hg (fun k hk' e => by have h1 := h.fresh k hk'; have h2 := Option.some.inj e; omega), h.kb.trans hk, below_row h.below hg (by omega) (fun k hk' => by have := Option.some.inj hk'; omega)⟩
set_option maxHeartbeats 1600000 in
set_option maxRecDepth 100000 in
theorem recv_yes (p B : Nat) (me peer life last done acc pl : Int) (out : Value) (L : List It) (P : By.Pk) (ba : Option Addr) (n cap : Nat) (w : World) (h : Se w p me peer life last out done acc pl) (hi : Its w B out L) (hBp : B ≤ p)
    (hn : (By.pack P).length = n) (hr : Rd w ba (By.pack P)) (hb : ba = none → n = 0) (hc : n ≤ cap) (hp : P.right) (hfr : (P.fr : Int) = peer) (hlife : pl ≤ P.life) (hack : (P.ack : Int) ≤ last) (hseq : (P.seq : Int) = acc + 1) (hacc : 0 ≤ acc ∧ acc ≤ 4611686018427387904) (hso : SeqOk last L) (hlen : L.length ≤ 1024) :
    Calls Try.prog 13 #[.pointer (some ⟨p, 0, none⟩), .slice ba n cap] w (RYes p B me peer life last done acc P.life P.seq (L.drop (gone last P.ack L.length)) P.data w) := by
  have hplt := h.lt
  obtain ⟨a1, a2⟩ := hacc
  have HSO := Lib.hid hso
  have HSQ := Lib.hid hseq
  clear hso hseq
  have hb1 : Below w.heap.size w (w.alloc (.cells #[.int .i64 0, .slice none 0 0] 27)) := (Below.refl _ _).alloc (Nat.le_refl _) _
  have h2 := h.below hb1
  have CN := Lib.hid (none_any p me peer life last out done acc pl _ h2)
  have CU : Hid (Calls Try.prog 30 #[.slice ba n cap] (w.alloc (.cells #[.int .i64 0, .slice none 0 0] 27)) (UnpPost P.fr P.life P.seq P.ack P.data 0 (w.alloc (.cells #[.int .i64 0, .slice none 0 0] 27)))) := Lib.hid (unpack_packed ba n cap P (w.alloc (.cells #[.int .i64 0, .slice none 0 0] 27)) hp hn (hr.below hb1) hb hc)
  have hlt := h.lt
  have hBw : B ≤ w.heap.size := by omega
  have hout : ∀ k, out.ownBlock = some k → k < w.heap.size := fun k hk => (hi.own.lt k hk).2
  obtain ⟨go, co, rfl, _, _⟩ := hi.val
  have HS := Lib.hid h2
  have HI := Lib.hid (hi.below hb1)
  have HOUT := Lib.hid hout
  obtain ⟨fr, lf, sq, ak, d⟩ := P
  simp only at hfr CU
  have HFR := Lib.hid hfr
  have hfb : ((fr : Int) != peer) = false := by rw [hfr]; simp
  clear h h2 hb1 hn hr hb hp hi hout hfr
  go_enter Try.func13, Try.ntmps13
  go_wp2_with fail
  with_reducible refine (CN.out).mono ?_
  rintro e w1 ⟨rfl, rfl⟩
  go_wp2_with fail
  with_reducible refine (CU.out).mono ?_
  rintro e w1 ⟨v1, rfl, ho1, hb1⟩
  obtain ⟨b1, c1, rfl, _, _, _⟩ := ho1.rd
  have hw0 : Below w.heap.size w (w.alloc (.cells #[.int .i64 0, .slice none 0 0] 27)) := (Below.refl _ _).alloc (Nat.le_refl _) _
  have hgot : Got w (w1.alloc (.cells #[.int .i64 fr, .int .i64 lf, .int .i64 sq, .int .i64 ak, .slice b1 d.length c1] 34)) p w1.heap.size B me peer life last (.slice go L.length co) done acc pl L #[.int .i64 fr, .int .i64 lf, .int .i64 sq, .int .i64 ak, .slice b1 d.length c1] b1 c1 d := by
    have hba : Below w1.heap.size w1 (w1.alloc (.cells #[.int .i64 fr, .int .i64 lf, .int .i64 sq, .int .i64 ak, .slice b1 d.length c1] 34)) := (Below.refl _ _).alloc (Nat.le_refl _) _
    refine ⟨(HS.out.below hb1).below hba, (HI.out.below hb1).below hba, Blk.new _ _ _, ((Blk.new _ _ _).below hb1).below hba, ?_, (Kb.below hw0).trans ((Kb.below hb1).trans (Kb.below hba)), (hw0.mono hBw).trans ((hb1.mono (by simp; omega)).trans (hba.mono (Nat.le_trans hBw (Nat.le_trans hw0.size hb1.size)))), HOUT.out⟩
    refine own_below ?_ hba
    have : (w.alloc (.cells #[.int .i64 0, .slice none 0 0] 27)).heap.size = w.heap.size + 1 := by simp
    rw [this] at ho1; exact ho1
  have hq1 : w.heap.size < w1.heap.size := by have := hb1.size; simp at this; omega
  have hbw1 : Below w.heap.size w (w1.alloc (.cells #[.int .i64 fr, .int .i64 lf, .int .i64 sq, .int .i64 ak, .slice b1 d.length c1] 34)) := (hw0.trans (hb1.mono (by simp))).alloc (by omega) _
  clear ho1 hb1 hw0 HS HI CN CU
  go_wp2_with fail
  refine (?_ : ∀ W1 : World, Got w W1 p w1.heap.size B me peer life last (.slice go L.length co) done acc pl L #[.int .i64 fr, .int .i64 lf, .int .i64 sq, .int .i64 ak, .slice b1 d.length c1] b1 c1 d → Below w.heap.size w W1 → Code.wp _ _ _ _ W1) _ hgot hbw1
  clear hgot hbw1
  intro W1 hgot hbw1
  have HBW1 := Lib.hid hbw1
  clear hbw1
  generalize w1.heap.size = q at hgot hq1 ⊢
  have s21 := hgot.se.cell 2
  have s41 := hgot.se.cell 4
  have s51 := hgot.se.cell 5
  have s71 := hgot.se.cell 7
  have s81 := hgot.se.cell 8
  have sf1 := fun o => hgot.se.free o
  have sl1 := hgot.se.lt
  have p01 := hgot.pk.cell 0
  have p11 := hgot.pk.cell 1
  have p21 := hgot.pk.cell 2
  have p31 := hgot.pk.cell 3
  have p41 := hgot.pk.cell 4
  have pl1 := hgot.pk.lt
  have r01 := hgot.res.cell 0
  have r11 := hgot.res.cell 1
  have rf1 := fun o => hgot.res.free o
  have rl1 := hgot.res.lt
  have HG1 := Lib.hid hgot
  clear hgot
  replace hlife : pl ≤ (lf : Int) := hlife
  replace hack : (ak : Int) ≤ last := hack
  replace HSQ : Hid ((sq : Int) = acc + 1) := HSQ
  have i1 : decide ((lf : Int) < pl) = false := by simp; omega
  have i2 : decide (last < (ak : Int)) = false := by simp; omega
  have i3 : ((sq : Int) != acc + 1) = false := by rw [HSQ.out]; simp
  have i4 : IntKind.i64.wrap (acc + 1) = acc + 1 := IntWalk.i64_in _ (by omega)
  go_quiet (fail)
  rename Nat => n1
  go_wp2_with fail
  go_quiet (fail)
  rename Nat => n2
  go_wp2_with fail
  go_quiet (fail)
  rename Nat => n3
  go_wp2_with fail
  have hg2 := (HG1.out.stay (belowN (Below.refl W1.heap.size W1) (n1 + n2 + n3)) (by omega)).put hBp 8 (.int .i64 lf) (pl' := lf) ((HG1.out.se.below (belowN (Below.refl W1.heap.size W1) (n1 + n2 + n3))).set 8 _) (HG1.out.its.below (belowN (Below.refl W1.heap.size W1) (n1 + n2 + n3))) HG1.out.fresh
  clear s21 s41 s51 s71 s81 sf1 p01 p11 p21 p31 p41 r01 r11 rf1
  generalize (W1.drewN (n1 + n2 + n3)).setCell ⟨p, 8, none⟩ (.int .i64 lf) = W2 at hg2 ⊢
  have CD := Lib.hid (deleteFunc_any q B ak last _ L W2 hg2.its (hg2.pk.cell 3) hg2.pk.lt (fun e => own_ne hg2.its.own hg2.pk (by decide) e.symm) HSO.out hack hlen)
  have HG2 := Lib.hid hg2
  clear hg2
  with_reducible refine (CD.out).mono ?_
  rintro e W4 ⟨g4, c4, rfl, hits4, hown4, hgr4⟩
  have hg5 := HG2.out.del hBp hgr4 hits4 hown4
  have s5c := hg5.1.cell 5
  have s5f := fun o => hg5.1.free o
  have s5l := hg5.1.lt
  have HG5 := Lib.hid hg5.2
  clear hg5 hits4 hown4 hgr4 CD
  go_wp2_with fail
  clear s5c s5f s5l
  generalize W4.setCell ⟨p, 5, none⟩ (.slice g4 (L.length - gone last ak L.length) c4) = W5 at HG5 ⊢
  have hg5 := HG5.out
  have s25 := hg5.se.cell 2
  have s45 := hg5.se.cell 4
  have s55 := hg5.se.cell 5
  have s75 := hg5.se.cell 7
  have s85 := hg5.se.cell 8
  have sf5 := fun o => hg5.se.free o
  have sl5 := hg5.se.lt
  have p05 := hg5.pk.cell 0
  have p15 := hg5.pk.cell 1
  have p25 := hg5.pk.cell 2
  have p35 := hg5.pk.cell 3
  have p45 := hg5.pk.cell 4
  have pl5 := hg5.pk.lt
  have r05 := hg5.res.cell 0
  have r15 := hg5.res.cell 1
  have rf5 := fun o => hg5.res.free o
  have rl5 := hg5.res.lt
  have HG5 := Lib.hid hg5
  clear hg5
  go_quiet (fail)
  have hfin := (HG5.out.stay (belowN (Below.refl W5.heap.size W5) nq) (by omega)).fin hplt hBw (.int .i64 sq) (.slice b1 d.length c1)
  have HF := Lib.hid hfin
  clear hfin
  go_wp2
  exact bodyPost_ret (v := .tuple #[.agg #[.int .i64 sq, .slice b1 d.length c1], .bool true, .int .i64 0]) (by unfold results; rw [Try.results13]; go_simp) rfl ⟨b1, c1, _, rfl, HF.out.1, HF.out.2.1, HF.out.2.2.1, HF.out.2.2.2⟩
set_option maxHeartbeats 1600000 in
set_option maxRecDepth 100000 in
theorem recv_no (p B : Nat) (me peer life last done acc pl : Int) (out : Value) (L : List It) (P : By.Pk) (ba : Option Addr) (n cap : Nat) (w : World) (h : Se w p me peer life last out done acc pl) (hi : Its w B out L) (hBp : B ≤ p)
    (hn : (By.pack P).length = n) (hr : Rd w ba (By.pack P)) (hb : ba = none → n = 0) (hc : n ≤ cap) (hp : P.right) (hfr : (P.fr : Int) = peer) (hlife : pl ≤ P.life) (hack : (P.ack : Int) ≤ last) (hseq : (P.seq : Int) ≠ acc + 1) (hacc : 0 ≤ acc ∧ acc ≤ 4611686018427387904) (hso : SeqOk last L) (hlen : L.length ≤ 1024) :
    Calls Try.prog 13 #[.pointer (some ⟨p, 0, none⟩), .slice ba n cap] w (RNo p B me peer life last done acc P.life (L.drop (gone last P.ack L.length)) 0 w) := by
  have hplt := h.lt
  obtain ⟨a1, a2⟩ := hacc
  have HSO := Lib.hid hso
  have HSQ := Lib.hid hseq
  clear hso hseq
  have hb1 : Below w.heap.size w (w.alloc (.cells #[.int .i64 0, .slice none 0 0] 27)) := (Below.refl _ _).alloc (Nat.le_refl _) _
  have h2 := h.below hb1
  have CN := Lib.hid (none_any p me peer life last out done acc pl _ h2)
  have CU : Hid (Calls Try.prog 30 #[.slice ba n cap] (w.alloc (.cells #[.int .i64 0, .slice none 0 0] 27)) (UnpPost P.fr P.life P.seq P.ack P.data 0 (w.alloc (.cells #[.int .i64 0, .slice none 0 0] 27)))) := Lib.hid (unpack_packed ba n cap P (w.alloc (.cells #[.int .i64 0, .slice none 0 0] 27)) hp hn (hr.below hb1) hb hc)
  have hlt := h.lt
  have hBw : B ≤ w.heap.size := by omega
  have hout : ∀ k, out.ownBlock = some k → k < w.heap.size := fun k hk => (hi.own.lt k hk).2
  obtain ⟨go, co, rfl, _, _⟩ := hi.val
  have HS := Lib.hid h2
  have HI := Lib.hid (hi.below hb1)
  have HOUT := Lib.hid hout
  obtain ⟨fr, lf, sq, ak, d⟩ := P
  simp only at hfr CU
  have HFR := Lib.hid hfr
  have hfb : ((fr : Int) != peer) = false := by rw [hfr]; simp
  clear h h2 hb1 hn hr hb hp hi hout hfr
  go_enter Try.func13, Try.ntmps13
  go_wp2_with fail
  with_reducible refine (CN.out).mono ?_
  rintro e w1 ⟨rfl, rfl⟩
  go_wp2_with fail
  with_reducible refine (CU.out).mono ?_
  rintro e w1 ⟨v1, rfl, ho1, hb1⟩
  obtain ⟨b1, c1, rfl, _, _, _⟩ := ho1.rd
  have hw0 : Below w.heap.size w (w.alloc (.cells #[.int .i64 0, .slice none 0 0] 27)) := (Below.refl _ _).alloc (Nat.le_refl _) _
  have hgot : Got w (w1.alloc (.cells #[.int .i64 fr, .int .i64 lf, .int .i64 sq, .int .i64 ak, .slice b1 d.length c1] 34)) p w1.heap.size B me peer life last (.slice go L.length co) done acc pl L #[.int .i64 fr, .int .i64 lf, .int .i64 sq, .int .i64 ak, .slice b1 d.length c1] b1 c1 d := by
    have hba : Below w1.heap.size w1 (w1.alloc (.cells #[.int .i64 fr, .int .i64 lf, .int .i64 sq, .int .i64 ak, .slice b1 d.length c1] 34)) := (Below.refl _ _).alloc (Nat.le_refl _) _
    refine ⟨(HS.out.below hb1).below hba, (HI.out.below hb1).below hba, Blk.new _ _ _, ((Blk.new _ _ _).below hb1).below hba, ?_, (Kb.below hw0).trans ((Kb.below hb1).trans (Kb.below hba)), (hw0.mono hBw).trans ((hb1.mono (by simp; omega)).trans (hba.mono (Nat.le_trans hBw (Nat.le_trans hw0.size hb1.size)))), HOUT.out⟩
    refine own_below ?_ hba
    have : (w.alloc (.cells #[.int .i64 0, .slice none 0 0] 27)).heap.size = w.heap.size + 1 := by simp
    rw [this] at ho1; exact ho1
  have hq1 : w.heap.size < w1.heap.size := by have := hb1.size; simp at this; omega
  have hbw1 : Below w.heap.size w (w1.alloc (.cells #[.int .i64 fr, .int .i64 lf, .int .i64 sq, .int .i64 ak, .slice b1 d.length c1] 34)) := (hw0.trans (hb1.mono (by simp))).alloc (by omega) _
  clear ho1 hb1 hw0 HS HI CN CU
  go_wp2_with fail
  refine (?_ : ∀ W1 : World, Got w W1 p w1.heap.size B me peer life last (.slice go L.length co) done acc pl L #[.int .i64 fr, .int .i64 lf, .int .i64 sq, .int .i64 ak, .slice b1 d.length c1] b1 c1 d → Below w.heap.size w W1 → Code.wp _ _ _ _ W1) _ hgot hbw1
  clear hgot hbw1
  intro W1 hgot hbw1
  have HBW1 := Lib.hid hbw1
  clear hbw1
  generalize w1.heap.size = q at hgot hq1 ⊢
  have s21 := hgot.se.cell 2
  have s41 := hgot.se.cell 4
  have s51 := hgot.se.cell 5
  have s71 := hgot.se.cell 7
  have s81 := hgot.se.cell 8
  have sf1 := fun o => hgot.se.free o
  have sl1 := hgot.se.lt
  have p01 := hgot.pk.cell 0
  have p11 := hgot.pk.cell 1
  have p21 := hgot.pk.cell 2
  have p31 := hgot.pk.cell 3
  have p41 := hgot.pk.cell 4
  have pl1 := hgot.pk.lt
  have r01 := hgot.res.cell 0
  have r11 := hgot.res.cell 1
  have rf1 := fun o => hgot.res.free o
  have rl1 := hgot.res.lt
  have HG1 := Lib.hid hgot
  clear hgot
  replace hlife : pl ≤ (lf : Int) := hlife
  replace hack : (ak : Int) ≤ last := hack
  replace HSQ : Hid ((sq : Int) ≠ acc + 1) := HSQ
  have i1 : decide ((lf : Int) < pl) = false := by simp; omega
  have i2 : decide (last < (ak : Int)) = false := by simp; omega
  have i3 : ((sq : Int) != acc + 1) = true := by rw [bne_iff_ne]; exact HSQ.out
  have i4 : IntKind.i64.wrap (acc + 1) = acc + 1 := IntWalk.i64_in _ (by omega)
  go_quiet (fail)
  rename Nat => n1
  go_wp2_with fail
  go_quiet (fail)
  rename Nat => n2
  go_wp2_with fail
  go_quiet (fail)
  rename Nat => n3
  go_wp2_with fail
  have hg2 := (HG1.out.stay (belowN (Below.refl W1.heap.size W1) (n1 + n2 + n3)) (by omega)).put hBp 8 (.int .i64 lf) (pl' := lf) ((HG1.out.se.below (belowN (Below.refl W1.heap.size W1) (n1 + n2 + n3))).set 8 _) (HG1.out.its.below (belowN (Below.refl W1.heap.size W1) (n1 + n2 + n3))) HG1.out.fresh
  clear s21 s41 s51 s71 s81 sf1 p01 p11 p21 p31 p41 r01 r11 rf1
  generalize (W1.drewN (n1 + n2 + n3)).setCell ⟨p, 8, none⟩ (.int .i64 lf) = W2 at hg2 ⊢
  have CD := Lib.hid (deleteFunc_any q B ak last _ L W2 hg2.its (hg2.pk.cell 3) hg2.pk.lt (fun e => own_ne hg2.its.own hg2.pk (by decide) e.symm) HSO.out hack hlen)
  have HG2 := Lib.hid hg2
  clear hg2
  with_reducible refine (CD.out).mono ?_
  rintro e W4 ⟨g4, c4, rfl, hits4, hown4, hgr4⟩
  have hg5 := HG2.out.del hBp hgr4 hits4 hown4
  have s5c := hg5.1.cell 5
  have s5f := fun o => hg5.1.free o
  have s5l := hg5.1.lt
  have HG5 := Lib.hid hg5.2
  clear hg5 hits4 hown4 hgr4 CD
  go_wp2_with fail
  clear s5c s5f s5l
  generalize W4.setCell ⟨p, 5, none⟩ (.slice g4 (L.length - gone last ak L.length) c4) = W5 at HG5 ⊢
  have hg5 := HG5.out
  have s25 := hg5.se.cell 2
  have s45 := hg5.se.cell 4
  have s55 := hg5.se.cell 5
  have s75 := hg5.se.cell 7
  have s85 := hg5.se.cell 8
  have sf5 := fun o => hg5.se.free o
  have sl5 := hg5.se.lt
  have p05 := hg5.pk.cell 0
  have p15 := hg5.pk.cell 1
  have p25 := hg5.pk.cell 2
  have p35 := hg5.pk.cell 3
  have p45 := hg5.pk.cell 4
  have pl5 := hg5.pk.lt
  have r05 := hg5.res.cell 0
  have r15 := hg5.res.cell 1
  have rf5 := fun o => hg5.res.free o
  have rl5 := hg5.res.lt
  have HG5 := Lib.hid hg5
  clear hg5
  go_quiet (fail)
  have hfin := (HG5.out.stay (belowN (Below.refl W5.heap.size W5) nq) (by omega)).fin hplt hBw (.int .i64 0) (.slice none 0 0)
  have HF := Lib.hid hfin
  clear hfin
  go_wp2
  exact bodyPost_ret (v := .tuple #[.agg #[.int .i64 0, .slice none 0 0], .bool false, .int .i64 0]) (by unfold results; rw [Try.results13]; go_simp) rfl ⟨_, rfl, HF.out.2.1, HF.out.2.2.1, HF.out.2.2.2⟩
set_option maxHeartbeats 1600000 in
set_option maxRecDepth 100000 in
theorem recv_late (p B : Nat) (me peer life last done acc pl : Int) (out : Value) (L : List It) (P : By.Pk) (ba : Option Addr) (n cap : Nat) (w : World) (h : Se w p me peer life last out done acc pl) (hi : Its w B out L) (hBp : B ≤ p)
    (hn : (By.pack P).length = n) (hr : Rd w ba (By.pack P)) (hb : ba = none → n = 0) (hc : n ≤ cap) (hp : P.right) (hfr : (P.fr : Int) = peer) (hlife : (P.life : Int) < pl) :
    Calls Try.prog 13 #[.pointer (some ⟨p, 0, none⟩), .slice ba n cap] w fun e w' => e = .returned (.tuple #[.agg #[.int .i64 0, .slice none 0 0], .bool false, .int .i64 0]) ∧ Below w.heap.size w w' := by
  have hplt := h.lt
  have hb1 : Below w.heap.size w (w.alloc (.cells #[.int .i64 0, .slice none 0 0] 27)) := (Below.refl _ _).alloc (Nat.le_refl _) _
  have h2 := h.below hb1
  have CN := Lib.hid (none_any p me peer life last out done acc pl _ h2)
  have CU : Hid (Calls Try.prog 30 #[.slice ba n cap] (w.alloc (.cells #[.int .i64 0, .slice none 0 0] 27)) (UnpPost P.fr P.life P.seq P.ack P.data 0 (w.alloc (.cells #[.int .i64 0, .slice none 0 0] 27)))) := Lib.hid (unpack_packed ba n cap P (w.alloc (.cells #[.int .i64 0, .slice none 0 0] 27)) hp hn (hr.below hb1) hb hc)
  have hlt := h.lt
  have hBw : B ≤ w.heap.size := by omega
  have hout : ∀ k, out.ownBlock = some k → k < w.heap.size := fun k hk => (hi.own.lt k hk).2
  obtain ⟨go, co, rfl, _, _⟩ := hi.val
  have HS := Lib.hid h2
  have HI := Lib.hid (hi.below hb1)
  have HOUT := Lib.hid hout
  obtain ⟨fr, lf, sq, ak, d⟩ := P
  simp only at hfr CU
  have HFR := Lib.hid hfr
  have hfb : ((fr : Int) != peer) = false := by rw [hfr]; simp
  clear h h2 hb1 hn hr hb hp hi hout hfr
  go_enter Try.func13, Try.ntmps13
  go_wp2_with fail
  with_reducible refine (CN.out).mono ?_
  rintro e w1 ⟨rfl, rfl⟩
  go_wp2_with fail
  with_reducible refine (CU.out).mono ?_
  rintro e w1 ⟨v1, rfl, ho1, hb1⟩
  obtain ⟨b1, c1, rfl, _, _, _⟩ := ho1.rd
  have hw0 : Below w.heap.size w (w.alloc (.cells #[.int .i64 0, .slice none 0 0] 27)) := (Below.refl _ _).alloc (Nat.le_refl _) _
  have hgot : Got w (w1.alloc (.cells #[.int .i64 fr, .int .i64 lf, .int .i64 sq, .int .i64 ak, .slice b1 d.length c1] 34)) p w1.heap.size B me peer life last (.slice go L.length co) done acc pl L #[.int .i64 fr, .int .i64 lf, .int .i64 sq, .int .i64 ak, .slice b1 d.length c1] b1 c1 d := by
    have hba : Below w1.heap.size w1 (w1.alloc (.cells #[.int .i64 fr, .int .i64 lf, .int .i64 sq, .int .i64 ak, .slice b1 d.length c1] 34)) := (Below.refl _ _).alloc (Nat.le_refl _) _
    refine ⟨(HS.out.below hb1).below hba, (HI.out.below hb1).below hba, Blk.new _ _ _, ((Blk.new _ _ _).below hb1).below hba, ?_, (Kb.below hw0).trans ((Kb.below hb1).trans (Kb.below hba)), (hw0.mono hBw).trans ((hb1.mono (by simp; omega)).trans (hba.mono (Nat.le_trans hBw (Nat.le_trans hw0.size hb1.size)))), HOUT.out⟩
    refine own_below ?_ hba
    have : (w.alloc (.cells #[.int .i64 0, .slice none 0 0] 27)).heap.size = w.heap.size + 1 := by simp
    rw [this] at ho1; exact ho1
  have hq1 : w.heap.size < w1.heap.size := by have := hb1.size; simp at this; omega
  have hbw1 : Below w.heap.size w (w1.alloc (.cells #[.int .i64 fr, .int .i64 lf, .int .i64 sq, .int .i64 ak, .slice b1 d.length c1] 34)) := (hw0.trans (hb1.mono (by simp))).alloc (by omega) _
  clear ho1 hb1 hw0 HS HI CN CU
  go_wp2_with fail
  refine (?_ : ∀ W1 : World, Got w W1 p w1.heap.size B me peer life last (.slice go L.length co) done acc pl L #[.int .i64 fr, .int .i64 lf, .int .i64 sq, .int .i64 ak, .slice b1 d.length c1] b1 c1 d → Below w.heap.size w W1 → Code.wp _ _ _ _ W1) _ hgot hbw1
  clear hgot hbw1
  intro W1 hgot hbw1
  have HBW1 := Lib.hid hbw1
  clear hbw1
  generalize w1.heap.size = q at hgot hq1 ⊢
  have s21 := hgot.se.cell 2
  have s41 := hgot.se.cell 4
  have s51 := hgot.se.cell 5
  have s71 := hgot.se.cell 7
  have s81 := hgot.se.cell 8
  have sf1 := fun o => hgot.se.free o
  have sl1 := hgot.se.lt
  have p01 := hgot.pk.cell 0
  have p11 := hgot.pk.cell 1
  have p21 := hgot.pk.cell 2
  have p31 := hgot.pk.cell 3
  have p41 := hgot.pk.cell 4
  have pl1 := hgot.pk.lt
  have r01 := hgot.res.cell 0
  have r11 := hgot.res.cell 1
  have rf1 := fun o => hgot.res.free o
  have rl1 := hgot.res.lt
  have HG1 := Lib.hid hgot
  clear hgot
  replace hlife : (lf : Int) < pl := hlife
  have i1 : decide ((lf : Int) < pl) = true := by simp; omega
  go_quiet (fail)
  rename Nat => n1
  go_wp2_with fail
  go_quiet (fail)
  rename Nat => n2
  have hfin : Below w.heap.size w (((W1.drewN (n1 + n2)).setCell ⟨w.heap.size, 0, none⟩ (.int .i64 0)).setCell ⟨w.heap.size, 1, none⟩ (.slice none 0 0)) := ((belowN HBW1.out (n1 + n2)).setCell (p := ⟨w.heap.size, 0, none⟩) (Nat.le_refl _) _).setCell (p := ⟨w.heap.size, 1, none⟩) (Nat.le_refl _) _
  have HF := Lib.hid hfin
  clear hfin
  go_wp2
  exact bodyPost_ret (v := .tuple #[.agg #[.int .i64 0, .slice none 0 0], .bool false, .int .i64 0]) (by unfold results; rw [Try.results13]; go_simp) rfl ⟨rfl, HF.out⟩
end Go.Proofs.Ytndfelbgppbncaa
/- A session as its numbers and the bytes that wait: its calls. -/
set_option linter.unusedVariables false
set_option linter.unusedSimpArgs false
namespace Go.Proofs.Ytndfelbgppbncaa
open Go.RowKit
/-- a session: what waits is D -/
def Ss (w : World) (B p : Nat) (me peer life last done acc pl : Int) (D : List (List UInt8)) : Prop :=
  B ≤ p ∧ ∃ out L, L.map It.data = D ∧ SeqOk last L ∧ Se w p me peer life last out done acc pl ∧ Its w B out L
theorem Ss.lt {w : World} {B p : Nat} {me peer life last done acc pl : Int} {D : List (List UInt8)} (h : Ss w B p me peer life last done acc pl D) : p < w.heap.size := by
  obtain ⟨_, out, L, _, _, h1, _⟩ := h; exact Blk.lt h1
theorem Ss.ge {w : World} {B p : Nat} {me peer life last done acc pl : Int} {D : List (List UInt8)} (h : Ss w B p me peer life last done acc pl D) : B ≤ p := h.1
theorem Ss.lo {w : World} {B p : Nat} {me peer life last done acc pl : Int} {D : List (List UInt8)} (h : Ss w B p me peer life last done acc pl D) : (D.length : Int) ≤ last := by
  obtain ⟨_, out, L, rfl, h0, _, _⟩ := h; rw [List.length_map]; exact h0.1
theorem Ss.below {w w' : World} {B p : Nat} {me peer life last done acc pl : Int} {D : List (List UInt8)} (h : Ss w B p me peer life last done acc pl D) (hb : Below w.heap.size w w') : Ss w' B p me peer life last done acc pl D := by
  obtain ⟨hB, out, L, h0, h1, h2, h3⟩ := h
  exact ⟨hB, out, L, h0, h1, Blk.below h2 hb, h3.below hb⟩
/-- another list of the call's own has turned -/
theorem Ss.gw {w w' : World} {B p B' n : Nat} {me peer life last done acc pl : Int} {D : List (List UInt8)} {v v' : Value} {xs : List Value} (h : Ss w B p me peer life last done acc pl D) (ho : w.ownsRow B' 25 1 v n xs) (hg : Gw w w' v v') : Ss w' B p me peer life last done acc pl D := by
  obtain ⟨hB, out, L, h0, h1, h2, h3⟩ := h
  have hb : ∀ (k : Nat) (cur : Array Value) (T : TypeId) (fr : Nat × Nat), 25 ≠ T → w.heap[k]? = some (Obj.cells cur T fr) → w'.heap[k]? = w.heap[k]? := by
    intro k cur T fr hT hk
    refine hg.grown.block k (Array.getElem?_eq_some_iff.1 hk).1 (fun e => ?_)
    rcases ho.2 with ⟨rfl, _⟩ | ⟨g, cap, cur', rfl, _, hg', _⟩
    · simp [Value.ownBlock] at e
    · simp [Value.ownBlock] at e
      subst e
      rw [hg'] at hk; cases hk; exact hT rfl
  refine ⟨hB, out, L, h0, h1, ?_, ⟨?_, fun x hx => ?_, h3.nil, h3.cap⟩⟩
  · unfold Se Blk at h2 ⊢; exact (hb p _ _ _ (by decide) h2).trans h2
  · rcases h3.own.2 with e | ⟨g, cap, cur, e1, e2, e3, e4⟩
    · exact ⟨h3.own.1, Or.inl e⟩
    · exact ⟨h3.own.1, Or.inr ⟨g, cap, cur, e1, e2, (hb g cur _ _ (by decide) e3).trans e3, e4⟩⟩
  · rcases h3.rd x hx with e | ⟨b, o, cur, fr, e, hblk, hcell⟩
    · exact Or.inl e
    · refine Or.inr ⟨b, o, cur, fr, e, (hb b cur _ fr (by decide) hblk).trans hblk, fun i hi => ?_⟩
      rw [World.cell?_of_block (w := w) (hb b cur _ fr (by decide) hblk)]; exact hcell i hi
def SsSent (B p : Nat) (me peer life last done acc pl : Int) (D : List (List UInt8)) (w : World) (e : Ending) (w' : World) : Prop :=
  e = .returned (.tuple #[.int .i64 last, .int .i64 0]) ∧ Ss w' B p me peer life last done acc pl D ∧ Kb w w' ∧ Below B w w'
theorem ss_send (p B : Nat) (me peer life last done acc pl : Int) (D : List (List UInt8)) (ba : Option Addr) (n cap : Nat) (d : List UInt8) (w : World) (h : Ss w B p me peer life last done acc pl D) (hlast : last ≤ 4611686018427387904)
    (hn : d.length = n) (hr : Rd w ba d) (hb : ba = none → n = 0) (hap : d ≠ [] → ∀ b o, ba = some (⟨b, o, none⟩ : Addr) → b ≠ p) (hL : D.length < 1024) (hd : n ≤ 1048576) :
    Calls Try.prog 22 #[.pointer (some ⟨p, 0, none⟩), .slice ba n cap] w (SsSent B p me peer life (last + 1) done acc pl (D ++ [d]) w) := by
  have hlo := h.lo
  obtain ⟨hB, out, L, rfl, h1, h2, h3⟩ := h
  rw [List.length_map] at hlo hL
  refine (send_any p B me peer life last done acc pl out L ba n cap d w h2 h3 hB ⟨by omega, hlast⟩ hn hr hb hap hL hd).mono fun e w' ⟨b2, c2, out', he, hs, hi, hk, hbl⟩ => ?_
  refine ⟨he, ⟨hB, out', _, by rw [List.map_append]; rfl, ⟨by rw [List.length_append]; simp; omega, fun j hj => ?_⟩, hs, hi⟩, hk, hbl⟩
  rw [List.length_append] at hj ⊢
  simp only [List.length_singleton] at hj ⊢
  by_cases hjl : j < L.length
  · rw [List.getElem_append_left hjl, h1.2 j hjl]; push_cast; omega
  · rw [List.getElem_append_right (by omega)]
    have : j - L.length = 0 := by omega
    simp only [this, List.getElem_cons_zero]; push_cast; omega
/-- the packets of what waits -/
def pkL (me life : Nat) (last : Int) (done : Nat) (D : List (List UInt8)) : List (List UInt8) :=
  if D = [] then [By.pack ⟨me, life, 0, done, []⟩] else (D.take 8).mapIdx fun i d => By.pack ⟨me, life, (last - D.length + 1 + i).toNat, done, d⟩
def SsPks (B : Nat) (P : List (List UInt8)) (w : World) (e : Ending) (w' : World) : Prop := ∃ M g c, e = .returned (.slice g M.length c) ∧ M.map Bt.data = P ∧ Ls w' w.heap.size (.slice g M.length c) M ∧ Below w.heap.size w w'
theorem pkL_eq (me life dn : Nat) (last : Int) (L : List It) (h : SeqOk last L) : (nowL L).map (pkOf me life dn) = pkL me life last dn (L.map It.data) := by
  unfold nowL pkL
  by_cases hL : L = []
  · subst hL; rfl
  · rw [if_neg hL, if_neg (by simpa using hL)]
    apply List.ext_getElem
    · simp
    · intro i h1 h2
      simp only [List.getElem_map, List.getElem_take, List.getElem_mapIdx, List.length_map]
      unfold pkOf
      have hi : i < L.length := by simp at h1; omega
      rw [h.2 i hi]
theorem ss_packets (p B : Nat) (me peer life last done acc pl : Int) (me' life' done' : Nat) (D : List (List UInt8)) (w : World) (h : Ss w B p me peer life last done acc pl D) (e1 : me = me') (e2 : life = life') (e3 : done = done')
    (k1 : me' ≤ 4611686018427387904) (k2 : life' ≤ 4611686018427387904) (k3 : done' ≤ 4611686018427387904) (kl : last ≤ 4611686018427387904) (hD : ∀ d ∈ D, d.length ≤ 1048576) (hlen : D.length ≤ 1024) :
    Calls Try.prog 23 #[.pointer (some ⟨p, 0, none⟩)] w (SsPks B (pkL me' life' last done' D) w) := by
  have hlo := h.lo
  obtain ⟨hB, out, L, rfl, h1, h2, h3⟩ := h
  rw [List.length_map] at hlo hlen
  refine (packets_any p B me' life' done' me peer life last done acc pl out L w h2 h3 e1 e2 e3 k1 k2 k3 (fun x hx => ?_) hlen).mono fun e w' ⟨M, g, c, he, hm, hl, hb⟩ => ⟨M, g, c, he, ?_, hl, hb⟩
  · obtain ⟨j, hj, rfl⟩ := List.mem_iff_getElem.1 hx
    have := h1.2 j hj
    exact ⟨by omega, by omega, hD _ (List.mem_map.2 ⟨_, hx, rfl⟩), Or.inl (by omega)⟩
  · rw [hm, pkL_eq _ _ _ _ _ h1]
def SsYes (B p : Nat) (me peer life last done acc pl seq : Int) (D : List (List UInt8)) (d : List UInt8) (w : World) (e : Ending) (w' : World) : Prop :=
  ∃ g c, e = .returned (.tuple #[.agg #[.int .i64 seq, .slice g d.length c], .bool true, .int .i64 0]) ∧ Ow w' w.heap.size (.slice g d.length c) d ∧ Ss w' B p me peer life last done acc pl D ∧ Kb w w' ∧ Below B w w'
def SsNo (B p : Nat) (me peer life last done acc pl : Int) (D : List (List UInt8)) (w : World) (e : Ending) (w' : World) : Prop :=
  e = .returned (.tuple #[.agg #[.int .i64 0, .slice none 0 0], .bool false, .int .i64 0]) ∧ Ss w' B p me peer life last done acc pl D ∧ Kb w w' ∧ Below B w w'
section
variable (p B : Nat) (me peer life last done acc pl : Int) (D : List (List UInt8)) (P : By.Pk) (ba : Option Addr) (n cap : Nat) (w : World) (h : Ss w B p me peer life last done acc pl D)
  (hn : (By.pack P).length = n) (hr : Rd w ba (By.pack P)) (hb : ba = none → n = 0) (hc : n ≤ cap) (hp : P.right) (hfr : (P.fr : Int) = peer)
include h hn hr hb hc hp hfr
theorem ss_recv_yes (hlife : pl ≤ P.life) (hack : (P.ack : Int) ≤ last) (hseq : (P.seq : Int) = acc + 1) (hacc : 0 ≤ acc ∧ acc ≤ 4611686018427387904) (hlen : D.length ≤ 1024) :
    Calls Try.prog 13 #[.pointer (some ⟨p, 0, none⟩), .slice ba n cap] w (SsYes B p me peer life last done acc P.life P.seq (D.drop (gone last P.ack D.length)) P.data w) := by
  have hlo := h.lo
  obtain ⟨hB, out, L, rfl, h1, h2, h3⟩ := h
  rw [List.length_map] at hlo hlen ⊢
  refine (recv_yes p B me peer life last done acc pl out L P ba n cap w h2 h3 hB hn hr hb hc hp hfr hlife hack hseq hacc h1 hlen).mono fun e w' ⟨g, c, out', he, ho, hs, hi, hk, hbl⟩ => ?_
  exact ⟨g, c, he, ho, ⟨hB, out', _, by rw [List.map_drop], h1.drop _ (by unfold gone; omega), hs, hi⟩, hk, hbl⟩
theorem ss_recv_no (hlife : pl ≤ P.life) (hack : (P.ack : Int) ≤ last) (hseq : (P.seq : Int) ≠ acc + 1) (hacc : 0 ≤ acc ∧ acc ≤ 4611686018427387904) (hlen : D.length ≤ 1024) :
    Calls Try.prog 13 #[.pointer (some ⟨p, 0, none⟩), .slice ba n cap] w (SsNo B p me peer life last done acc P.life (D.drop (gone last P.ack D.length)) w) := by
  have hlo := h.lo
  obtain ⟨hB, out, L, rfl, h1, h2, h3⟩ := h
  rw [List.length_map] at hlo hlen ⊢
  refine (recv_no p B me peer life last done acc pl out L P ba n cap w h2 h3 hB hn hr hb hc hp hfr hlife hack hseq hacc h1 hlen).mono fun e w' ⟨out', he, hs, hi, hk, hbl⟩ => ?_
  exact ⟨he, ⟨hB, out', _, by rw [List.map_drop], h1.drop _ (by unfold gone; omega), hs, hi⟩, hk, hbl⟩
theorem ss_recv_late (hlife : (P.life : Int) < pl) :
    Calls Try.prog 13 #[.pointer (some ⟨p, 0, none⟩), .slice ba n cap] w fun e w' => e = .returned (.tuple #[.agg #[.int .i64 0, .slice none 0 0], .bool false, .int .i64 0]) ∧ Below w.heap.size w w' := by
  obtain ⟨hB, out, L, rfl, h1, h2, h3⟩ := h
  exact recv_late p B me peer life last done acc pl out L P ba n cap w h2 h3 hB hn hr hb hc hp hfr hlife
end
theorem waiting_any (p B : Nat) (me peer life last : Int) (out : Value) (L : List It) (done acc pl : Int) (w : World) (h : Se w p me peer life last out done acc pl) (hi : Its w B out L) :
    Calls Try.prog 15 #[.pointer (some ⟨p, 0, none⟩)] w fun e w' => e = .returned (.int .i64 L.length) ∧ w = w' := by
  have cn := none_any p me peer life last out done acc pl w h
  have CN := Lib.hid cn
  have c5 := h.cell 5
  obtain ⟨g, c, rfl, _, _⟩ := hi.val
  clear h cn hi
  go_enter Try.func15, Try.ntmps15
  go_wp2_with fail
  with_reducible refine (CN.out).mono ?_
  rintro e w1 ⟨rfl, rfl⟩
  go_wp2
  go_ret
  exact ⟨rfl, rfl⟩
theorem ss_waiting (p B : Nat) (me peer life last done acc pl : Int) (D : List (List UInt8)) (w : World) (h : Ss w B p me peer life last done acc pl D) :
    Calls Try.prog 15 #[.pointer (some ⟨p, 0, none⟩)] w fun e w' => e = .returned (.int .i64 D.length) ∧ w = w' := by
  obtain ⟨hB, out, L, rfl, h1, h2, h3⟩ := h
  rw [List.length_map]
  exact waiting_any p B me peer life last out L done acc pl w h2 h3
theorem ss_peerLife (p B : Nat) (me peer life last done acc pl : Int) (D : List (List UInt8)) (w : World) (h : Ss w B p me peer life last done acc pl D) :
    Calls Try.prog 14 #[.pointer (some ⟨p, 0, none⟩)] w fun e w' => e = .returned (.int .i64 pl) ∧ w = w' := by
  obtain ⟨hB, out, L, rfl, h1, h2, h3⟩ := h
  exact peerLife_any p me peer life last out done acc pl w h2
end Go.Proofs.Ytndfelbgppbncaa
/- CopyBytes, packets, filled, by contract. -/
set_option linter.unusedVariables false
set_option linter.unusedSimpArgs false
namespace Go.Proofs.Ytndfelbgppbncaa
open Go.RowKit
def OwnPost (l : List UInt8) (w : World) (e : Ending) (w' : World) : Prop := ∃ g c, e = .returned (.slice g l.length c) ∧ Ow w' w.heap.size (.slice g l.length c) l ∧ Below w.heap.size w w'
set_option maxHeartbeats 800000 in
theorem copyBytes_any (ba : Option Addr) (n cap : Nat) (l : List UInt8) (w : World) (hn : l.length = n) (hr : Rd w ba l) (hb : ba = none → n = 0) (hl : n ≤ 1099511627776) :
    Calls Try.prog 34 #[.slice ba n cap] w (OwnPost l w) := by
  subst hn
  obtain ⟨i0, hi, hz0, hz1, hz2⟩ := info_parts Try.info_u8
  have HR := Lib.hid hr
  have HBA := Lib.hid hb
  clear hr hb
  go_enter Try.func34, Try.ntmps34
  go_wp2_with (at_builtin; refine wpList_append_rd _ rfl _ _ 25 rfl w.heap.size 5 i0 (.int .u8 0) 1 1 Try.underlying25 hi hz0 hz1 hz2 rfl (by decide) (.slice none 0 0) 0 [] rfl (World.ownsRow_nil _ _ _ _) ba l.length cap (u8s l) rfl ?c0 HBA.out ?c1 (u8s_one l) ?c3 ?c4 ?c5 ?_)
  case c0 => rw [u8s_len]; omega
  case c1 =>
    intro ad he j u hj
    have hjl : j < l.length := by have := (List.getElem?_eq_some_iff.1 hj).1; rw [u8s_len] at this; exact this
    rcases HR.out with h | ⟨b, o, e, hlt, hc⟩
    · rw [h] at hjl; simp at hjl
    · rw [he] at e; cases e
      rw [addPl, hc j hjl, ← hj]
      unfold u8s; simp [hjl]
  case c3 => unfold maxLen; omega
  case c4 => omega
  case c5 => simp
  intro v2 w2 ho2 hg2 hn2
  have hown2 : Ow w2 w.heap.size v2 l := by unfold Ow; simpa using ho2
  have hb2 : Below w.heap.size w w2 := (Below.refl _ w).grown hg2.grown (Nat.le_refl _) (by simp [Value.ownBlock])
  obtain ⟨b1, c1, rfl, _, _, _⟩ := hown2.rd
  have HO2 := Lib.hid hown2
  have HB2 := Lib.hid hb2
  clear ho2 hg2 hn2 hown2 hb2
  go_wp2
  go_ret
  exact ⟨b1, c1, rfl, HO2.out, HB2.out⟩
def datas (M : List Bt) : List (List UInt8) := M.map Bt.data
theorem datas_at (M : List Bt) (i : Nat) (h : i < M.length) : (datas M)[i]? = some M[i].data := by unfold datas; simp [h]
set_option maxHeartbeats 1600000 in
set_option maxRecDepth 100000 in
theorem packets_same (ga gb : Option Addr) (ca cb : Nat) (M N : List Bt) (w : World) (ha : Lr w ga M) (hb : Lr w gb N) (hM : M.length ≤ 1099511627776) (hN : N.length ≤ 1099511627776) (he : datas M = datas N) :
    Calls Try.prog 29 #[.slice ga M.length ca, .slice gb N.length cb] w (BB true w) := by
  have hl : M.length = N.length := by have := congrArg List.length he; simpa [datas] using this
  have hat : ∀ i (h : i < M.length) (h' : i < N.length), M[i].data = N[i].data := fun i h h' => by
    have h1 := datas_at M i h
    have h2 := datas_at N i h'
    rw [he, h2] at h1; exact (Option.some.inj h1).symm
  have hA := Lib.hid ha
  have hB := Lib.hid hb
  have HAT := Lib.hid hat
  have hle : ((M.length : Int) != (N.length : Int)) = false := by rw [hl]; simp
  have HL := Lib.hid hl
  clear ha hb he hat hl
  go_enter Try.func29, Try.ntmps29
  go_wp2
  go_loopw [5] (fun iv wr => ∃ i : Nat, i ≤ M.length ∧ iv = .int .i64 i ∧ Below w.heap.size w wr) (fun i _ => M.length - (intOf i).toNat)
  case atStart => exact ⟨0, by omega, rfl, Below.refl _ _⟩
  case round =>
    obtain ⟨i, hi, rfl, hbl⟩ := hrel
    have HBL := Lib.hid hbl
    by_cases hx : i < M.length
    · have hx' : i < N.length := by have := HL.out; omega
      have hA2 := hA.out.below hbl
      have hB2 := hB.out.below hbl
      obtain ⟨b1, o1, rfl, l1, c1⟩ := hA2.at_ i hx
      obtain ⟨b2, o2, rfl, l2, c2⟩ := hB2.at_ i hx'
      have C := Lib.hid (fun k => sameBytes_any M[i].ba N[i].ba _ _ M[i].cap N[i].cap M[i].data N[i].data (wr.drewN k) rfl ((hA2.rd _ (List.getElem_mem hx)).below (belowN (Below.refl _ _) k)) (hA2.nil _ (List.getElem_mem hx)) rfl ((hB2.rd _ (List.getElem_mem hx')).below (belowN (Below.refl _ _) k)) (hB2.nil _ (List.getElem_mem hx')))
      have hEQ := HAT.out i hx hx'
      unfold Bt.cell at c1 c2
      generalize M[i] = x at c1 C hEQ
      generalize N[i] = y at c2 C hEQ
      obtain ⟨xb, xc, xd⟩ := x
      obtain ⟨yb, yc, yd⟩ := y
      simp only at hEQ c1 c2 C
      subst hEQ
      have C2 : Hid (∀ k, Calls Try.prog 60 #[.slice xb xd.length xc, .slice yb xd.length yc] (wr.drewN k) fun e w' => e = .returned (.bool true) ∧ wr.drewN k = w') := Lib.hid (fun k => (C.out k).mono fun e w' ⟨h1, h2⟩ => ⟨by rw [h1]; simp, h2⟩)
      clear C hA2 hB2 hbl
      have hj0 : (0 : Int) ≤ (i : Int) := by omega
      have hj1 : (i : Int) < (M.length : Int) := by omega
      have hj2 : (i : Int) < (N.length : Int) := by omega
      go_wp2_with fail
      go_quiet ((go_at_call 60; exact Calls.quiet_of_same (quiet_flip (C2.out _))))
      have HB3 := Lib.hid (belowN HBL.out nq)
      go_wp2
      go_roundw
      case rel => exact ⟨i + 1, by omega, by go_num, HB3.out⟩
      case measure => simp [intOf]; omega
    · obtain rfl : i = M.length := by omega
      clear hbl
      go_wp2
      go_ret
      exact ⟨rfl, HBL.out⟩
end Go.Proofs.Ytndfelbgppbncaa
/- filled, by contract. -/
set_option linter.unusedVariables false
set_option linter.unusedSimpArgs false
namespace Go.Proofs.Ytndfelbgppbncaa
open Go.RowKit
/-- the items that are sent: the first forty, but for those that are too long -/
def fl (ll : List (List UInt8)) : List (List UInt8) := (ll.take 40).filter fun d => decide (d.length ≤ 20)
def flN (ll : List (List UInt8)) (i : Nat) : List (List UInt8) := (ll.take i).filter fun d => decide (d.length ≤ 20)
theorem flN_len (ll : List (List UInt8)) (i : Nat) : (flN ll i).length ≤ i := by
  unfold flN
  exact Nat.le_trans (List.length_filter_le _ _) (by rw [List.length_take]; omega)
theorem flN_small (ll : List (List UInt8)) (i : Nat) : ∀ d ∈ flN ll i, d.length ≤ 20 := by
  intro d hd; unfold flN at hd; have := (List.mem_filter.1 hd).2; simpa using this
theorem flN_succ (ll : List (List UInt8)) (i : Nat) (d : List UInt8) (h : ll[i]? = some d) : flN ll (i + 1) = if d.length ≤ 20 then flN ll i ++ [d] else flN ll i := by
  unfold flN
  obtain ⟨hlt, rfl⟩ := List.getElem?_eq_some_iff.1 h
  rw [List.take_succ_eq_append_getElem hlt, List.filter_append]
  by_cases hd : ll[i].length ≤ 20 <;> simp [hd]
def FilRel (w : World) (life : Int) (p : Nat) (M0 : List Bt) (av iv : Value) (wr : World) : Prop :=
  ∃ (i : Nat) (M : List Bt), i ≤ M0.length ∧ i ≤ 40 ∧ iv = .int .i64 i ∧ datas M = flN (datas M0) i ∧ Ss wr w.heap.size p 0 1 life M.length 0 0 0 (datas M) ∧ Ls wr w.heap.size av M ∧ Below w.heap.size w wr
def FilPost (life : Int) (ll : List (List UInt8)) (w : World) (e : Ending) (w' : World) : Prop :=
  ∃ p g c M, e = .returned (.tuple #[.pointer (some ⟨p, 0, none⟩), .slice g M.length c, .bool true]) ∧ datas M = fl ll ∧ Ss w' w.heap.size p 0 1 life M.length 0 0 0 (datas M) ∧ Ls w' w.heap.size (.slice g M.length c) M ∧ Below w.heap.size w w'
set_option maxHeartbeats 1600000 in
set_option maxRecDepth 100000 in
theorem filled_any (life : Int) (ba : Option Addr) (cap : Nat) (M0 : List Bt) (w : World) (h : Lr w ba M0) (hl : 1 ≤ life ∧ life ≤ 2305843009213693952) (hm : M0.length ≤ 9223372036854775807) :
    Calls Try.prog 28 #[.int .i64 life, .slice ba M0.length cap] w (FilPost life (datas M0) w) := by
  obtain ⟨i0, hi0, hz0, hz1, hz2⟩ := info_parts Try.info_bytes
  have C1 := Lib.hid (fun w => new0_any 0 1 life 0 0 w (by omega) (by omega) hl (by omega) (by omega))
  have HL := Lib.hid h
  clear h hl
  go_enter Try.func28, Try.ntmps28
  go_wp2_with fail
  with_reducible refine (C1.out _).mono ?_
  rintro e w1 ⟨p, rfl, hs1, hp1, hb1⟩
  have hss : Ss w1 w.heap.size p 0 1 life ((0 : Nat) : Int) 0 0 0 [] := ⟨hp1, _, [], rfl, ⟨by simp, fun j hj => by simp at hj⟩, hs1, ⟨World.ownsRow_nil _ _ _ _, by simp, by simp, by simp⟩⟩
  have HSS := Lib.hid hss
  have HB1 := Lib.hid hb1
  clear hs1 hb1 hss C1
  go_wp2
  go_loopw [9, 10] (fun av iv wr => FilRel w life p M0 av iv wr) (fun _ i _ => M0.length - (intOf i).toNat)
  case atStart => exact ⟨0, [], by omega, by omega, rfl, by simp [datas, flN], HSS.out, Ls.none_ _ _, HB1.out⟩
  case round =>
    obtain ⟨i, M, hi, hi40, rfl, hM, hsr, hlr, hbr⟩ := hrel
    have HM := Lib.hid hM
    have HSR := Lib.hid hsr
    have HLR := Lib.hid hlr
    have HBR := Lib.hid hbr
    have hMl : M.length ≤ 40 := by have := congrArg List.length hM; rw [datas, List.length_map] at this; have h2 := flN_len (datas M0) i; omega
    obtain ⟨ga, ca, rfl⟩ := hlr.val
    clear hM
    by_cases hx : i < M0.length ∧ i < 40
    · obtain ⟨hx1, hx2⟩ := hx
      have hin := HL.out.below (hbr.mono (Nat.le_refl _))
      obtain ⟨b, o, rfl, hlt, hc⟩ := hin.at_ i hx1
      have hbw : b < w.heap.size := by
        obtain ⟨b', o', e', hlt', _⟩ := HL.out.at_ i hx1
        cases e'; exact hlt'
      have hrd := hin.rd _ (List.getElem_mem hx1)
      have hrd0 := HL.out.rd _ (List.getElem_mem hx1)
      have hnil := hin.nil _ (List.getElem_mem hx1)
      have hsuc := flN_succ (datas M0) i M0[i].data (datas_at M0 i hx1)
      unfold Bt.cell at hc
      generalize M0[i] = x at hc hrd hrd0 hnil hsuc
      obtain ⟨xb, xc, xd⟩ := x
      simp only at hc hrd hrd0 hnil hsuc
      have hj0 : (0 : Int) ≤ (i : Int) := by omega
      have hj1 : (i : Int) < (M0.length : Int) := by omega
      have hj2 : (i : Int) < 40 := by omega
      by_cases hd : xd.length ≤ 20
      · rw [if_pos hd] at hsuc
        have HSUC := Lib.hid hsuc
        have hd2 : ¬ (20 : Int) < (xd.length : Int) := by omega
        have hap : xd ≠ [] → ∀ b o, xb = some (⟨b, o, none⟩ : Addr) → b ≠ p := by
          intro hne b' o' e
          rcases hrd0 with h1 | ⟨b2, o2, e2, hlt2, _⟩
          · exact absurd h1 hne
          · rw [e] at e2; cases e2
            have := HSR.out.ge; omega
        have CS := Lib.hid (ss_send p w.heap.size 0 1 life M.length 0 0 0 (datas M) xb xd.length xc xd wr hsr (by omega) rfl hrd hnil hap (by rw [datas, List.length_map]; omega) (by omega))
        have HRD := Lib.hid hrd0
        clear hrd hrd0 hap hsuc hsr hlr hin
        go_wp2_with fail
        with_reducible refine (CS.out).mono ?_
        rintro e w2 ⟨rfl, hs2, hk2, hb2⟩
        have HS2 := Lib.hid hs2
        have HB2 := Lib.hid (hbr.trans hb2)
        have HL2 := Lib.hid (HLR.out.kept hk2)
        have hc2 : w2.cell? ⟨b, o + i, none⟩ = some (.slice xb xd.length xc) := by rw [hb2.cell (p := ⟨b, o + i, none⟩) hbw]; exact hc
        have hlt2 : b < w2.heap.size := Nat.lt_of_lt_of_le hlt hb2.size
        have CC := Lib.hid (copyBytes_any xb xd.length xc xd w2 rfl (HRD.out.below HB2.out) hnil (by omega))
        clear hs2 hk2 hb2 CS
        go_wp2_with fail
        with_reducible refine (CC.out).mono ?_
        rintro e w3 ⟨g3, c3, rfl, ho3, hb3⟩
        have HS3 := Lib.hid (HS2.out.below hb3)
        have HB3 := Lib.hid (HB2.out.trans (hb3.mono HB2.out.size))
        have HL3 := Lib.hid (HL2.out.below hb3)
        have HO3 := Lib.hid ho3
        have hz3 : w.heap.size ≤ w3.heap.size := HB3.out.size
        clear ho3 hb3 CC
        go_wp2_with (at_builtin; refine wpList_append_gw _ rfl _ _ 48 rfl w.heap.size 25 i0 (.slice none 0 0) 1 24 Try.underlying48 hi0 hz0 hz1 hz2 rfl (by decide) _ M.length (bcells M) rfl (HL3.out.own.alloc _) ⟨w3.heap.size, 0, none⟩ 1 1 [.slice g3 xd.length c3] rfl rfl ?_ ?_ ?_ ?_ ?_ ?_)
        · intro j u hj
          exact cells_new _ #[.slice g3 xd.length c3] _ _ rfl j u (by simpa using hj)
        · intro u hu; simp only [List.mem_singleton] at hu; subst hu; rfl
        · unfold maxLen; omega
        · omega
        · simp; omega
        intro v6 w6 hown6 hg6 hn6
        obtain ⟨b7, c7, e7, r7, n7, q7⟩ := HO3.out.rt
        cases e7
        have hbn : Below w3.heap.size w3 (w3.alloc (.cells #[.slice g3 xd.length c3] 25)) := (Below.refl _ _).alloc (Nat.le_refl _) _
        have hls6 : Ls w6 w.heap.size v6 (M ++ [⟨g3, c3, xd⟩]) := (HL3.out.below hbn).snoc (x := ⟨g3, c3, xd⟩) (r7.kept (Kb.below hbn)) n7 q7 hown6 hg6
        have hb6 : Below w.heap.size w w6 := below_row (HB3.out.trans (hbn.mono hz3)) hg6.grown (by simp; omega) (fun k hk => (HL3.out.own.lt k hk).1)
        have hs6 := (HS3.out.below hbn).gw (HL3.out.own.alloc _) hg6
        obtain ⟨g6, c6, rfl⟩ := hls6.val
        have HLS6 := Lib.hid hls6
        have HB6 := Lib.hid hb6
        have HS6 := Lib.hid hs6
        clear hown6 hg6 hn6 r7 n7 q7 hbn hls6 hb6 hs6
        go_wp2
        go_roundw
        case rel => exact ⟨i + 1, M ++ [⟨g3, c3, xd⟩], by omega, by omega, by go_num, by unfold datas at *; rw [HSUC.out, List.map_append, HM.out]; rfl, by unfold datas at *; simpa using HS6.out, by simpa using HLS6.out, HB6.out⟩
        case measure => simp [intOf]; omega
      · rw [if_neg hd] at hsuc
        have HSUC := Lib.hid hsuc
        have hd2 : (20 : Int) < (xd.length : Int) := by omega
        clear hrd hrd0 hsuc hsr hlr hbr hin
        go_wp2
        go_roundw
        case rel => exact ⟨i + 1, M, by omega, by omega, by go_num, by rw [HSUC.out, HM.out], HSR.out, HLR.out, HBR.out⟩
        case measure => simp [intOf]; omega
    · have hfin : flN (datas M0) i = fl (datas M0) := by
        unfold flN fl
        rcases Nat.lt_or_ge i 40 with h1 | h1
        · have h2 : i = M0.length := by omega
          rw [List.take_of_length_le (by unfold datas; rw [List.length_map]; omega), List.take_of_length_le (by unfold datas; rw [List.length_map]; omega)]
        · obtain rfl : i = 40 := by omega
          rfl
      have HF := Lib.hid hfin
      clear hfin hsr hlr hbr
      rcases Nat.lt_or_ge i M0.length with h1 | h1
      · have h2 : ¬ (i : Int) < 40 := by omega
        have h3 : (i : Int) < (M0.length : Int) := by omega
        clear hx
        go_wp2
        go_ret3
        exact ⟨p, ga, ca, M, rfl, by rw [HM.out, HF.out], HSR.out, HLR.out, HBR.out⟩
      · have h3 : ¬ (i : Int) < (M0.length : Int) := by omega
        clear hx
        go_wp2
        go_ret3
        exact ⟨p, ga, ca, M, rfl, by rw [HM.out, HF.out], HSR.out, HLR.out, HBR.out⟩
end Go.Proofs.Ytndfelbgppbncaa
/- copied, Link, by contract. -/
set_option linter.unusedVariables false
set_option linter.unusedSimpArgs false
namespace Go.Proofs.Ytndfelbgppbncaa
open Go.RowKit
/-- items that are read -/
def Ir (w : World) (g : Option Addr) (L : List It) : Prop := L = [] ∨ ∃ k, g = some (⟨k, 0, none⟩ : Addr) ∧ Src w k L
theorem Ir.below {w w' : World} {g : Option Addr} {L : List It} (h : Ir w g L) (hb : Below w.heap.size w w') : Ir w' g L := by
  rcases h with h | ⟨k, e, h⟩
  · exact Or.inl h
  · exact Or.inr ⟨k, e, h.below hb⟩
theorem Its.ir {w : World} {B : Nat} {g : Option Addr} {n c : Nat} {L : List It} (h : Its w B (.slice g n c) L) : Ir w g L := by
  by_cases hL : L = []
  · exact Or.inl hL
  · obtain ⟨g', c', e, hg, _⟩ := h.val
    obtain ⟨k, rfl, hk, _⟩ := hg hL
    cases e
    exact Or.inr ⟨k, rfl, hk, fun i hi' => (it_cells h i hi').1, fun i hi' => (it_cells h i hi').2, fun x hx => (h.rd x hx).rd, h.nil⟩
def keys (L : List It) : List (Int × List UInt8) := L.map fun x => (x.seq, x.data)
theorem keys_len (L : List It) : (keys L).length = L.length := by unfold keys; simp
def CpPost (last done : Int) (L : List It) (w : World) (e : Ending) (w' : World) : Prop :=
  ∃ g c L', e = .returned (.agg #[.int .i64 last, .slice g L'.length c, .int .i64 done]) ∧ Its w' w.heap.size (.slice g L'.length c) L' ∧ keys L' = keys L ∧ Below w.heap.size w w'
def CpRel (W0 : World) (q : Nat) (last done : Int) (L : List It) (iv : Value) (wr : World) : Prop :=
  ∃ (g : Option Addr) (c : Nat) (L' : List It), L'.length ≤ L.length ∧ iv = .int .i64 L'.length ∧ keys L' = keys (L.take L'.length) ∧ Blk wr q #[.int .i64 last, .slice g L'.length c, .int .i64 done] 24 ∧ Its wr W0.heap.size (.slice g L'.length c) L' ∧ Below q W0 wr
theorem keys_snoc {L L' : List It} {x : It} {b : Option Addr} {c : Nat} (h : L'.length < L.length) (hk : keys L' = keys (L.take L'.length)) (hx : L[L'.length]'h = x) : keys (L' ++ [⟨x.seq, b, c, x.data⟩]) = keys (L.take (L'.length + 1)) := by
  rw [List.take_succ_eq_append_getElem h]
  unfold keys at *
  rw [List.map_append, List.map_append, hk, hx]; rfl
set_option maxHeartbeats 3200000 in
set_option maxRecDepth 100000 in
theorem copied_any (last done : Int) (ga : Option Addr) (ca : Nat) (L : List It) (w : World) (h : Ir w ga L) (hlen : L.length ≤ 1024) (hdl : ∀ x ∈ L, x.data.length ≤ 1048576) :
    Calls Try.prog 47 #[.agg #[.int .i64 last, .slice ga L.length ca, .int .i64 done]] w (CpPost last done L w) := by
  obtain ⟨i0, hi0, hz0, hz1, hz2⟩ := info_parts Try.info_item
  have HI := Lib.hid h
  have HD := Lib.hid hdl
  clear h hdl
  go_enter Try.func47, Try.ntmps47
  go_wp2
  have hb0 : Below w.heap.size w (((w.alloc (.cells #[.int .i64 last, .slice ga L.length ca, .int .i64 done] 24)).alloc (.cells #[.int .i64 0, .slice none 0 0, .int .i64 0] 24)).alloc (.cells #[.int .i64 last, .slice none 0 0, .int .i64 done] 24)) := (((Below.refl _ _).alloc (Nat.le_refl _) _).alloc (by simp) _).alloc (by simp; omega) _
  have hr0 : Blk (((w.alloc (.cells #[.int .i64 last, .slice ga L.length ca, .int .i64 done] 24)).alloc (.cells #[.int .i64 0, .slice none 0 0, .int .i64 0] 24)).alloc (.cells #[.int .i64 last, .slice none 0 0, .int .i64 done] 24)) (w.heap.size + 1) #[.int .i64 0, .slice none 0 0, .int .i64 0] 24 := by
    have := (Blk.new (w.alloc (.cells #[.int .i64 last, .slice ga L.length ca, .int .i64 done] 24)) #[.int .i64 0, .slice none 0 0, .int .i64 0] 24).below ((Below.refl _ _).alloc (Nat.le_refl _) (.cells #[.int .i64 last, .slice none 0 0, .int .i64 done] 24))
    simpa using this
  have hq0 : Blk (((w.alloc (.cells #[.int .i64 last, .slice ga L.length ca, .int .i64 done] 24)).alloc (.cells #[.int .i64 0, .slice none 0 0, .int .i64 0] 24)).alloc (.cells #[.int .i64 last, .slice none 0 0, .int .i64 done] 24)) (w.heap.size + 1 + 1) #[.int .i64 last, .slice none 0 0, .int .i64 done] 24 := by
    have := Blk.new ((w.alloc (.cells #[.int .i64 last, .slice ga L.length ca, .int .i64 done] 24)).alloc (.cells #[.int .i64 0, .slice none 0 0, .int .i64 0] 24)) #[.int .i64 last, .slice none 0 0, .int .i64 done] 24
    simpa using this
  have hwr : w.heap.size < w.heap.size + 1 := by omega
  have hrq : w.heap.size + 1 < w.heap.size + 1 + 1 := by omega
  have hqs := hq0.lt
  have HB0 := Lib.hid hb0
  have HR0 := Lib.hid hr0
  have HQ0 := Lib.hid hq0
  clear hb0 hr0 hq0
  generalize ((w.alloc (.cells #[.int .i64 last, .slice ga L.length ca, .int .i64 done] 24)).alloc (.cells #[.int .i64 0, .slice none 0 0, .int .i64 0] 24)).alloc (.cells #[.int .i64 last, .slice none 0 0, .int .i64 done] 24) = W0 at HB0 HR0 HQ0 hqs ⊢
  generalize w.heap.size + 1 + 1 = q at hrq HQ0 hqs ⊢
  generalize w.heap.size + 1 = r at hwr hrq HR0 ⊢
  go_loopw [14] (fun iv wr => CpRel W0 q last done L iv wr) (fun i _ => L.length - (intOf i).toNat)
  case atStart => exact ⟨none, 0, [], by simp, rfl, rfl, HQ0.out, ⟨World.ownsRow_nil _ _ _ _, by simp, by simp, by simp⟩, Below.refl _ _⟩
  case round =>
    obtain ⟨g, c, L', hle, rfl, hk, hq, hits, hbq⟩ := hrel
    have hbw : Below w.heap.size w wr := HB0.out.trans (hbq.mono (by omega))
    have HK := Lib.hid hk
    have HQ := Lib.hid hq
    have HIT := Lib.hid hits
    have HBQ := Lib.hid hbq
    have HBW := Lib.hid hbw
    have hqw := hq.lt
    by_cases hx : L'.length < L.length
    · have hir := HI.out.below hbw
      obtain ⟨k, rfl, hsrc⟩ : ∃ k, ga = some (⟨k, 0, none⟩ : Addr) ∧ Src wr k L := by
        rcases hir with h | h
        · rw [h] at hx; simp at hx
        · exact h
      have d0 := hsrc.c0 L'.length hx
      have d1 := hsrc.c1 L'.length hx
      have hkl := hsrc.lt
      have hrd := hsrc.rd _ (List.getElem_mem hx)
      have hni := hsrc.nil _ (List.getElem_mem hx)
      have hdl := HD.out _ (List.getElem_mem hx)
      have hsn := fun b c => keys_snoc (b := b) (c := c) hx hk rfl
      generalize L[L'.length] = x at d0 d1 hrd hni hsn hdl
      obtain ⟨sq, xb, xc, xd⟩ := x
      simp only at d0 d1 hrd hni hsn hdl
      have HSN := Lib.hid hsn
      have hb1 : Below wr.heap.size wr (wr.alloc (.cells #[.int .i64 sq, .slice xb xd.length xc] 27)).drew := ((Below.refl _ _).alloc (Nat.le_refl _) _).drew
      have HB1 := Lib.hid hb1
      have HRD := Lib.hid (hrd.below hb1)
      have HNI := Lib.hid hni
      have hx5 : Blk (wr.alloc (.cells #[.int .i64 sq, .slice xb xd.length xc] 27)).drew wr.heap.size #[.int .i64 sq, .slice xb xd.length xc] 27 := Blk.new _ _ _
      have HX5 := Lib.hid hx5
      have HQ1 := Lib.hid (hq.below hb1)
      have hj0 : (0 : Int) ≤ (L'.length : Int) := by omega
      have hj1 : (L'.length : Int) < (L.length : Int) := by omega
      clear hk hq hits hbq hbw hir hsrc hrd hni hsn hb1 hx5
      go_wp2_with fail
      refine wp_region_T_drew (fun w' => w'.cell? ⟨q, 1, none⟩ = some (.slice g L'.length c) ∧ w'.cell? ⟨wr.heap.size, 0, none⟩ = some (.int .i64 sq) ∧ w'.cell? ⟨wr.heap.size, 1, none⟩ = some (.slice xb xd.length xc)) 11 (by kernel_rfl) ⟨HQ1.out.cell 1, HX5.out.cell 0, HX5.out.cell 1⟩ (fun hS => ?_)
      refine wpAnyT_take 0 rfl (by kernel_rfl) (by kernel_rfl) (by decide) (by kernel_rfl) (by kernel_rfl) (fun _ _ _ h => h) hS (by kernel_rfl) (v := ?_) ?_ ?_
      rotate_left
      · intro w' hSw; (try dsimp only at hSw); go_simp; (try with_reducible rfl)
      simp only [Act.put, List.setIfInBounds_toArray, List.set_cons_zero, List.set_cons_succ]
      refine wpAnyT_take 1 rfl (by kernel_rfl) (by kernel_rfl) (by decide) (by kernel_rfl) (by kernel_rfl) (fun _ _ _ h => h) hS (by kernel_rfl) (v := ?_) ?_ ?_
      rotate_left
      · intro w' hSw; (try dsimp only at hSw); go_simp; (try with_reducible rfl)
      simp only [Act.put, List.setIfInBounds_toArray, List.set_cons_zero, List.set_cons_succ]
      refine wpAnyT_take 2 rfl (by kernel_rfl) (by kernel_rfl) (by decide) (by kernel_rfl) (by kernel_rfl) (fun _ _ _ h => h) hS (by kernel_rfl) (v := ?_) ?_ ?_
      rotate_left
      · intro w' hSw; (try dsimp only at hSw); go_simp; (try with_reducible rfl)
      simp only [Act.put, List.setIfInBounds_toArray, List.set_cons_zero, List.set_cons_succ]
      refine wpAnyT_take 3 rfl (by kernel_rfl) (by kernel_rfl) (by decide) (by kernel_rfl) (by kernel_rfl) (fun _ _ _ h => h) hS (by kernel_rfl) (v := ?_) ?_ ?_
      rotate_left
      · intro w' hSw; (try dsimp only at hSw); go_simp; (try with_reducible rfl)
      simp only [Act.put, List.setIfInBounds_toArray, List.set_cons_zero, List.set_cons_succ]
      refine wpAnyT_take 4 rfl (by kernel_rfl) (by kernel_rfl) (by decide) (by kernel_rfl) (by kernel_rfl) (fun _ _ _ h => h) hS (by kernel_rfl) (v := ?_) ?_ ?_
      rotate_left
      · intro w' hSw; (try dsimp only at hSw); go_simp; (try with_reducible rfl)
      simp only [Act.put, List.setIfInBounds_toArray, List.set_cons_zero, List.set_cons_succ]
      refine wpAnyT_take 5 rfl (by kernel_rfl) (by kernel_rfl) (by decide) (by kernel_rfl) (by kernel_rfl) (fun _ _ _ h => h) hS (by kernel_rfl) (v := ?_) ?_ ?_
      rotate_left
      · intro w' hSw; (try dsimp only at hSw); go_simp; (try with_reducible rfl)
      simp only [Act.put, List.setIfInBounds_toArray, List.set_cons_zero, List.set_cons_succ]
      refine wpAnyT_one 6 (by kernel_rfl) rfl (by kernel_rfl) (fun K hK => ?_)
      go_simp
      refine (bclone_rt xb xd.length xc xd _ rfl HRD.out HNI.out (by omega)).mono ?_
      rintro e w5 ⟨b5, c5, rfl, ho5, hb5⟩
      have HQ5 := Lib.hid (HQ1.out.below hb5)
      have hX := HX5.out.below hb5
      have hS : _ ∧ _ ∧ _ := ⟨HQ5.out.cell 1, hX.cell 0, hX.cell 1⟩
      have HX6 := Lib.hid hX
      have HO5 := Lib.hid ho5
      have HB5 := Lib.hid (HB1.out.trans (hb5.mono HB1.out.size))
      have hz5 : wr.heap.size ≤ w5.heap.size := HB5.out.size
      clear ho5 hb5 hX
      refine hK _ _ (fun _ => hS) ?_
      clear hK K
      refine wpAnyT_take 7 rfl (by kernel_rfl) (by kernel_rfl) (by decide) (by kernel_rfl) (by kernel_rfl) (fun _ _ _ h => h) hS (by kernel_rfl) (v := ?_) ?_ ?_
      rotate_left
      · intro w' hSw; (try dsimp only at hSw); go_simp; (try with_reducible rfl)
      simp only [Act.put, List.setIfInBounds_toArray, List.set_cons_zero, List.set_cons_succ]
      refine wpAnyT_one 8 (by kernel_rfl) rfl (by kernel_rfl) (fun K hK => ?_)
      go_simp
      have hba : Below w5.heap.size w5 (w5.alloc (.cells #[.int .i64 sq, .slice b5 xd.length c5] 27)) := (Below.refl _ _).alloc (Nat.le_refl _) _
      have HQ6 := Lib.hid (HQ5.out.below hba)
      have hX := HX6.out.below hba
      have hS : _ ∧ _ ∧ _ := ⟨HQ6.out.cell 1, hX.cell 0, hX.cell 1⟩
      have HBA := Lib.hid hba
      clear hba hX
      refine hK _ _ (fun _ => hS) ?_
      clear hK K
      refine wpAnyT_one 9 (by kernel_rfl) rfl (by kernel_rfl) (fun K hK => ?_)
      have hI6 := (HIT.out.below HB5.out).below HBA.out
      refine op_append_gw _ (.tmp 19) (.tmp 26) 22 rfl W0.heap.size 27 i0 _ 2 32 Try.underlying22 hi0 hz0 hz1 hz2 rfl (by decide) (.slice g L'.length c) L'.length (icells L') rfl hI6.own ⟨w5.heap.size, 0, none⟩ 1 1 [.int .i64 sq, .slice b5 xd.length c5] rfl rfl ?_ ?_ ?_ ?_ ?_ ?_
      · intro j u hj
        exact cells_new _ #[.int .i64 sq, .slice b5 xd.length c5] _ _ rfl j u (by simpa using hj)
      · intro u hu; simp only [List.mem_cons, List.not_mem_nil, or_false] at hu; rcases hu with rfl | rfl <;> rfl
      · unfold maxLen; omega
      · omega
      · have := HBQ.out.size; simp; omega
      intro v6 w6 hown6 hg6 hn6
      obtain ⟨g6, cap6, rfl⟩ : ∃ g6 cap6, v6 = Value.slice (some ⟨g6, 0, none⟩) (L'.length + 1) cap6 := by
        rcases hown6.2 with ⟨_, h0⟩ | ⟨g6, cap6, _, e6, _⟩
        · omega
        · exact ⟨g6, cap6, e6⟩
      have hk6 : Kb (w5.alloc (.cells #[.int .i64 sq, .slice b5 xd.length c5] 27)) w6 := Kb.gw hI6.own (by decide) (by decide) hg6
      have hq6 := HQ6.out.kept hg6.grown (own_ne hI6.own HQ6.out (by decide))
      have hits6 : Its w6 W0.heap.size (.slice (some ⟨g6, 0, none⟩) (L'.length + 1) cap6) (L' ++ [⟨sq, b5, c5, xd⟩]) := by
        obtain ⟨b3, c3, e3, r3, n3, m3⟩ := HO5.out.rt
        cases e3
        refine ⟨by rw [icells_snoc, List.length_append]; exact hown6, fun x hx => ?_, fun x hx => ?_, fun x hx => ?_⟩
        · rcases List.mem_append.1 hx with hx | hx
          · exact (hI6.rd x hx).kept hk6
          · obtain rfl := List.mem_singleton.1 hx; exact (r3.kept (Kb.below HBA.out)).kept hk6
        · rcases List.mem_append.1 hx with hx | hx
          · exact hI6.nil x hx
          · obtain rfl := List.mem_singleton.1 hx; exact n3
        · rcases List.mem_append.1 hx with hx | hx
          · exact hI6.cap x hx
          · obtain rfl := List.mem_singleton.1 hx; exact m3
      have hbq6 : Below q W0 w6 := by
        have h1 : Below q W0 (w5.alloc (.cells #[.int .i64 sq, .slice b5 xd.length c5] 27)) := (HBQ.out.trans (HB5.out.mono (by omega))).trans (HBA.out.mono (by omega))
        exact below_row h1 hg6.grown (by simp; omega) (fun k hk => by have := (hI6.own.lt k hk).1; omega)
      have hx6 : wr.heap.size < w6.heap.size := by
        have h1 := hg6.grown.size
        simp at h1; omega
      have hS : _ ∧ True := ⟨hq6.cell 1, trivial⟩
      have HQ7 := Lib.hid hq6
      have HI7 := Lib.hid hits6
      have HB7 := Lib.hid hbq6
      have hXk : Blk w6 wr.heap.size #[.int .i64 sq, .slice xb xd.length xc] 27 := (HX6.out.below HBA.out).kept hg6.grown (fun e => by
        have h1 := HIT.out.own.lt wr.heap.size e.symm
        omega)
      have hS2 : _ ∧ _ ∧ _ := ⟨hq6.cell 1, hXk.cell 0, hXk.cell 1⟩
      have z1 := hq6.cell 1
      have zf := fun o => hq6.free o
      have zl := hq6.lt
      clear hown6 hg6 hn6 hI6 hk6 hq6 hits6 hbq6 hXk hS
      have hS := hS2
      refine hK _ _ (fun _ => hS) ?_
      clear hK K
      refine wpAnyT_take 10 rfl (by kernel_rfl) (by kernel_rfl) (by decide) (by kernel_rfl) (by kernel_rfl) (fun _ _ _ h => h) hS (by kernel_rfl) (v := ?_) ?_ ?_
      rotate_left
      · intro w' hSw; (try dsimp only at hSw); go_simp; (try with_reducible rfl)
      simp only [Act.put, List.setIfInBounds_toArray, List.set_cons_zero, List.set_cons_succ]
      refine wpAnyT_one 11 (by kernel_rfl) rfl (by kernel_rfl) (fun K hK => ?_)
      go_simp
      refine hK _ _ (fun h => absurd rfl h) ?_
      clear hK K
      refine wpAnyT_done (by kernel_rfl) ?_
      have hgr := grown_set (grown_refl w6 (some q)) 1 (.slice (some ⟨g6, 0, none⟩) (L'.length + 1) cap6)
      have hk8 := Kb.grown HQ7.out (by decide) (by decide) hgr
      have HI8 := Lib.hid (HI7.out.turned hk8 hgr (fun k hk e => own_ne HI7.out.own HQ7.out (by decide) (e.trans hk.symm)))
      have HB8 := Lib.hid (below_row HB7.out hgr (by omega) (fun k hk => by have := Option.some.inj hk; omega))
      have HQ8 := Lib.hid (HQ7.out.set 1 (.slice (some ⟨g6, 0, none⟩) (L'.length + 1) cap6))
      clear hgr hk8 hS hS2 z1 zf zl
      go_wp2
      go_roundw
      case rel => exact ⟨_, _, L' ++ [⟨sq, b5, c5, xd⟩], by simp; omega, by rw [List.length_append]; go_num, by rw [List.length_append]; exact HSN.out b5 c5, by rw [List.length_append]; exact HQ8.out, by rw [List.length_append]; exact HI8.out, HB8.out⟩
      case measure => simp [intOf]; omega
    · have hle2 : L'.length = L.length := by omega
      have hj2 : ¬ (L'.length : Int) < (L.length : Int) := by omega
      have c0 := hq.cell 0
      have c1 := hq.cell 1
      have c2 := hq.cell 2
      have hr1 : Blk wr r #[.int .i64 0, .slice none 0 0, .int .i64 0] 24 := by
        have h1 := HR0.out
        unfold Blk at h1 ⊢
        rw [hbq.block r hrq]; exact h1
      have rf := fun o => hr1.free o
      have rl := hr1.lt
      have r0 := hr1.cell 0
      have r1 := hr1.cell 1
      have r2 := hr1.cell 2
      have hg3 := grown_set (grown_set (grown_set (grown_refl wr (some r)) 0 (.int .i64 last)) 1 (.slice g L'.length c)) 2 (.int .i64 done)
      have hk3 := Kb.grown hr1 (by decide) (by decide) hg3
      have hI3 := HIT.out.turned hk3 hg3 (fun k hk e => own_ne HIT.out.own hr1 (by decide) (e.trans hk.symm))
      have hB3 := below_row HBW.out hg3 HBW.out.size (fun k hk => by have := Option.some.inj hk; omega)
      have HI3 := Lib.hid hI3
      have HB3 := Lib.hid hB3
      have HLE := Lib.hid hle2
      clear hk hq hits hbq hbw hr1 hg3 hk3 hI3 hB3 hle2
      go_wp2
      have hkk := HK.out
      rw [HLE.out, List.take_length] at hkk
      exact bodyPost_ret (v := .agg #[.int .i64 last, .slice g L'.length c, .int .i64 done]) (by unfold results; rw [Try.results47]; go_simp) rfl ⟨g, c, L', rfl, ⟨HI3.out.own.mono HB0.out.size, HI3.out.rd, HI3.out.nil, HI3.out.cap⟩, hkk, HB3.out⟩
end Go.Proofs.Ytndfelbgppbncaa
/- Link, SameLink, by contract. -/
set_option linter.unusedVariables false
set_option linter.unusedSimpArgs false
namespace Go.Proofs.Ytndfelbgppbncaa
open Go.RowKit
set_option maxHeartbeats 1600000 in
set_option maxRecDepth 100000 in
theorem link_any (p B : Nat) (me peer life last done acc pl : Int) (out : Value) (L : List It) (w : World) (h : Se w p me peer life last out done acc pl) (hi : Its w B out L) (hlen : L.length ≤ 1024) (hdl : ∀ x ∈ L, x.data.length ≤ 1048576) :
    Calls Try.prog 21 #[.pointer (some ⟨p, 0, none⟩)] w (CpPost last done L w) := by
  obtain ⟨ga, ca, rfl, _, _⟩ := hi.val
  have hb1 : Below w.heap.size w (w.alloc (.cells #[.int .i64 0, .slice none 0 0, .int .i64 0] 24)) := (Below.refl _ _).alloc (Nat.le_refl _) _
  have h2 := h.below hb1
  have CN := Lib.hid (none_any p me peer life last (.slice ga L.length ca) done acc pl _ h2)
  have CC := Lib.hid (copied_any last done ga ca L (w.alloc (.cells #[.int .i64 0, .slice none 0 0, .int .i64 0] 24)) (hi.ir.below hb1) hlen hdl)
  have c4 := h2.cell 4
  have c5 := h2.cell 5
  have c6 := h2.cell 6
  have hlt := h.lt
  clear h h2 hb1 hi
  go_enter Try.func21, Try.ntmps21
  go_wp2_with fail
  with_reducible refine (CN.out).mono ?_
  rintro e w1 ⟨rfl, rfl⟩
  go_wp2_with fail
  with_reducible refine (CC.out).mono ?_
  rintro e w2 ⟨g, c, L', rfl, hits, hk, hb2⟩
  have hr := (Blk.new w #[.int .i64 0, .slice none 0 0, .int .i64 0] 24).below hb2
  have rf := fun o => hr.free o
  have rl := hr.lt
  have r0 := hr.cell 0
  have r1 := hr.cell 1
  have r2 := hr.cell 2
  have hg3 := grown_set (grown_set (grown_set (grown_refl w2 (some w.heap.size)) 0 (.int .i64 last)) 1 (.slice g L'.length c)) 2 (.int .i64 done)
  have hk3 := Kb.grown hr (by decide) (by decide) hg3
  have hI3 := hits.turned hk3 hg3 (fun k hk e => own_ne hits.own hr (by decide) (e.trans hk.symm))
  have hB3 := below_row (((Below.refl w.heap.size w).alloc (Nat.le_refl _) _).trans (hb2.mono (by simp))) hg3 (by omega) (fun k hk => by have := Option.some.inj hk; omega)
  have HI3 := Lib.hid hI3
  have HB3 := Lib.hid hB3
  have HK := Lib.hid hk
  clear hr hg3 hk3 hI3 hB3 hits hk hb2 c4 c5 c6
  go_wp2
  exact bodyPost_ret (v := .agg #[.int .i64 last, .slice g L'.length c, .int .i64 done]) (by unfold results; rw [Try.results21]; go_simp) rfl ⟨g, c, L', rfl, ⟨HI3.out.own.mono (by simp), HI3.out.rd, HI3.out.nil, HI3.out.cap⟩, HK.out, HB3.out⟩
theorem keys_at {L L' : List It} (h : keys L = keys L') (i : Nat) (hi : i < L.length) (hi' : i < L'.length) : L[i].seq = L'[i].seq ∧ L[i].data = L'[i].data := by
  have h1 : (keys L)[i]? = some (L[i].seq, L[i].data) := by unfold keys; simp [hi]
  have h2 : (keys L')[i]? = some (L'[i].seq, L'[i].data) := by unfold keys; simp [hi']
  rw [h, h2] at h1
  have := Option.some.inj h1
  exact ⟨(congrArg Prod.fst this).symm, (congrArg Prod.snd this).symm⟩
set_option maxHeartbeats 1600000 in
set_option maxRecDepth 100000 in
theorem sameLink_yes (last done : Int) (ga gb : Option Addr) (ca cb : Nat) (L N : List It) (w : World) (ha : Ir w ga L) (hb : Ir w gb N) (he : keys L = keys N) (hlen : L.length ≤ 1024) :
    Calls Try.prog 20 #[.agg #[.int .i64 last, .slice ga L.length ca, .int .i64 done], .agg #[.int .i64 last, .slice gb N.length cb, .int .i64 done]] w (BB true w) := by
  have hl : L.length = N.length := by have := congrArg List.length he; rwa [keys_len, keys_len] at this
  have hA := Lib.hid ha
  have hB := Lib.hid hb
  have HE := Lib.hid he
  have HL := Lib.hid hl
  have hle : ((L.length : Int) != (N.length : Int)) = false := by rw [hl]; simp
  clear ha hb he hl
  go_enter Try.func20, Try.ntmps20
  go_wp2
  have hb0 : Below w.heap.size w ((w.alloc (.cells #[.int .i64 last, .slice ga L.length ca, .int .i64 done] 24)).alloc (.cells #[.int .i64 last, .slice gb N.length cb, .int .i64 done] 24)) := ((Below.refl _ _).alloc (Nat.le_refl _) _).alloc (by simp) _
  have hx0 := (Blk.new w #[.int .i64 last, .slice ga L.length ca, .int .i64 done] 24).below ((Below.refl _ _).alloc (Nat.le_refl _) (.cells #[.int .i64 last, .slice gb N.length cb, .int .i64 done] 24))
  have hy0 := Blk.new (w.alloc (.cells #[.int .i64 last, .slice ga L.length ca, .int .i64 done] 24)) #[.int .i64 last, .slice gb N.length cb, .int .i64 done] 24
  have e1 : (w.alloc (.cells #[.int .i64 last, .slice ga L.length ca, .int .i64 done] 24)).heap.size = w.heap.size + 1 := by simp
  rw [e1] at hy0
  have HB0 := Lib.hid hb0
  have HX0 := Lib.hid hx0
  have HY0 := Lib.hid hy0
  clear hb0 hx0 hy0 e1
  generalize (w.alloc (.cells #[.int .i64 last, .slice ga L.length ca, .int .i64 done] 24)).alloc (.cells #[.int .i64 last, .slice gb N.length cb, .int .i64 done] 24) = W0 at HB0 HX0 HY0 ⊢
  generalize hy : w.heap.size + 1 = y at HY0 ⊢
  clear hy
  go_loopw [5] (fun iv wr => ∃ i : Nat, i ≤ L.length ∧ iv = .int .i64 i ∧ Below W0.heap.size W0 wr) (fun i _ => L.length - (intOf i).toNat)
  case atStart => exact ⟨0, by omega, rfl, Below.refl _ _⟩
  case round =>
    obtain ⟨i, hi, rfl, hbl⟩ := hrel
    have hx := HX0.out.below hbl
    have hy := HY0.out.below hbl
    have hx1 := hx.cell 1
    have hy1 := hy.cell 1
    have hbw := HB0.out.trans (hbl.mono HB0.out.size)
    have HBL := Lib.hid hbl
    have hxl := hx.lt
    have hyl := hy.lt
    by_cases hlt : i < L.length
    · have hlt' : i < N.length := by have := HL.out; omega
      have hA2 := hA.out.below hbw
      have hB2 := hB.out.below hbw
      obtain ⟨k1, rfl, s1⟩ : ∃ k, ga = some (⟨k, 0, none⟩ : Addr) ∧ Src wr k L := by
        rcases hA2 with h | h
        · rw [h] at hlt; simp at hlt
        · exact h
      obtain ⟨k2, rfl, s2⟩ : ∃ k, gb = some (⟨k, 0, none⟩ : Addr) ∧ Src wr k N := by
        rcases hB2 with h | h
        · rw [h] at hlt'; simp at hlt'
        · exact h
      have a0 := s1.c0 i hlt
      have a1 := s1.c1 i hlt
      have b0 := s2.c0 i hlt'
      have b1 := s2.c1 i hlt'
      have l1 := s1.lt
      have l2 := s2.lt
      obtain ⟨q1, q2⟩ := keys_at HE.out i hlt hlt'
      have r1 := s1.rd _ (List.getElem_mem hlt)
      have r2 := s2.rd _ (List.getElem_mem hlt')
      have n1 := s1.nil _ (List.getElem_mem hlt)
      have n2 := s2.nil _ (List.getElem_mem hlt')
      generalize L[i] = x at a0 a1 q1 q2 r1 n1
      generalize N[i] = y at b0 b1 q1 q2 r2 n2
      obtain ⟨xs, xb, xc, xd⟩ := x
      obtain ⟨ys, yb, yc, yd⟩ := y
      simp only at a0 a1 b0 b1 q1 q2 r1 r2 n1 n2
      subst q1; subst q2
      have CS := Lib.hid (fun k => (sameItem_any xs xs xb yb xd.length xd.length xc yc xd xd (wr.drewN k) rfl (r1.below (belowN (Below.refl _ _) k)) n1 rfl (r2.below (belowN (Below.refl _ _) k)) n2).mono fun e w' (h : BB ((xs == xs) && (xd == xd)) (wr.drewN k) e w') => (show BB true (wr.drewN k) e w' from ⟨by rw [h.1]; simp, h.2⟩))
      have hj0 : (0 : Int) ≤ (i : Int) := by omega
      have hj1 : (i : Int) < (L.length : Int) := by omega
      have hj2 : (i : Int) < (N.length : Int) := by omega
      clear hx hy hbw hA2 hB2 s1 s2 r1 r2 n1 n2 hbl
      go_wp2_with fail
      refine wp_region_T_drew (fun w' => w'.cell? ⟨w.heap.size, 1, none⟩ = some (.slice (some ⟨k1, 0, none⟩) L.length ca) ∧ w'.cell? ⟨y, 1, none⟩ = some (.slice (some ⟨k2, 0, none⟩) N.length cb) ∧ w'.cell? ⟨k1, i * 2, none⟩ = some (.int .i64 xs) ∧ w'.cell? ⟨k1, i * 2 + 1, none⟩ = some (.slice xb xd.length xc) ∧ w'.cell? ⟨k2, i * 2, none⟩ = some (.int .i64 xs) ∧ w'.cell? ⟨k2, i * 2 + 1, none⟩ = some (.slice yb xd.length yc)) 12 (by kernel_rfl) ⟨hx1, hy1, a0, a1, b0, b1⟩ (fun hS => ?_)
      refine wpAnyT_take 0 rfl (by kernel_rfl) (by kernel_rfl) (by decide) (by kernel_rfl) (by kernel_rfl) (fun _ _ _ h => h) hS (by kernel_rfl) (v := ?_) ?_ ?_
      rotate_left
      · intro w' hSw; (try dsimp only at hSw); go_simp; (try with_reducible rfl)
      simp only [Act.put, List.setIfInBounds_toArray, List.set_cons_zero, List.set_cons_succ]
      refine wpAnyT_take 1 rfl (by kernel_rfl) (by kernel_rfl) (by decide) (by kernel_rfl) (by kernel_rfl) (fun _ _ _ h => h) hS (by kernel_rfl) (v := ?_) ?_ ?_
      rotate_left
      · intro w' hSw; (try dsimp only at hSw); go_simp; (try with_reducible rfl)
      simp only [Act.put, List.setIfInBounds_toArray, List.set_cons_zero, List.set_cons_succ]
      refine wpAnyT_take 2 rfl (by kernel_rfl) (by kernel_rfl) (by decide) (by kernel_rfl) (by kernel_rfl) (fun _ _ _ h => h) hS (by kernel_rfl) (v := ?_) ?_ ?_
      rotate_left
      · intro w' hSw; (try dsimp only at hSw); go_simp; (try with_reducible rfl)
      simp only [Act.put, List.setIfInBounds_toArray, List.set_cons_zero, List.set_cons_succ]
      refine wpAnyT_take 3 rfl (by kernel_rfl) (by kernel_rfl) (by decide) (by kernel_rfl) (by kernel_rfl) (fun _ _ _ h => h) hS (by kernel_rfl) (v := ?_) ?_ ?_
      rotate_left
      · intro w' hSw; (try dsimp only at hSw); go_simp; (try with_reducible rfl)
      simp only [Act.put, List.setIfInBounds_toArray, List.set_cons_zero, List.set_cons_succ]
      refine wpAnyT_take 4 rfl (by kernel_rfl) (by kernel_rfl) (by decide) (by kernel_rfl) (by kernel_rfl) (fun _ _ _ h => h) hS (by kernel_rfl) (v := ?_) ?_ ?_
      rotate_left
      · intro w' hSw; (try dsimp only at hSw); go_simp; (try with_reducible rfl)
      simp only [Act.put, List.setIfInBounds_toArray, List.set_cons_zero, List.set_cons_succ]
      refine wpAnyT_take 5 rfl (by kernel_rfl) (by kernel_rfl) (by decide) (by kernel_rfl) (by kernel_rfl) (fun _ _ _ h => h) hS (by kernel_rfl) (v := ?_) ?_ ?_
      rotate_left
      · intro w' hSw; (try dsimp only at hSw); go_simp; (try with_reducible rfl)
      simp only [Act.put, List.setIfInBounds_toArray, List.set_cons_zero, List.set_cons_succ]
      refine wpAnyT_take 6 rfl (by kernel_rfl) (by kernel_rfl) (by decide) (by kernel_rfl) (by kernel_rfl) (fun _ _ _ h => h) hS (by kernel_rfl) (v := ?_) ?_ ?_
      rotate_left
      · intro w' hSw; (try dsimp only at hSw); go_simp; (try with_reducible rfl)
      simp only [Act.put, List.setIfInBounds_toArray, List.set_cons_zero, List.set_cons_succ]
      refine wpAnyT_take 7 rfl (by kernel_rfl) (by kernel_rfl) (by decide) (by kernel_rfl) (by kernel_rfl) (fun _ _ _ h => h) hS (by kernel_rfl) (v := ?_) ?_ ?_
      rotate_left
      · intro w' hSw; (try dsimp only at hSw); go_simp; (try with_reducible rfl)
      simp only [Act.put, List.setIfInBounds_toArray, List.set_cons_zero, List.set_cons_succ]
      refine wpAnyT_take 8 rfl (by kernel_rfl) (by kernel_rfl) (by decide) (by kernel_rfl) (by kernel_rfl) (fun _ _ _ h => h) hS (by kernel_rfl) (v := ?_) ?_ ?_
      rotate_left
      · intro w' hSw; (try dsimp only at hSw); go_simp; (try with_reducible rfl)
      simp only [Act.put, List.setIfInBounds_toArray, List.set_cons_zero, List.set_cons_succ]
      refine wpAnyT_take 9 rfl (by kernel_rfl) (by kernel_rfl) (by decide) (by kernel_rfl) (by kernel_rfl) (fun _ _ _ h => h) hS (by kernel_rfl) (v := ?_) ?_ ?_
      rotate_left
      · intro w' hSw; (try dsimp only at hSw); go_simp; (try with_reducible rfl)
      simp only [Act.put, List.setIfInBounds_toArray, List.set_cons_zero, List.set_cons_succ]
      refine wpAnyT_one 10 (by kernel_rfl) rfl (by kernel_rfl) (fun K hK => ?_)
      go_simp
      refine (CS.out 1).mono ?_
      rintro e w5 ⟨rfl, hb5⟩
      have hS5 : _ ∧ _ ∧ _ ∧ _ ∧ _ ∧ _ := ⟨(hb5.cell (p := ⟨w.heap.size, 1, none⟩) hxl).trans hS.1, (hb5.cell (p := ⟨y, 1, none⟩) hyl).trans hS.2.1, (hb5.cell (p := ⟨k1, i * 2, none⟩) l1).trans hS.2.2.1, (hb5.cell (p := ⟨k1, i * 2 + 1, none⟩) l1).trans hS.2.2.2.1, (hb5.cell (p := ⟨k2, i * 2, none⟩) l2).trans hS.2.2.2.2.1, (hb5.cell (p := ⟨k2, i * 2 + 1, none⟩) l2).trans hS.2.2.2.2.2⟩
      have HB5 := Lib.hid (HBL.out.trans (((Below.refl wr.heap.size wr).drew.trans hb5).mono HBL.out.size))
      clear hb5
      have hS := hS5
      refine hK _ _ (fun _ => hS) ?_
      clear hK K hS5
      refine wpAnyT_take 11 rfl (by kernel_rfl) (by kernel_rfl) (by decide) (by kernel_rfl) (by kernel_rfl) (fun _ _ _ h => h) hS (by kernel_rfl) (v := ?_) ?_ ?_
      rotate_left
      · intro w' hSw; (try dsimp only at hSw); go_simp; (try with_reducible rfl)
      simp only [Act.put, List.setIfInBounds_toArray, List.set_cons_zero, List.set_cons_succ]
      refine wpAnyT_done (by kernel_rfl) ?_
      clear hS
      go_wp2
      go_roundw
      case rel => exact ⟨i + 1, by omega, by go_num, HB5.out⟩
      case measure => simp [intOf]; omega
    · obtain rfl : i = L.length := by omega
      clear hx hy hbw hbl
      go_wp2
      go_ret
      exact ⟨rfl, HB0.out.trans (HBL.out.mono HB0.out.size)⟩
end Go.Proofs.Ytndfelbgppbncaa
/- What is packed; bytes that came in. -/
set_option linter.unusedVariables false
namespace Go.Proofs.Ytndfelbgppbncaa
open Go.RowKit
set_option maxHeartbeats 1600000 in
set_option maxRecDepth 100000 in
theorem pack_no (f l s a : Int) (ba : Option Addr) (n cap : Nat) (w : World) (hr : rightB f l s a n = false) :
    Calls Try.prog 56 #[.agg #[.int .i64 f, .int .i64 l, .int .i64 s, .int .i64 a, .slice ba n cap]] w (AggBelow (.tuple #[.slice none 0 0, .int .i64 14]) w) := by
  have c1 := fun w => right_any f l s a ba n cap w
  rw [hr] at c1
  have C1 := Lib.hid c1
  clear c1 hr
  go_enter Try.func56, Try.ntmps56
  go_wp2_with fail
  with_reducible refine (C1.out _).mono ?_
  rintro e w2 ⟨rfl, hb2⟩
  obtain ⟨q1, q2, q3⟩ := cells_one hb2
  have HB2 := Lib.hid q3
  clear hb2 q3
  go_wp2
  go_ret2
  exact ⟨rfl, HB2.out⟩
set_option maxHeartbeats 1600000 in
set_option maxRecDepth 100000 in
theorem packed_no (x y z : Int) (ba : Option Addr) (n cap : Nat) (w : World) (hr : rightB 1 x y z n = false) :
    Calls Try.prog 31 #[.int .i64 x, .int .i64 y, .int .i64 z, .slice ba n cap] w (AggBelow (.slice none 0 0) w) := by
  have CP := Lib.hid (pack_no 1 x y z ba n cap w hr)
  clear hr
  go_enter Try.func31, Try.ntmps31
  go_wp2_with fail
  with_reducible refine (CP.out).mono ?_
  rintro e w1 ⟨rfl, hb⟩
  have HB := Lib.hid hb
  clear hb
  go_wp2
  go_ret
  exact ⟨rfl, HB.out⟩
def PkPost (l : List UInt8) (w : World) (e : Ending) (w' : World) : Prop := ∃ ba cap, e = .returned (.slice ba l.length cap) ∧ Ow w' w.heap.size (.slice ba l.length cap) l ∧ Below w.heap.size w w'
theorem packed_post (l s a : Nat) (x y z : Int) (hx : x = l) (hy : y = s) (hz : z = a) (ba : Option Addr) (n cap : Nat) (d : List UInt8) (w : World) (hn : d.length = n) (hr : Rd w ba d) (hb : ba = none → n = 0) (hp : (⟨1, l, s, a, d⟩ : By.Pk).right) :
    Calls Try.prog 31 #[.int .i64 x, .int .i64 y, .int .i64 z, .slice ba n cap] w (PkPost (By.pack ⟨1, l, s, a, d⟩) w) :=
  (packed_any l s a x y z hx hy hz ba n cap d w hn hr hb hp).mono fun e w' ⟨v', he, ho, hb'⟩ => by
    obtain ⟨b1, c1, rfl, _, _, _⟩ := ho.rd
    exact ⟨b1, c1, he, ho, hb'⟩
def TruePost (w : World) (e : Ending) (w' : World) : Prop := e = .returned (.bool true) ∧ Below w.heap.size w w'
/-- a []byte that came in -/
structure In (w : World) (ba : Option Addr) (n : Nat) (l : List UInt8) : Prop where
  len : l.length = n
  rd : Rd w ba l
theorem In.at_ {w w' : World} {ba : Option Addr} {n : Nat} {l : List UInt8} (h : In w ba n l) (hb : Below w.heap.size w w') (i : Nat) (hi : i < n) : ∃ b o, ba = some (⟨b, o, none⟩ : Addr) ∧ ∃ c : UInt8, w'.cell? ⟨b, o + i, none⟩ = some (.int .u8 (c.toNat : Nat)) := by
  have hl := h.len
  rcases h.rd with e | ⟨b, o, e, hlt, hc⟩
  · rw [e] at hl; simp at hl; omega
  · exact ⟨b, o, e, l[i]'(by omega), by rw [hb.cell (p := ⟨b, o + i, none⟩) hlt]; exact hc i (by omega)⟩
end Go.Proofs.Ytndfelbgppbncaa
/- What the rows of droverlaw07 share: arguments that came in; 'post' of a call behind which all that was there is as it was. -/
set_option linter.unusedVariables false
set_option linter.unusedSimpArgs false
namespace Go.Proofs.Ytndfelbgppbncaa
open Go.ChangeShapes Go.WideShapes Go.ChangeAt Go.RowKit Go.Deep
theorem zz_own : ownKnob Try.prog.godebug = none := by kernel_rfl
theorem zz_laid : laidOutB Try.prog = true := by kernel_rfl
theorem post_of_below {H : Type} {enc : TypeId × Value → H} {P : Program} {f : Func} {s : ChangeSpec} {apart fresh handsOn again : Bool} {W W' : World} {args : Array Value} {v : Value} {ds gs : List (DataW H)} {before pa pv : List MemPlace}
    (hW : DataW.Whole enc P f.params.toList s.vars apart W args.toList ds gs before)
    (hres : ∀ (b : Nat) (sp : Nat → Bool) (hd : Bool), DataW.TrodAll enc P W' b sp hd f.resultTypes.toList (v.resultList f.resultTypes.size) (s.fn H (ds ++ gs)).results [])
    (hargs : ∀ sp : Nat → Bool, (∀ p ∈ before, sp p.block = true) → DataW.TrodAll enc P W' 0 sp true f.params.toList args.toList (s.fn H (ds ++ gs)).args pa)
    (hvars : ∀ sp : Nat → Bool, (∀ p ∈ before, sp p.block = true) → DataW.TrodVars enc P W' sp s.vars (s.fn H (ds ++ gs)).vars pv)
    (hps : before = pa ++ pv) (hb : Below W.heap.size W W')
    (hok : ∀ (j : Nat) (t : TypeId) (r : Value), f.resultTypes[j]? = some t → (v.resultList f.resultTypes.size)[j]? = some r → Value.okWide P W' .any 0 t r) :
    s.post enc P f apart fresh handsOn again W args v W' := by
  have hlt := hW.lt
  have hold : ∀ p ∈ before, (fun b => decide (b < W.heap.size)) p.block = true := fun p hp => by simpa using hlt p hp
  refine ⟨ds, gs, before, [], pa, pv, hW, hres _ _ _, hargs _ hold, hvars _ hold, World.keptBut_mono (fun p hp => ⟨hp, ?_⟩) (hb.frame (· ∈ before)), fun _ => ?_⟩
  · rw [hps, List.mem_append] at hp
    exact Or.inr hp
  · obtain ⟨_, _, _, _, _, hz, hn⟩ := hW
    refine ⟨hok, _, _, ([] ++ pa) ++ pv, ⟨[] ++ pa, pv, trodAll_append (hargs _ (fun _ _ => rfl)) (hres _ _ _), hvars _ (fun _ _ => rfl), rfl, ?_, ?_⟩, ?_⟩
    · intro b off hp
      have hm : MemPlace.cell b off ∈ before := by rw [hps]; simpa using hp
      have hq := hlt _ hm
      rw [hb.frozen (p := ⟨b, off, none⟩) hq]
      exact hz b off hm
    · intro ha
      have := hn ha
      rw [hps] at this
      simpa using this
    · intro p hp _
      rw [hps]
      simpa using hp
section
variable {H : Type} {enc : TypeId × Value → H}
set_option maxRecDepth 100000 in
theorem open_bytes {W : World} {base : Nat} {v1 : Value} {d1 : DataW H} {p1 : List MemPlace} (hval : Value.okWide Try.prog W .any base 25 v1) (h1 : DataW.Trod enc Try.prog W 0 (fun _ => true) true 25 v1 d1 p1) :
    ∃ (ba : Option Addr) (n cap : Nat) (l : List UInt8), v1 = .slice ba n cap ∧ n ≤ cap ∧ n ≤ maxLen ∧ (ba = none → n = 0) ∧ In W ba n l := by
  obtain ⟨a1, len, cap, rfl⟩ := okWide_slice Try.underlying25 hval
  obtain ⟨fuel, hf⟩ := h1
  rcases open_ints Try.underlying25 Try.underlying5 (by kernel_rfl) hf with ⟨hcs, hx⟩ | ⟨a, len', cap', zs, hcs, _, hl, hm, hz, hx, hcell, hwz⟩
  · simp [Value.cells] at hcs
    obtain ⟨rfl, rfl, rfl⟩ := hcs
    exact ⟨none, 0, 0, [], rfl, Nat.le_refl _, Nat.zero_le _, fun _ => rfl, rfl, Or.inl rfl⟩
  · simp [Value.cells] at hcs
    obtain ⟨rfl, rfl, rfl⟩ := hcs
    simp only [if_true] at hz
    by_cases h0 : len = 0
    · subst h0
      exact ⟨some a, 0, cap, [], rfl, Nat.zero_le _, Nat.zero_le _, fun _ => rfl, rfl, Or.inl rfl⟩
    · obtain ⟨ab, ao, spot⟩ := a
      have hspot : spot = none := by simpa [Addr.add] using World.cell?_spot (hcell 0 (by omega))
      subst hspot
      have hlen : ((zs.take len).map fun n => UInt8.ofNat n.toNat).length = len := by simp; omega
      refine ⟨_, len, cap, (zs.take len).map fun n => UInt8.ofNat n.toNat, rfl, hl, by omega, (fun e => by cases e), hlen, Or.inr ⟨ab, ao, rfl, ?_, fun i hi => ?_⟩⟩
      · have h := hcell 0 (by omega)
        rw [addPl] at h
        unfold World.cell? at h
        split at h
        · rename_i hb; exact (Array.getElem?_eq_some_iff.1 hb).1
        · cases h
      · rw [hlen] at hi
        have hc := hcell i (by omega)
        rw [addPl] at hc
        rw [hc]
        have e : zs.getD i 0 = zs[i]'(by omega) := by simp [List.getD, List.getElem?_eq_getElem (show i < zs.length by omega)]
        have hw := hwz (zs[i]'(by omega)) (List.getElem_mem _)
        rw [e]
        simp only [List.getElem_map, List.getElem_take]
        generalize zs[i]'(by omega) = z at hw
        have hb := bounds_u8 hw
        congr 2
        simp only [UInt8.toNat_ofNat']
        omega
set_option maxRecDepth 100000 in
/-- a [][]byte that came in -/
theorem open_lists {W : World} {base : Nat} {v1 : Value} {d1 : DataW H} {p1 : List MemPlace} (hval : Value.okWide Try.prog W .any base 48 v1) (h1 : DataW.Trod enc Try.prog W 0 (fun _ => true) true 48 v1 d1 p1) :
    ∃ (ba : Option Addr) (M : List Bt) (cap : Nat), v1 = .slice ba M.length cap ∧ M.length ≤ cap ∧ M.length ≤ maxLen ∧ Lr W ba M := by
  obtain ⟨a1, len, cap, rfl⟩ := okWide_slice Try.underlying48 hval
  obtain ⟨fuel, hf⟩ := h1
  rcases open_int_rows Try.underlying48 Try.underlying25 Try.underlying5 (by kernel_rfl) (by kernel_rfl) hf with ⟨hcs, hx⟩ | ⟨a, len', cap', A, L, C, Z, hcs, _, hl, hm, hx, hr⟩
  · simp [Value.cells] at hcs
    obtain ⟨rfl, rfl, rfl⟩ := hcs
    exact ⟨none, [], 0, rfl, Nat.le_refl _, Nat.zero_le _, ⟨fun i hi => by simp at hi, by simp, by simp, by simp⟩⟩
  · simp [Value.cells] at hcs
    obtain ⟨rfl, rfl, rfl⟩ := hcs
    have hdl : ∀ r, r < cap → (((Z r).take (L r)).map fun n => UInt8.ofNat n.toNat).length = L r := fun r hr' => by
      obtain ⟨_, h2, _, h4, _⟩ := hr r hr'; simp; omega
    refine ⟨some a, (List.range len).map fun r => ⟨A r, C r, ((Z r).take (L r)).map fun n => UInt8.ofNat n.toNat⟩, cap, by simp, by simp; exact hl, by simp; omega, ⟨fun i hi => ?_, fun x hx => ?_, fun x hx => ?_, fun x hx => ?_⟩⟩
    · simp only [List.length_map, List.length_range] at hi
      obtain ⟨h1, _⟩ := hr i (by omega)
      obtain ⟨ab, ao, spot⟩ := a
      have hspot : spot = none := by
        have h0 := (hr 0 (by omega)).1
        simpa [Addr.add] using World.cell?_spot h0
      subst hspot
      rw [addPl] at h1
      refine ⟨ab, ao, rfl, ?_, ?_⟩
      · have h := h1
        unfold World.cell? at h
        split at h
        · rename_i hb; exact (Array.getElem?_eq_some_iff.1 hb).1
        · cases h
      · rw [h1]
        simp only [List.getElem_map, List.getElem_range]
        unfold Bt.cell
        rw [hdl i (by omega)]
    · obtain ⟨r, hr', rfl⟩ := List.mem_map.1 hx
      have hr'' := List.mem_range.1 hr'
      obtain ⟨h1, h2, h3, h4, h5, h6, h7⟩ := hr r (by omega)
      by_cases h0 : L r = 0
      · left; simp only [h0]; rfl
      · cases hA : A r with
        | none => have := h6 hA; omega
        | some a' =>
          obtain ⟨_, hc⟩ := h7 a' hA
          obtain ⟨ab, ao, spot⟩ := a'
          have hspot : spot = none := by simpa [Addr.add] using World.cell?_spot (hc 0 (by omega))
          subst hspot
          refine Or.inr ⟨ab, ao, rfl, ?_, fun i hi => ?_⟩
          · have h := hc 0 (by omega)
            rw [addPl] at h
            unfold World.cell? at h
            split at h
            · rename_i hb; exact (Array.getElem?_eq_some_iff.1 hb).1
            · cases h
          · rw [hdl r (by omega)] at hi
            have hcc := hc i (by omega)
            rw [addPl] at hcc
            rw [hcc]
            have e : (Z r).getD i 0 = (Z r)[i]'(by omega) := by simp [List.getD, List.getElem?_eq_getElem (show i < (Z r).length by omega)]
            have hw := h5 ((Z r)[i]'(by omega)) (List.getElem_mem _)
            rw [e]
            simp only [List.getElem_map, List.getElem_take]
            generalize (Z r)[i]'(by omega) = z at hw
            have hb := bounds_u8 hw
            congr 2
            simp only [UInt8.toNat_ofNat']
            omega
    · obtain ⟨r, hr', rfl⟩ := List.mem_map.1 hx
      have hr'' := List.mem_range.1 hr'
      intro he
      rw [hdl r (by omega)]
      obtain ⟨_, h2, _, _, _, h6, _⟩ := hr r (by omega)
      have := h6 he; omega
    · obtain ⟨r, hr', rfl⟩ := List.mem_map.1 hx
      have hr'' := List.mem_range.1 hr'
      rw [hdl r (by omega)]
      exact (hr r (by omega)).2.1
/-- arguments that nobody has turned read as they did -/
theorem all_stay {W W' : World} (hl : laidOutB Try.prog = true) (sp : Nat → Bool) (hb : Below W.heap.size W W') : ∀ (ts : List TypeId) (vs : List Value) (ds : List (DataW H)) (ps : List MemPlace), (∀ t ∈ ts, Try.prog.readableRec t = true ∧ t < Try.prog.types.size) →
    DataW.TrodAll enc Try.prog W 0 (fun _ => true) true ts vs ds ps → (∀ p ∈ ps, p.block < W.heap.size) → (∀ p ∈ ps, sp p.block = true) → DataW.TrodAll enc Try.prog W' 0 sp true ts vs ds ps := by
  intro ts
  induction ts with
  | nil =>
    intro vs ds ps _ h _ _
    obtain ⟨rfl, rfl, rfl⟩ := trodAll_nil h
    rfl
  | cons t ts ih =>
    intro vs ds ps ht h hlt hsp
    obtain ⟨v, vs', d, ds', p, q, rfl, rfl, rfl, h1, h2⟩ := trodAll_cons h
    obtain ⟨k1, k2⟩ := ht t (List.mem_cons_self ..)
    exact ⟨p, q, WideElems.Trod_stays hl k1 k2 h1 (fun x hx => hb.same (hlt x (by simp [hx]))) (fun x hx => hsp x (by simp [hx])), ih vs' ds' q (fun t' ht' => ht t' (List.mem_cons_of_mem _ ht')) h2 (fun x hx => hlt x (by simp [hx])) (fun x hx => hsp x (by simp [hx])), rfl⟩
end
end Go.Proofs.Ytndfelbgppbncaa
/- The chapter's examples come out true: droverlaw07.awake hands back true in every world, and nothing that was there turns. The run is computed by the kernel with the evaluator of the texts 'Ev..'. -/
set_option linter.unusedVariables false
namespace Go.Proofs.Ytndfelbgppbncaa
open Go.RowKit
theorem zz_names : Ev.namesOK Try.prog = true := by kernel_rfl
set_option maxRecDepth 100000 in
theorem awake_any (w : World) : Calls Try.prog 26 #[] w fun e w' => e = .returned (.bool true) ∧ Below w.heap.size w w' :=
  Ev.run_true (K := 1000) (n := 1000) (m := 1000) (ι := fun _ => none) zz_names (fun _ _ => rfl) .nil (show Ev.isTrue (Ev.callF (Ev.tab Try.prog) 1000 1000 26 [] ⟨1000, .nil⟩) = true by kernel_rfl) w
end Go.Proofs.Ytndfelbgppbncaa
