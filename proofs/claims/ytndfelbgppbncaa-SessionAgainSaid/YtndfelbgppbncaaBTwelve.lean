/- package frame: Unpack, by contract. -/
import Derived.Test.YtndfelbgppbncaaBEleven
import Derived.Deep.RegionHeld3
set_option linter.unusedVariables false
namespace Go.Proofs.Ytndfelbgppbncaa
open Go.RowKit
def gtop (x er : Nat) : Nat := if er = 0 ∧ 4611686018427387904 < x then 14 else er
def gs (c : List UInt8) : Nat → Nat × Nat
  | 0 => (0, 0)
  | j + 1 => ((gnum c (gs c j).1 (gs c j).2).2.1, gtop (gnum c (gs c j).1 (gs c j).2).1 (gnum c (gs c j).1 (gs c j).2).2.2)
def gx (c : List UInt8) (j : Nat) : Nat := (gnum c (gs c j).1 (gs c j).2).1
theorem gs_le (c : List UInt8) : ∀ j, (gs c j).1 ≤ c.length
  | 0 => Nat.zero_le _
  | j + 1 => gnum_le c _ _ (gs_le c j)
def ncell (c : List UInt8) (j i : Nat) : Value := .int .i64 (if i < j then IntKind.i64.wrap (gx c i) else 0)
def narr (c : List UInt8) (j : Nat) : Array Value := #[ncell c j 0, ncell c j 1, ncell c j 2, ncell c j 3]
theorem narr_at (c : List UInt8) (j : Nat) (h : j < 4) : (narr c j)[j]? = some (.int .i64 0) := by
  match j, h with
  | 0, _ => rfl
  | 1, _ => rfl
  | 2, _ => rfl
  | 3, _ => rfl
theorem narr_next (c : List UInt8) (j : Nat) (h : j < 4) : (narr c j).setIfInBounds j (.int .i64 (IntKind.i64.wrap (gx c j))) = narr c (j + 1) := by
  match j, h with
  | 0, _ => rfl
  | 1, _ => rfl
  | 2, _ => rfl
  | 3, _ => rfl
theorem Ow.rd1 {w : World} {B : Nat} {ba : Option Addr} {n cap : Nat} {l : List UInt8} (h : Ow w B (.slice ba n cap) l) : Rd w ba l ∧ (ba = none → n = 0) ∧ n ≤ cap ∧ l.length = n := by
  obtain ⟨ba', cap', e, h1, h2, h3⟩ := h.rd
  cases e
  exact ⟨h1, h2, h3, rfl⟩
/-- a fact that no tactic looks into -/
structure Lock (p : Prop) : Prop where
  out : p
def UpRel (c : List UInt8) (p pn : Nat) (v : Value) (w : World) (iv : Value) (wr : World) : Prop := ∃ j : Nat, j ≤ 4 ∧ iv = .int .i64 j ∧ Gt wr p v (gs c j).1 (gs c j).2 ∧ Blk wr pn (narr c j) 103 ∧ Ow wr (w.heap.size + 1) v c ∧ Below w.heap.size w wr ∧ Blk wr w.heap.size #[.int .i64 0, .int .i64 0, .int .i64 0, .int .i64 0, .slice none 0 0] 34
theorem up_n {c : List UInt8} {p pn : Nat} {v : Value} {w w3 : World} {j : Nat} {x : Int} (hj : j < 4) (hg : Gt w3 p v (gs c (j + 1)).1 (gs c (j + 1)).2) (hn : Blk w3 pn (narr c j) 103) (ho : Ow w3 (w.heap.size + 1) v c) (hw : Below w.heap.size w w3)
    (hx : Blk w3 w.heap.size #[.int .i64 0, .int .i64 0, .int .i64 0, .int .i64 0, .slice none 0 0] 34) (e3 : (narr c j).setIfInBounds j (.int .i64 x) = narr c (j + 1)) (h1 : p ≠ pn) (h2 : w.heap.size < pn) (h3 : ∀ k, v.ownBlock = some k → k ≠ pn) :
    UpRel c p pn v w (.int .i64 ((j : Int) + 1)) (w3.setCell ⟨pn, j, none⟩ (.int .i64 x)) := by
  have hgr : w3.grownBy (w3.setCell ⟨pn, j, none⟩ (.int .i64 x)) (some pn) := grown_set (grown_refl _ _) _ _
  refine ⟨j + 1, by omega, by go_num, hg.kept hgr (fun e => h1 (by cases e; rfl)), ?_, own_kept ho hgr (fun k hk e => h3 k hk (by cases e; rfl)), hw.grown hgr hw.size (fun k hk => by cases hk; omega), hx.kept hgr (fun e => by cases e; omega)⟩
  rw [← e3]; exact hn.set j _
theorem up_e {c : List UInt8} {p pn : Nat} {v : Value} {w w3 : World} {at2 er e' : Nat} {A : Array Value} (hg : Gt w3 p v at2 er) (hn : Blk w3 pn A 103) (ho : Ow w3 (w.heap.size + 1) v c) (hw : Below w.heap.size w w3)
    (hx : Blk w3 w.heap.size #[.int .i64 0, .int .i64 0, .int .i64 0, .int .i64 0, .slice none 0 0] 34) (h1 : p ≠ pn) (h2 : w.heap.size < p) (h3 : ∀ k, v.ownBlock = some k → k ≠ p) :
    Gt (w3.setCell ⟨p, 2, none⟩ (.int .i64 e')) p v at2 e' ∧ Blk (w3.setCell ⟨p, 2, none⟩ (.int .i64 e')) pn A 103 ∧ Ow (w3.setCell ⟨p, 2, none⟩ (.int .i64 e')) (w.heap.size + 1) v c ∧ Below w.heap.size w (w3.setCell ⟨p, 2, none⟩ (.int .i64 e')) ∧
    Blk (w3.setCell ⟨p, 2, none⟩ (.int .i64 e')) w.heap.size #[.int .i64 0, .int .i64 0, .int .i64 0, .int .i64 0, .slice none 0 0] 34 := by
  have hgr : w3.grownBy (w3.setCell ⟨p, 2, none⟩ (.int .i64 e')) (some p) := grown_set (grown_refl _ _) _ _
  exact ⟨hg.set 2 _, hn.kept hgr (fun e => h1 (by cases e; rfl)), own_kept ho hgr (fun k hk e => h3 k hk (by cases e; rfl)), hw.grown hgr hw.size (fun k hk => by cases hk; omega), hx.kept hgr (fun e => by cases e; omega)⟩
def bl4 (c : List UInt8) : List UInt8 × Nat × Nat := gblob 1048576 c (gs c 4).1 (gs c 4).2
theorem bl4_eq (c : List UInt8) : bl4 c = gblob 1048576 c (gs c 4).1 (gs c 4).2 := by unfold bl4; rfl
def er2 (c : List UInt8) : Nat := if (bl4 c).2.2 = 0 ∧ rightB (IntKind.i64.wrap (gx c 0)) (IntKind.i64.wrap (gx c 1)) (IntKind.i64.wrap (gx c 2)) (IntKind.i64.wrap (gx c 3)) (bl4 c).1.length = false then 14 else (bl4 c).2.2
def er3 (c : List UInt8) : Nat := gend c.length (bl4 c).2.1 (er2 c)
/-- a packet that is handed back, and an error -/
def UnpPost (f l s a : Int) (d : List UInt8) (er : Nat) (w : World) (e : Ending) (w' : World) : Prop := ∃ v', e = .returned (.tuple #[.agg #[.int .i64 f, .int .i64 l, .int .i64 s, .int .i64 a, v'], .int .i64 er]) ∧ Ow w' w.heap.size v' d ∧ Below w.heap.size w w'
theorem box_grown {wr w5 : World} {A : Array Value} {T : TypeId} {p : Nat} (hg : ((wr.alloc (.cells A T)).drew).grownBy w5 (some p)) (hp : p < wr.heap.size) :
    (∀ o, w5.cell? ⟨wr.heap.size, o, none⟩ = A[o]?) ∧ (∀ o, w5.frozen? ⟨wr.heap.size, o, none⟩ = false) ∧ wr.heap.size < w5.heap.size := by
  have hs := hg.size
  simp at hs
  have h1 : Blk (wr.alloc (.cells A T)).drew wr.heap.size A T := (Blk.new wr A T).below (Below.refl _ _).drew
  have h2 := h1.kept hg (fun e => by cases e; omega)
  exact ⟨fun o => h2.cell o, fun o => h2.free o, by omega⟩
theorem narr_grown {wr W w5 : World} {A : Array Value} {T : TypeId} {p pn : Nat} (h : Blk wr pn A T) (hW : Below wr.heap.size wr W) (hg : W.grownBy w5 (some p)) (hp : p ≠ pn) : (∀ o, w5.cell? ⟨pn, o, none⟩ = A[o]?) ∧ pn < w5.heap.size :=
  ⟨fun o => ((h.below hW).kept hg (fun e => hp (by cases e; rfl))).cell o, ((h.below hW).kept hg (fun e => hp (by cases e; rfl))).lt⟩
theorem cell_set5 {w : World} {b b' o : Nat} {v0 v1 v2 v3 v4 : Value} (h : b' ≠ b) : (((((w.setCell ⟨b, 0, none⟩ v0).setCell ⟨b, 1, none⟩ v1).setCell ⟨b, 2, none⟩ v2).setCell ⟨b, 3, none⟩ v3).setCell ⟨b, 4, none⟩ v4).cell? ⟨b', o, none⟩ = w.cell? ⟨b', o, none⟩ := by
  apply World.cell?_of_block
  show ((((((w.setCell ⟨b, 0, none⟩ v0).setCell ⟨b, 1, none⟩ v1).setCell ⟨b, 2, none⟩ v2).setCell ⟨b, 3, none⟩ v3).setCell ⟨b, 4, none⟩ v4)).heap[b']? = _
  rw [Below.heap_setCell _ _ _ _ h, Below.heap_setCell _ _ _ _ h, Below.heap_setCell _ _ _ _ h, Below.heap_setCell _ _ _ _ h, Below.heap_setCell _ _ _ _ h]
theorem lt_alloc {w : World} {a : Nat} {o : Obj} (h : a < w.heap.size) : a < (w.alloc o).heap.size := by simp; omega
/-- what holds where the packet has been put together -/
structure UF (w w6 : World) (p q : Nat) (v : Value) (d : List UInt8) (at2 e1 : Nat) (a0 a1 a2 a3 : Int) (b5 : Option Addr) (c5 : Nat) : Prop where
  pk : Blk w6 q #[.int .i64 a0, .int .i64 a1, .int .i64 a2, .int .i64 a3, .slice b5 d.length c5] 34
  gt : Gt w6 p v at2 e1
  own : Ow w6 (w.heap.size + 1) (.slice b5 d.length c5) d
  row : ∀ k, (Value.slice b5 d.length c5).ownBlock = some k → k ≠ p
  below : Below w.heap.size w w6
  box : Blk w6 w.heap.size #[.int .i64 0, .int .i64 0, .int .i64 0, .int .i64 0, .slice none 0 0] 34
  ne : q ≠ p ∧ w.heap.size < q ∧ w.heap.size < p
theorem uf_one {w wr w5 : World} {p q : Nat} {v : Value} {c d : List UInt8} {at2 e1 : Nat} {a0 a1 a2 a3 : Int} {b5 : Option Addr} {c5 : Nat} (hg5 : Gt w5 p v at2 e1) (ho5 : Ow w5 wr.drew.heap.size (.slice b5 d.length c5) d) (hgr5 : wr.drew.grownBy w5 (some p))
    (hw : Below w.heap.size w wr) (hx : Blk wr w.heap.size #[.int .i64 0, .int .i64 0, .int .i64 0, .int .i64 0, .slice none 0 0] 34) (ho : Ow wr (w.heap.size + 1) v c) (hp : w.heap.size < p) (hpr : p < wr.heap.size) :
    UF w (w5.alloc (.cells #[.int .i64 a0, .int .i64 a1, .int .i64 a2, .int .i64 a3, .slice b5 d.length c5] 34)) p w5.heap.size v d at2 e1 a0 a1 a2 a3 b5 c5 := by
  have hs : wr.heap.size ≤ w5.heap.size := hgr5.size
  have hws := hw.size
  have hgr : wr.grownBy w5 (some p) := below_grown (Below.refl wr.heap.size wr).drew hgr5
  refine ⟨Blk.new _ _ _, hg5.below ((Below.refl _ _).alloc (Nat.le_refl _) _), (ho5.mono (by show w.heap.size + 1 ≤ wr.heap.size; omega)).alloc _, fun k hk => ?_, (hw.grown hgr hws (fun k hk => by cases hk; omega)).alloc (by omega) _, (hx.kept hgr (fun e => by cases e; omega)).below ((Below.refl _ _).alloc (Nat.le_refl _) _), by omega, by omega, hp⟩
  have : wr.heap.size ≤ k := (ho5.lt k hk).1
  omega
theorem uf_two {w wr w5 : World} {p : Nat} {v : Value} {c d : List UInt8} {at2 e1 : Nat} {a0 a1 a2 a3 : Int} {b5 : Option Addr} {c5 : Nat} {Z : Array Value} (hg5 : Gt w5 p v at2 e1) (ho5 : Ow w5 (wr.alloc (.cells Z 34)).drew.heap.size (.slice b5 d.length c5) d) (hgr5 : (wr.alloc (.cells Z 34)).drew.grownBy w5 (some p))
    (hw : Below w.heap.size w wr) (hx : Blk wr w.heap.size #[.int .i64 0, .int .i64 0, .int .i64 0, .int .i64 0, .slice none 0 0] 34) (ho : Ow wr (w.heap.size + 1) v c) (hp : w.heap.size < p) (hpr : p < wr.heap.size) (hZ : Z = #[.int .i64 0, .int .i64 0, .int .i64 0, .int .i64 0, .slice none 0 0] := by rfl) :
    UF w (((((w5.setCell ⟨wr.heap.size, 0, none⟩ (.int .i64 a0)).setCell ⟨wr.heap.size, 1, none⟩ (.int .i64 a1)).setCell ⟨wr.heap.size, 2, none⟩ (.int .i64 a2)).setCell ⟨wr.heap.size, 3, none⟩ (.int .i64 a3)).setCell ⟨wr.heap.size, 4, none⟩ (.slice b5 d.length c5)) p wr.heap.size v d at2 e1 a0 a1 a2 a3 b5 c5 := by
  subst hZ
  have hs : (wr.alloc (.cells #[.int .i64 0, .int .i64 0, .int .i64 0, .int .i64 0, .slice none 0 0] 34)).heap.size ≤ w5.heap.size := hgr5.size
  simp at hs
  have hws := hw.size
  have hgr : wr.grownBy w5 (some p) := below_grown ((Below.refl wr.heap.size wr).alloc (Nat.le_refl _) _).drew hgr5
  have hq : Blk w5 wr.heap.size #[.int .i64 0, .int .i64 0, .int .i64 0, .int .i64 0, .slice none 0 0] 34 := ((Blk.new wr _ _).below (Below.refl _ _).drew).kept hgr5 (fun e => by have := Option.some.inj e; omega)
  have h6 : w5.grownBy (((((w5.setCell ⟨wr.heap.size, 0, none⟩ (.int .i64 a0)).setCell ⟨wr.heap.size, 1, none⟩ (.int .i64 a1)).setCell ⟨wr.heap.size, 2, none⟩ (.int .i64 a2)).setCell ⟨wr.heap.size, 3, none⟩ (.int .i64 a3)).setCell ⟨wr.heap.size, 4, none⟩ (.slice b5 d.length c5)) (some wr.heap.size) :=
    grown_set (grown_set (grown_set (grown_set (grown_set (grown_refl _ _) _ _) _ _) _ _) _ _) _ _
  have hlo : ∀ k, (Value.slice b5 d.length c5).ownBlock = some k → wr.heap.size + 1 ≤ k := fun k hk => by have := (ho5.lt k hk).1; simpa using this
  refine ⟨((((hq.set 0 _).set 1 _).set 2 _).set 3 _).set 4 _, hg5.kept h6 (fun e => by have := Option.some.inj e; omega), own_kept (ho5.mono (by show w.heap.size + 1 ≤ (wr.alloc _).heap.size; simp; omega)) h6 (fun k hk e => by cases e; have := hlo _ hk; omega), fun k hk => by have := hlo k hk; omega,
    (hw.grown hgr hws (fun k hk => by cases hk; omega)).grown h6 (by omega) (fun k hk => by cases hk; omega), (hx.kept hgr (fun e => by have := Option.some.inj e; omega)).kept h6 (fun e => by have := Option.some.inj e; omega), by omega, by omega, hp⟩
theorem UF.below_ {w w6 w7 : World} {p q : Nat} {v : Value} {d : List UInt8} {at2 e1 : Nat} {a0 a1 a2 a3 : Int} {b5 : Option Addr} {c5 : Nat} (h : UF w w6 p q v d at2 e1 a0 a1 a2 a3 b5 c5) (hb : Below w6.heap.size w6 w7) : UF w w7 p q v d at2 e1 a0 a1 a2 a3 b5 c5 :=
  ⟨h.pk.below hb, h.gt.below hb, own_below h.own hb, h.row, h.below.trans (hb.mono h.below.size), h.box.below hb, h.ne⟩
theorem UF.err {w w6 w7 : World} {p q : Nat} {v : Value} {d : List UInt8} {at2 e1 e2 : Nat} {a0 a1 a2 a3 : Int} {b5 : Option Addr} {c5 : Nat} (h : UF w w6 p q v d at2 e1 a0 a1 a2 a3 b5 c5) (hg : Gt w7 p v at2 e2) (hb : w6.grownBy w7 (some p)) : UF w w7 p q v d at2 e2 a0 a1 a2 a3 b5 c5 :=
  ⟨h.pk.kept hb (fun e => h.ne.1 (Option.some.inj e)), hg, own_kept h.own hb (fun k hk e => h.row k hk (Option.some.inj e).symm), h.row, h.below.grown hb h.below.size (fun k hk => by have := Option.some.inj hk; have := h.ne; omega), h.box.kept hb (fun e => by have := Option.some.inj e; have := h.ne; omega), h.ne⟩
/-- what Unpack makes of bytes whose sum is right -/
def fin (c : List UInt8) : Int × Int × Int × Int × List UInt8 × Nat := if er3 c ≠ 0 then (0, 0, 0, 0, [], er3 c) else (IntKind.i64.wrap (gx c 0), IntKind.i64.wrap (gx c 1), IntKind.i64.wrap (gx c 2), IntKind.i64.wrap (gx c 3), (bl4 c).1, 0)
theorem fin_cases (c : List UInt8) (d : List UInt8) (at2 e1 : Nat) (a0 a1 a2 a3 : Int) (h0 : a0 = IntKind.i64.wrap (gx c 0)) (h1 : a1 = IntKind.i64.wrap (gx c 1)) (h2 : a2 = IntKind.i64.wrap (gx c 2)) (h3 : a3 = IntKind.i64.wrap (gx c 3)) (hb : bl4 c = (d, at2, e1)) :
    (e1 ≠ 0 → fin c = (0, 0, 0, 0, [], e1)) ∧ (e1 = 0 → rightB a0 a1 a2 a3 d.length = false → fin c = (0, 0, 0, 0, [], 14)) ∧
    (e1 = 0 → rightB a0 a1 a2 a3 d.length = true → at2 < c.length → fin c = (0, 0, 0, 0, [], 10)) ∧ (e1 = 0 → rightB a0 a1 a2 a3 d.length = true → ¬ at2 < c.length → fin c = (a0, a1, a2, a3, d, 0)) := by
  subst h0; subst h1; subst h2; subst h3
  have e2 : er2 c = if e1 = 0 ∧ rightB (IntKind.i64.wrap (gx c 0)) (IntKind.i64.wrap (gx c 1)) (IntKind.i64.wrap (gx c 2)) (IntKind.i64.wrap (gx c 3)) d.length = false then 14 else e1 := by unfold er2; rw [hb]
  have e3 : er3 c = gend c.length at2 (er2 c) := by unfold er3; rw [hb]
  have ef : fin c = if er3 c ≠ 0 then (0, 0, 0, 0, [], er3 c) else (IntKind.i64.wrap (gx c 0), IntKind.i64.wrap (gx c 1), IntKind.i64.wrap (gx c 2), IntKind.i64.wrap (gx c 3), d, 0) := by unfold fin; rw [hb]
  rw [ef, e3]
  refine ⟨fun h => ?_, fun h hr => ?_, fun h hr ha => ?_, fun h hr ha => ?_⟩
  · have q : er2 c = e1 := by rw [e2, if_neg (fun q => h q.1)]
    have q2 : gend c.length at2 e1 = e1 := by unfold gend; rw [if_neg (fun q => h q.1)]
    rw [q, q2, if_pos h]
  · have q : er2 c = 14 := by rw [e2, if_pos ⟨h, hr⟩]
    have q2 : gend c.length at2 14 = 14 := by unfold gend; rw [if_neg (fun q => by cases q.1)]
    rw [q, q2, if_pos (by decide)]
  · have q : er2 c = 0 := by rw [e2, if_neg (fun q => by rw [hr] at q; cases q.2), h]
    have q2 : gend c.length at2 0 = 10 := by unfold gend; rw [if_pos ⟨rfl, ha⟩]
    rw [q, q2, if_pos (by decide)]
  · have q : er2 c = 0 := by rw [e2, if_neg (fun q => by rw [hr] at q; cases q.2), h]
    have q2 : gend c.length at2 0 = 0 := by unfold gend; rw [if_neg (fun q => ha q.2)]
    rw [q, q2, if_neg (by decide)]
set_option maxHeartbeats 4000000 in
set_option maxRecDepth 100000 in
theorem unpack_body (ba : Option Addr) (n cap : Nat) (l c : List UInt8) (F L S A : Int) (D : List UInt8) (E : Nat) (w : World) (hn : l.length = n) (hr : Rd w ba l) (hb : ba = none → n = 0) (hl : n ≤ 1048640) (hc : n ≤ cap) (ho : Lock (By.opn l = (c, 0))) (hF : Lock (fin c = (F, L, S, A, D, E))) :
    Calls Try.prog 30 #[.slice ba n cap] w (UnpPost F L S A D E w) := by
  have co : ∀ W, Below w.heap.size w W → Calls Try.prog 62 #[.slice ba n cap, .int .i64 1048640] W (OpnPost (By.opn l).1 (By.opn l).2 W) := fun W hW => opened_any ba n cap 1048640 l W hn (hr.below hW) hb (by omega) hc hl
  have hcl : (By.opn l).1.length ≤ n := by
    unfold By.opn
    split
    · exact Nat.zero_le _
    · split
      · simp only [List.length_take]; omega
      · exact Nat.zero_le _
  rw [ho.out] at co hcl
  simp only at hcl
  have CO := Lib.hid co
  clear co hr hb hn ho
  go_enter Try.func30, Try.ntmps30
  go_wp2_with fail
  with_reducible refine (CO.out _ ((Below.refl _ _).alloc (Nat.le_refl _) _)).mono ?_
  rintro e w1 ⟨p, v1, rfl, hg1, ho1, hv1, hp1, hb1⟩
  obtain ⟨b1, c1, rfl, hr1, hn1, hc1⟩ := ho1.rd
  have HG1 := Lib.hid hg1
  have HO1 := Lib.hid ho1
  have HB1 := Lib.hid hb1
  have HV1 := Lib.hid hv1
  clear hg1 ho1 hb1 hr1 hn1 hc1 hv1
  go_wp2_with fail
  have hpL : w.heap.size + 1 ≤ p := by simpa using hp1
  have hpN : p < w1.heap.size := HG1.out.lt
  have hbox : Blk w1 w.heap.size #[.int .i64 0, .int .i64 0, .int .i64 0, .int .i64 0, .slice none 0 0] 34 := (Blk.new w _ _).below HB1.out
  have HBX := Lib.hid hbox
  have HBW : Hid (Below w.heap.size w w1) := Lib.hid (((Below.refl w.heap.size w).alloc (Nat.le_refl _) _).trans (HB1.out.mono (by simp)))
  have HOW : Hid (Ow w1 (w.heap.size + 1) (.slice b1 c.length c1) c) := Lib.hid (HO1.out.mono (by simp))
  clear hp1 hbox HB1 HO1
  go_loopw [20] (fun iv wr => UpRel c p w1.heap.size (.slice b1 c.length c1) w iv wr) (fun i _ => 4 - (intOf i).toNat)
  case atStart => exact ⟨0, by omega, rfl, HG1.out.below ((Below.refl _ _).alloc (Nat.le_refl _) _), Blk.new _ _ _, HOW.out.alloc _, HBW.out.alloc HBW.out.size _, HBX.out.below ((Below.refl _ _).alloc (Nat.le_refl _) _)⟩
  case round =>
    obtain ⟨j, hj, rfl, hg, hb2, ho2, hw2, hx2⟩ := hrel
    obtain ⟨hrd, hba, hcp, _⟩ := ho2.rd1
    have hsle := gs_le c j
    have hpr := hg.lt
    have hnr := hb2.lt
    have HG := Lib.hid hg
    have HN := Lib.hid hb2
    have HO := Lib.hid ho2
    have HW := Lib.hid hw2
    have HX := Lib.hid hx2
    by_cases hj4 : j < 4
    · have cn := guint_any p b1 c.length c1 c (gs c j).1 (gs c j).2 wr hg rfl hrd hsle (by omega)
      have e1 : gs c (j + 1) = ((gnum c (gs c j).1 (gs c j).2).2.1, gtop (gnum c (gs c j).1 (gs c j).2).1 (gnum c (gs c j).1 (gs c j).2).2.2) := rfl
      have e2 : gx c j = (gnum c (gs c j).1 (gs c j).2).1 := rfl
      have e3 := narr_next c j hj4
      have e4 := narr_at c j hj4
      rw [e2] at e3
      clear e2
      generalize gnum c (gs c j).1 (gs c j).2 = r at cn e1 e3
      obtain ⟨x, at2, er2⟩ := r
      simp only at cn e1 e3
      have CN := Lib.hid cn
      have E1 := Lib.hid e1
      have E3 := Lib.hid e3
      have E4 := Lib.hid e4
      clear hg hb2 ho2 hw2 hx2 hrd hba cn e1 e3 e4
      go_wp2_with fail
      with_reducible refine (CN.out).mono ?_
      rintro e w3 ⟨rfl, hg3, hgr3⟩
      have c2 := hg3.cell 2
      have hf3 := fun o => hg3.free o
      have hp3 := hg3.lt
      have hN3 := HN.out.kept hgr3 (by intro e; cases e; omega)
      have hn3 := hN3.lt
      have hx3 := HX.out.kept hgr3 (by intro e; cases e; omega)
      have hne : ∀ k, (Value.slice b1 c.length c1).ownBlock = some k → some p ≠ some k := by
        intro k hk e; cases e; exact absurd (HV1.out p hk) (Nat.lt_irrefl _)
      have ho3 := own_kept HO.out hgr3 hne
      clear hne
      have hcj := hN3.cell j
      rw [E4.out] at hcj
      have hfj := hN3.free j
      have hw3 : Below w.heap.size w w3 := HW.out.grown hgr3 HW.out.size (fun k hk => by cases hk; omega)
      have HG3 := Lib.hid hg3
      have HN3 := Lib.hid hN3
      have HX3 := Lib.hid hx3
      have HO3 := Lib.hid ho3
      have HW3 := Lib.hid hw3
      clear hg3 hN3 hx3 ho3 hw3 hgr3
      by_cases her : er2 = 0
      · subst her
        by_cases htop : 4611686018427387904 < x
        · have i1 : (4611686018427387904 : Int) < (x : Int) := by omega
          have hg5 := E1.out
          unfold gtop at hg5
          rw [if_pos ⟨rfl, htop⟩] at hg5
          have HG5 : Lock (gs c (j + 1) = (at2, 14)) := ⟨hg5⟩
          clear hg5
          go_wp2_with fail
          obtain ⟨m1, m2, m3, m4, m5⟩ := up_e (e' := 14) HG3.out HN3.out HO3.out HW3.out HX3.out (by omega) (by omega) (fun k hk e => by subst e; exact absurd (HV1.out k hk) (Nat.lt_irrefl _))
          exact ⟨up_n hj4 (by rw [HG5.out]; exact m1) m2 m3 m4 m5 (by rw [← E3.out]; congr 2; unfold wrap64; rw [IntKind.wrap_i64]) (by omega) (by omega) (fun k hk e => by have := HV1.out k hk; omega), by simp [intOf]; omega⟩
        · have hg5 := E1.out
          unfold gtop at hg5
          rw [if_neg (fun h => htop h.2)] at hg5
          have HG5 : Lock (gs c (j + 1) = (at2, 0)) := ⟨hg5⟩
          have i1 : ¬ (4611686018427387904 : Int) < (x : Int) := by omega
          have i2 : decide ((4611686018427387904 : Int) < (x : Int)) = false := by simp; omega
          clear hg5
          go_wp2_with fail
          exact ⟨up_n hj4 (by rw [HG5.out]; exact HG3.out) HN3.out HO3.out HW3.out HX3.out (by rw [← E3.out, IntWalk.i64_in _ (by omega)]) (by omega) (by omega) (fun k hk e => by have := HV1.out k hk; omega), by simp [intOf]; omega⟩
      · have hg5 := E1.out
        unfold gtop at hg5
        rw [if_neg (fun h => her h.1)] at hg5
        have HG5 : Lock (gs c (j + 1) = (at2, er2)) := ⟨hg5⟩
        have i1 : ((er2 : Int) == 0) = false := bneI (by omega)
        clear hg5
        go_wp2_with fail
        exact ⟨up_n hj4 (by rw [HG5.out]; exact HG3.out) HN3.out HO3.out HW3.out HX3.out (by rw [← E3.out]; congr 2; unfold wrap64; rw [IntKind.wrap_i64]) (by omega) (by omega) (fun k hk e => by have := HV1.out k hk; omega), by simp [intOf]; omega⟩
    · obtain rfl : j = 4 := by omega
      have cb := fun W (hW : Below wr.heap.size wr W) => gblob_any p b1 c.length c1 c (gs c 4).1 (gs c 4).2 1048576 W (hg.below hW) rfl (hrd.below hW) hba hsle hcp (by omega) (by omega)
      rw [← bl4_eq c] at cb
      obtain ⟨a0, h0⟩ : ∃ a0, a0 = IntKind.i64.wrap (gx c 0) := ⟨_, rfl⟩
      obtain ⟨a1, h1⟩ : ∃ a1, a1 = IntKind.i64.wrap (gx c 1) := ⟨_, rfl⟩
      obtain ⟨a2, h2⟩ : ∃ a2, a2 = IntKind.i64.wrap (gx c 2) := ⟨_, rfl⟩
      obtain ⟨a3, h3⟩ : ∃ a3, a3 = IntKind.i64.wrap (gx c 3) := ⟨_, rfl⟩
      have hnar : narr c 4 = #[.int .i64 a0, .int .i64 a1, .int .i64 a2, .int .i64 a3] := by rw [h0, h1, h2, h3]; rfl
      rw [hnar] at hb2
      generalize hbl : bl4 c = r at cb
      obtain ⟨d, at2, e1⟩ := r
      simp only at cb
      have hfc := fin_cases c d at2 e1 a0 a1 a2 a3 h0 h1 h2 h3 hbl
      have FC : Lock _ := ⟨hfc⟩
      have CB := Lib.hid cb
      have HN4 := Lib.hid hb2
      have k0 := hb2.cell 0
      have k1 := hb2.cell 1
      have k2 := hb2.cell 2
      have k3 := hb2.cell 3
      clear cb hfc h0 h1 h2 h3 hnar hbl hg hb2 ho2 hw2 hx2 hrd hba HN HG hsle
      go_wp2_with fail
      go_region_held3 (fun w' => w'.cell? ⟨w1.heap.size, 0, none⟩ = some (.int .i64 a0) ∧ w'.cell? ⟨w1.heap.size, 1, none⟩ = some (.int .i64 a1) ∧ w'.cell? ⟨w1.heap.size, 2, none⟩ = some (.int .i64 a2) ∧ w'.cell? ⟨w1.heap.size, 3, none⟩ = some (.int .i64 a3)) ((first | (go_keep; done) | ((try dsimp only); refine ⟨?_, ?_, ?_, ?_⟩ <;> (first | (go_keep; done) | ((with_reducible refine Lib.cell?_alloc_some _ ?_); go_keep; done) | ((with_reducible refine (cell_set5 (Nat.ne_of_lt hnr)).trans ?_); go_keep; done))))) (first | (go_at_call 64; refine (CB.out _ ?_).mono ?_; exact (Below.refl _ _).drew; rintro e w5 ⟨v5, rfl, ho5, hg5, hgr5⟩; obtain ⟨b5, c5, rfl, hr5, hn5, hc5⟩ := ho5.rd; obtain ⟨k5, s5⟩ := narr_grown HN4.out (Below.refl _ _).drew hgr5 (by omega)) | (go_at_call 64; refine (CB.out _ ?_).mono ?_; exact ((Below.refl _ _).alloc (Nat.le_refl _) _).drew; rintro e w5 ⟨v5, rfl, ho5, hg5, hgr5⟩; obtain ⟨b5, c5, rfl, hr5, hn5, hc5⟩ := ho5.rd; obtain ⟨k5, s5⟩ := narr_grown HN4.out ((Below.refl _ _).alloc (Nat.le_refl _) _).drew hgr5 (by omega); obtain ⟨z1, z2, z3⟩ := box_grown hgr5 (by omega)))
      · have UFX := uf_one (q := w5.heap.size) (c := c) (v := .slice b1 c.length c1) (a0 := a0) (a1 := a1) (a2 := a2) (a3 := a3) hg5 ho5 hgr5 HW.out HX.out HO.out (by omega) (by omega)
        generalize w5.alloc (.cells #[.int .i64 a0, .int .i64 a1, .int .i64 a2, .int .i64 a3, .slice b5 d.length c5] 34) = w6 at UFX ⊢
        generalize w5.heap.size = q at UFX ⊢
        have HU := Lib.hid UFX
        clear UFX
        by_cases he : e1 = 0
        · subst he
          have cr := fun W => right_any a0 a1 a2 a3 b5 d.length c5 W
          cases hrb : rightB a0 a1 a2 a3 d.length with
          | false =>
            obtain ⟨rfl, rfl, rfl, rfl, rfl, rfl⟩ : F = 0 ∧ L = 0 ∧ S = 0 ∧ A = 0 ∧ D = [] ∧ E = 14 := by have h := hF.out.symm.trans (FC.out.2.1 rfl hrb); simpa using h
            rw [hrb] at cr
            have CR := Lib.hid cr
            clear hrb cr hF FC
            have g2 := HU.out.gt.cell 2
            have gf := fun o => HU.out.gt.free o
            have gl := HU.out.gt.lt
            have m0 := HU.out.pk.cell 0
            have m1 := HU.out.pk.cell 1
            have m2 := HU.out.pk.cell 2
            have m3 := HU.out.pk.cell 3
            have m4 := HU.out.pk.cell 4
            have z0 := HU.out.box.cell 0
            have z1 := HU.out.box.cell 1
            have z2 := HU.out.box.cell 2
            have z3 := HU.out.box.cell 3
            have z4 := HU.out.box.cell 4
            have zf := fun o => HU.out.box.free o
            have zl := HU.out.box.lt
            obtain ⟨n1, n2, n3⟩ := HU.out.ne
            go_wp2_with fail
            with_reducible refine (CR.out _).mono ?_
            rintro e w7 ⟨rfl, hb7⟩
            have HU7 := Lib.hid (HU.out.below_ hb7)
            clear hb7
            clear g2 gf gl m0 m1 m2 m3 m4 z0 z1 z2 z3 z4 zf zl n1 n2 n3
            have g2 := HU7.out.gt.cell 2
            have gf := fun o => HU7.out.gt.free o
            have gl := HU7.out.gt.lt
            have m0 := HU7.out.pk.cell 0
            have m1 := HU7.out.pk.cell 1
            have m2 := HU7.out.pk.cell 2
            have m3 := HU7.out.pk.cell 3
            have m4 := HU7.out.pk.cell 4
            have z0 := HU7.out.box.cell 0
            have z1 := HU7.out.box.cell 1
            have z2 := HU7.out.box.cell 2
            have z3 := HU7.out.box.cell 3
            have z4 := HU7.out.box.cell 4
            have zf := fun o => HU7.out.box.free o
            have zl := HU7.out.box.lt
            obtain ⟨n1, n2, n3⟩ := HU7.out.ne
            have hfin := (HU7.out.gt.set 2 (.int .i64 14))
            have hgr := grown_set (grown_refl w7 (some p)) 2 (.int .i64 14)
            have HU8 := Lib.hid (HU7.out.err (e2 := 14) hfin hgr)
            clear hfin hgr
            have ec := gend_any p b1 c.length c1 at2 14 _ HU8.out.gt
            rw [show gend c.length at2 14 = 14 from by unfold gend; rw [if_neg (fun q => by cases q.1)]] at ec
            have EC := Lib.hid ec
            clear ec
            go_wp2_with fail
            with_reducible refine (EC.out).mono ?_
            rintro e w9 ⟨rfl, hg9, hgr9⟩
            have HU9 := Lib.hid (HU8.out.err hg9 hgr9)
            clear hg9 hgr9
            clear g2 gf gl m0 m1 m2 m3 m4 z0 z1 z2 z3 z4 zf zl n1 n2 n3
            have g2 := HU9.out.gt.cell 2
            have gf := fun o => HU9.out.gt.free o
            have gl := HU9.out.gt.lt
            have m0 := HU9.out.pk.cell 0
            have m1 := HU9.out.pk.cell 1
            have m2 := HU9.out.pk.cell 2
            have m3 := HU9.out.pk.cell 3
            have m4 := HU9.out.pk.cell 4
            have z0 := HU9.out.box.cell 0
            have z1 := HU9.out.box.cell 1
            have z2 := HU9.out.box.cell 2
            have z3 := HU9.out.box.cell 3
            have z4 := HU9.out.box.cell 4
            have zf := fun o => HU9.out.box.free o
            have zl := HU9.out.box.lt
            obtain ⟨n1, n2, n3⟩ := HU9.out.ne
            go_wp2
            exact bodyPost_ret (v := .tuple #[.agg #[.int .i64 0, .int .i64 0, .int .i64 0, .int .i64 0, .slice none 0 0], .int .i64 14]) (by unfold results; rw [Try.results30]; go_simp) rfl ⟨_, rfl, Ow.nil _ _, (((((HU9.out.below.setCell (p := ⟨w.heap.size, 0, none⟩) (Nat.le_refl _) _).setCell (p := ⟨w.heap.size, 1, none⟩) (Nat.le_refl _) _).setCell (p := ⟨w.heap.size, 2, none⟩) (Nat.le_refl _) _).setCell (p := ⟨w.heap.size, 3, none⟩) (Nat.le_refl _) _).setCell (p := ⟨w.heap.size, 4, none⟩) (Nat.le_refl _) _)⟩
          | true =>
            by_cases hat : at2 < c.length
            · obtain ⟨rfl, rfl, rfl, rfl, rfl, rfl⟩ : F = 0 ∧ L = 0 ∧ S = 0 ∧ A = 0 ∧ D = [] ∧ E = 10 := by have h := hF.out.symm.trans (FC.out.2.2.1 rfl hrb hat); simpa using h
              rw [hrb] at cr
              have CR := Lib.hid cr
              clear hrb cr hF FC
              have g2 := HU.out.gt.cell 2
              have gf := fun o => HU.out.gt.free o
              have gl := HU.out.gt.lt
              have m0 := HU.out.pk.cell 0
              have m1 := HU.out.pk.cell 1
              have m2 := HU.out.pk.cell 2
              have m3 := HU.out.pk.cell 3
              have m4 := HU.out.pk.cell 4
              have z0 := HU.out.box.cell 0
              have z1 := HU.out.box.cell 1
              have z2 := HU.out.box.cell 2
              have z3 := HU.out.box.cell 3
              have z4 := HU.out.box.cell 4
              have zf := fun o => HU.out.box.free o
              have zl := HU.out.box.lt
              obtain ⟨n1, n2, n3⟩ := HU.out.ne
              go_wp2_with fail
              with_reducible refine (CR.out _).mono ?_
              rintro e w7 ⟨rfl, hb7⟩
              have HU7 := Lib.hid (HU.out.below_ hb7)
              clear hb7
              clear g2 gf gl m0 m1 m2 m3 m4 z0 z1 z2 z3 z4 zf zl n1 n2 n3
              have g2 := HU7.out.gt.cell 2
              have gf := fun o => HU7.out.gt.free o
              have gl := HU7.out.gt.lt
              have m0 := HU7.out.pk.cell 0
              have m1 := HU7.out.pk.cell 1
              have m2 := HU7.out.pk.cell 2
              have m3 := HU7.out.pk.cell 3
              have m4 := HU7.out.pk.cell 4
              have z0 := HU7.out.box.cell 0
              have z1 := HU7.out.box.cell 1
              have z2 := HU7.out.box.cell 2
              have z3 := HU7.out.box.cell 3
              have z4 := HU7.out.box.cell 4
              have zf := fun o => HU7.out.box.free o
              have zl := HU7.out.box.lt
              obtain ⟨n1, n2, n3⟩ := HU7.out.ne
              have ec := gend_any p b1 c.length c1 at2 0 _ HU7.out.gt
              rw [show gend c.length at2 0 = 10 from by unfold gend; rw [if_pos ⟨rfl, hat⟩]] at ec
              have EC := Lib.hid ec
              clear ec
              go_wp2_with fail
              with_reducible refine (EC.out).mono ?_
              rintro e w9 ⟨rfl, hg9, hgr9⟩
              have HU9 := Lib.hid (HU7.out.err hg9 hgr9)
              clear hg9 hgr9
              clear g2 gf gl m0 m1 m2 m3 m4 z0 z1 z2 z3 z4 zf zl n1 n2 n3
              have g2 := HU9.out.gt.cell 2
              have gf := fun o => HU9.out.gt.free o
              have gl := HU9.out.gt.lt
              have m0 := HU9.out.pk.cell 0
              have m1 := HU9.out.pk.cell 1
              have m2 := HU9.out.pk.cell 2
              have m3 := HU9.out.pk.cell 3
              have m4 := HU9.out.pk.cell 4
              have z0 := HU9.out.box.cell 0
              have z1 := HU9.out.box.cell 1
              have z2 := HU9.out.box.cell 2
              have z3 := HU9.out.box.cell 3
              have z4 := HU9.out.box.cell 4
              have zf := fun o => HU9.out.box.free o
              have zl := HU9.out.box.lt
              obtain ⟨n1, n2, n3⟩ := HU9.out.ne
              go_wp2
              exact bodyPost_ret (v := .tuple #[.agg #[.int .i64 0, .int .i64 0, .int .i64 0, .int .i64 0, .slice none 0 0], .int .i64 10]) (by unfold results; rw [Try.results30]; go_simp) rfl ⟨_, rfl, Ow.nil _ _, (((((HU9.out.below.setCell (p := ⟨w.heap.size, 0, none⟩) (Nat.le_refl _) _).setCell (p := ⟨w.heap.size, 1, none⟩) (Nat.le_refl _) _).setCell (p := ⟨w.heap.size, 2, none⟩) (Nat.le_refl _) _).setCell (p := ⟨w.heap.size, 3, none⟩) (Nat.le_refl _) _).setCell (p := ⟨w.heap.size, 4, none⟩) (Nat.le_refl _) _)⟩
            · obtain ⟨rfl, rfl, rfl, rfl, rfl, rfl⟩ : F = a0 ∧ L = a1 ∧ S = a2 ∧ A = a3 ∧ D = d ∧ E = 0 := by have h := hF.out.symm.trans (FC.out.2.2.2 rfl hrb hat); simpa using h
              rw [hrb] at cr
              have CR := Lib.hid cr
              clear hrb cr hF FC
              have g2 := HU.out.gt.cell 2
              have gf := fun o => HU.out.gt.free o
              have gl := HU.out.gt.lt
              have m0 := HU.out.pk.cell 0
              have m1 := HU.out.pk.cell 1
              have m2 := HU.out.pk.cell 2
              have m3 := HU.out.pk.cell 3
              have m4 := HU.out.pk.cell 4
              have z0 := HU.out.box.cell 0
              have z1 := HU.out.box.cell 1
              have z2 := HU.out.box.cell 2
              have z3 := HU.out.box.cell 3
              have z4 := HU.out.box.cell 4
              have zf := fun o => HU.out.box.free o
              have zl := HU.out.box.lt
              obtain ⟨n1, n2, n3⟩ := HU.out.ne
              go_wp2_with fail
              with_reducible refine (CR.out _).mono ?_
              rintro e w7 ⟨rfl, hb7⟩
              have HU7 := Lib.hid (HU.out.below_ hb7)
              clear hb7
              clear g2 gf gl m0 m1 m2 m3 m4 z0 z1 z2 z3 z4 zf zl n1 n2 n3
              have g2 := HU7.out.gt.cell 2
              have gf := fun o => HU7.out.gt.free o
              have gl := HU7.out.gt.lt
              have m0 := HU7.out.pk.cell 0
              have m1 := HU7.out.pk.cell 1
              have m2 := HU7.out.pk.cell 2
              have m3 := HU7.out.pk.cell 3
              have m4 := HU7.out.pk.cell 4
              have z0 := HU7.out.box.cell 0
              have z1 := HU7.out.box.cell 1
              have z2 := HU7.out.box.cell 2
              have z3 := HU7.out.box.cell 3
              have z4 := HU7.out.box.cell 4
              have zf := fun o => HU7.out.box.free o
              have zl := HU7.out.box.lt
              obtain ⟨n1, n2, n3⟩ := HU7.out.ne
              have ec := gend_any p b1 c.length c1 at2 0 _ HU7.out.gt
              rw [show gend c.length at2 0 = 0 from by unfold gend; rw [if_neg (fun q => hat q.2)]] at ec
              have EC := Lib.hid ec
              clear ec
              go_wp2_with fail
              with_reducible refine (EC.out).mono ?_
              rintro e w9 ⟨rfl, hg9, hgr9⟩
              have HU9 := Lib.hid (HU7.out.err hg9 hgr9)
              clear hg9 hgr9
              clear g2 gf gl m0 m1 m2 m3 m4 z0 z1 z2 z3 z4 zf zl n1 n2 n3
              have g2 := HU9.out.gt.cell 2
              have gf := fun o => HU9.out.gt.free o
              have gl := HU9.out.gt.lt
              have m0 := HU9.out.pk.cell 0
              have m1 := HU9.out.pk.cell 1
              have m2 := HU9.out.pk.cell 2
              have m3 := HU9.out.pk.cell 3
              have m4 := HU9.out.pk.cell 4
              have z0 := HU9.out.box.cell 0
              have z1 := HU9.out.box.cell 1
              have z2 := HU9.out.box.cell 2
              have z3 := HU9.out.box.cell 3
              have z4 := HU9.out.box.cell 4
              have zf := fun o => HU9.out.box.free o
              have zl := HU9.out.box.lt
              obtain ⟨n1, n2, n3⟩ := HU9.out.ne
              go_wp2
              exact bodyPost_ret (v := .tuple #[.agg #[.int .i64 F, .int .i64 L, .int .i64 S, .int .i64 A, .slice b5 D.length c5], .int .i64 0]) (by unfold results; rw [Try.results30]; go_simp) rfl ⟨_, rfl, own_kept (HU9.out.own.mono (Nat.le_succ _)) (grown_set (grown_set (grown_set (grown_set (grown_set (grown_refl w9 (some w.heap.size)) 0 _) 1 _) 2 _) 3 _) 4 _) (fun k hk e => by have h1 := (HU9.out.own.lt k hk).1; have h2 := Option.some.inj e; omega), (((((HU9.out.below.setCell (p := ⟨w.heap.size, 0, none⟩) (Nat.le_refl _) _).setCell (p := ⟨w.heap.size, 1, none⟩) (Nat.le_refl _) _).setCell (p := ⟨w.heap.size, 2, none⟩) (Nat.le_refl _) _).setCell (p := ⟨w.heap.size, 3, none⟩) (Nat.le_refl _) _).setCell (p := ⟨w.heap.size, 4, none⟩) (Nat.le_refl _) _)⟩
        · obtain ⟨rfl, rfl, rfl, rfl, rfl, rfl⟩ : F = 0 ∧ L = 0 ∧ S = 0 ∧ A = 0 ∧ D = [] ∧ E = e1 := by have h := hF.out.symm.trans (FC.out.1 he); simpa using h
          have he1 : ((E : Int) == 0) = false := bneI (by omega)
          have he2 : ((E : Int) != 0) = true := by rw [bne_iff_ne]; omega
          clear hF FC
          have g2 := HU.out.gt.cell 2
          have gf := fun o => HU.out.gt.free o
          have gl := HU.out.gt.lt
          have m0 := HU.out.pk.cell 0
          have m1 := HU.out.pk.cell 1
          have m2 := HU.out.pk.cell 2
          have m3 := HU.out.pk.cell 3
          have m4 := HU.out.pk.cell 4
          have z0 := HU.out.box.cell 0
          have z1 := HU.out.box.cell 1
          have z2 := HU.out.box.cell 2
          have z3 := HU.out.box.cell 3
          have z4 := HU.out.box.cell 4
          have zf := fun o => HU.out.box.free o
          have zl := HU.out.box.lt
          obtain ⟨n1, n2, n3⟩ := HU.out.ne
          have ec := gend_any p b1 c.length c1 at2 E _ HU.out.gt
          rw [show gend c.length at2 E = E from by unfold gend; rw [if_neg (fun q => he q.1)]] at ec
          have EC := Lib.hid ec
          clear ec
          go_wp2_with fail
          with_reducible refine (EC.out).mono ?_
          rintro e w9 ⟨rfl, hg9, hgr9⟩
          have HU9 := Lib.hid (HU.out.err hg9 hgr9)
          clear hg9 hgr9
          clear g2 gf gl m0 m1 m2 m3 m4 z0 z1 z2 z3 z4 zf zl n1 n2 n3
          have g2 := HU9.out.gt.cell 2
          have gf := fun o => HU9.out.gt.free o
          have gl := HU9.out.gt.lt
          have m0 := HU9.out.pk.cell 0
          have m1 := HU9.out.pk.cell 1
          have m2 := HU9.out.pk.cell 2
          have m3 := HU9.out.pk.cell 3
          have m4 := HU9.out.pk.cell 4
          have z0 := HU9.out.box.cell 0
          have z1 := HU9.out.box.cell 1
          have z2 := HU9.out.box.cell 2
          have z3 := HU9.out.box.cell 3
          have z4 := HU9.out.box.cell 4
          have zf := fun o => HU9.out.box.free o
          have zl := HU9.out.box.lt
          obtain ⟨n1, n2, n3⟩ := HU9.out.ne
          go_wp2
          exact bodyPost_ret (v := .tuple #[.agg #[.int .i64 0, .int .i64 0, .int .i64 0, .int .i64 0, .slice none 0 0], .int .i64 E]) (by unfold results; rw [Try.results30]; go_simp) rfl ⟨_, rfl, Ow.nil _ _, (((((HU9.out.below.setCell (p := ⟨w.heap.size, 0, none⟩) (Nat.le_refl _) _).setCell (p := ⟨w.heap.size, 1, none⟩) (Nat.le_refl _) _).setCell (p := ⟨w.heap.size, 2, none⟩) (Nat.le_refl _) _).setCell (p := ⟨w.heap.size, 3, none⟩) (Nat.le_refl _) _).setCell (p := ⟨w.heap.size, 4, none⟩) (Nat.le_refl _) _)⟩
      · have UFX := uf_two (c := c) (v := .slice b1 c.length c1) (a0 := a0) (a1 := a1) (a2 := a2) (a3 := a3) hg5 ho5 hgr5 HW.out HX.out HO.out (by omega) (by omega)
        generalize (((((w5.setCell ⟨wr.heap.size, 0, none⟩ (.int .i64 a0)).setCell ⟨wr.heap.size, 1, none⟩ (.int .i64 a1)).setCell ⟨wr.heap.size, 2, none⟩ (.int .i64 a2)).setCell ⟨wr.heap.size, 3, none⟩ (.int .i64 a3)).setCell ⟨wr.heap.size, 4, none⟩ (.slice b5 d.length c5)) = w6 at UFX ⊢
        generalize wr.heap.size = q at UFX ⊢
        have HU := Lib.hid UFX
        clear UFX
        by_cases he : e1 = 0
        · subst he
          have cr := fun W => right_any a0 a1 a2 a3 b5 d.length c5 W
          cases hrb : rightB a0 a1 a2 a3 d.length with
          | false =>
            obtain ⟨rfl, rfl, rfl, rfl, rfl, rfl⟩ : F = 0 ∧ L = 0 ∧ S = 0 ∧ A = 0 ∧ D = [] ∧ E = 14 := by have h := hF.out.symm.trans (FC.out.2.1 rfl hrb); simpa using h
            rw [hrb] at cr
            have CR := Lib.hid cr
            clear hrb cr hF FC
            have g2 := HU.out.gt.cell 2
            have gf := fun o => HU.out.gt.free o
            have gl := HU.out.gt.lt
            have m0 := HU.out.pk.cell 0
            have m1 := HU.out.pk.cell 1
            have m2 := HU.out.pk.cell 2
            have m3 := HU.out.pk.cell 3
            have m4 := HU.out.pk.cell 4
            have z0 := HU.out.box.cell 0
            have z1 := HU.out.box.cell 1
            have z2 := HU.out.box.cell 2
            have z3 := HU.out.box.cell 3
            have z4 := HU.out.box.cell 4
            have zf := fun o => HU.out.box.free o
            have zl := HU.out.box.lt
            obtain ⟨n1, n2, n3⟩ := HU.out.ne
            go_wp2_with fail
            with_reducible refine (CR.out _).mono ?_
            rintro e w7 ⟨rfl, hb7⟩
            have HU7 := Lib.hid (HU.out.below_ hb7)
            clear hb7
            clear g2 gf gl m0 m1 m2 m3 m4 z0 z1 z2 z3 z4 zf zl n1 n2 n3
            have g2 := HU7.out.gt.cell 2
            have gf := fun o => HU7.out.gt.free o
            have gl := HU7.out.gt.lt
            have m0 := HU7.out.pk.cell 0
            have m1 := HU7.out.pk.cell 1
            have m2 := HU7.out.pk.cell 2
            have m3 := HU7.out.pk.cell 3
            have m4 := HU7.out.pk.cell 4
            have z0 := HU7.out.box.cell 0
            have z1 := HU7.out.box.cell 1
            have z2 := HU7.out.box.cell 2
            have z3 := HU7.out.box.cell 3
            have z4 := HU7.out.box.cell 4
            have zf := fun o => HU7.out.box.free o
            have zl := HU7.out.box.lt
            obtain ⟨n1, n2, n3⟩ := HU7.out.ne
            have hfin := (HU7.out.gt.set 2 (.int .i64 14))
            have hgr := grown_set (grown_refl w7 (some p)) 2 (.int .i64 14)
            have HU8 := Lib.hid (HU7.out.err (e2 := 14) hfin hgr)
            clear hfin hgr
            have ec := gend_any p b1 c.length c1 at2 14 _ HU8.out.gt
            rw [show gend c.length at2 14 = 14 from by unfold gend; rw [if_neg (fun q => by cases q.1)]] at ec
            have EC := Lib.hid ec
            clear ec
            go_wp2_with fail
            with_reducible refine (EC.out).mono ?_
            rintro e w9 ⟨rfl, hg9, hgr9⟩
            have HU9 := Lib.hid (HU8.out.err hg9 hgr9)
            clear hg9 hgr9
            clear g2 gf gl m0 m1 m2 m3 m4 z0 z1 z2 z3 z4 zf zl n1 n2 n3
            have g2 := HU9.out.gt.cell 2
            have gf := fun o => HU9.out.gt.free o
            have gl := HU9.out.gt.lt
            have m0 := HU9.out.pk.cell 0
            have m1 := HU9.out.pk.cell 1
            have m2 := HU9.out.pk.cell 2
            have m3 := HU9.out.pk.cell 3
            have m4 := HU9.out.pk.cell 4
            have z0 := HU9.out.box.cell 0
            have z1 := HU9.out.box.cell 1
            have z2 := HU9.out.box.cell 2
            have z3 := HU9.out.box.cell 3
            have z4 := HU9.out.box.cell 4
            have zf := fun o => HU9.out.box.free o
            have zl := HU9.out.box.lt
            obtain ⟨n1, n2, n3⟩ := HU9.out.ne
            go_wp2
            exact bodyPost_ret (v := .tuple #[.agg #[.int .i64 0, .int .i64 0, .int .i64 0, .int .i64 0, .slice none 0 0], .int .i64 14]) (by unfold results; rw [Try.results30]; go_simp) rfl ⟨_, rfl, Ow.nil _ _, (((((HU9.out.below.setCell (p := ⟨w.heap.size, 0, none⟩) (Nat.le_refl _) _).setCell (p := ⟨w.heap.size, 1, none⟩) (Nat.le_refl _) _).setCell (p := ⟨w.heap.size, 2, none⟩) (Nat.le_refl _) _).setCell (p := ⟨w.heap.size, 3, none⟩) (Nat.le_refl _) _).setCell (p := ⟨w.heap.size, 4, none⟩) (Nat.le_refl _) _)⟩
          | true =>
            by_cases hat : at2 < c.length
            · obtain ⟨rfl, rfl, rfl, rfl, rfl, rfl⟩ : F = 0 ∧ L = 0 ∧ S = 0 ∧ A = 0 ∧ D = [] ∧ E = 10 := by have h := hF.out.symm.trans (FC.out.2.2.1 rfl hrb hat); simpa using h
              rw [hrb] at cr
              have CR := Lib.hid cr
              clear hrb cr hF FC
              have g2 := HU.out.gt.cell 2
              have gf := fun o => HU.out.gt.free o
              have gl := HU.out.gt.lt
              have m0 := HU.out.pk.cell 0
              have m1 := HU.out.pk.cell 1
              have m2 := HU.out.pk.cell 2
              have m3 := HU.out.pk.cell 3
              have m4 := HU.out.pk.cell 4
              have z0 := HU.out.box.cell 0
              have z1 := HU.out.box.cell 1
              have z2 := HU.out.box.cell 2
              have z3 := HU.out.box.cell 3
              have z4 := HU.out.box.cell 4
              have zf := fun o => HU.out.box.free o
              have zl := HU.out.box.lt
              obtain ⟨n1, n2, n3⟩ := HU.out.ne
              go_wp2_with fail
              with_reducible refine (CR.out _).mono ?_
              rintro e w7 ⟨rfl, hb7⟩
              have HU7 := Lib.hid (HU.out.below_ hb7)
              clear hb7
              clear g2 gf gl m0 m1 m2 m3 m4 z0 z1 z2 z3 z4 zf zl n1 n2 n3
              have g2 := HU7.out.gt.cell 2
              have gf := fun o => HU7.out.gt.free o
              have gl := HU7.out.gt.lt
              have m0 := HU7.out.pk.cell 0
              have m1 := HU7.out.pk.cell 1
              have m2 := HU7.out.pk.cell 2
              have m3 := HU7.out.pk.cell 3
              have m4 := HU7.out.pk.cell 4
              have z0 := HU7.out.box.cell 0
              have z1 := HU7.out.box.cell 1
              have z2 := HU7.out.box.cell 2
              have z3 := HU7.out.box.cell 3
              have z4 := HU7.out.box.cell 4
              have zf := fun o => HU7.out.box.free o
              have zl := HU7.out.box.lt
              obtain ⟨n1, n2, n3⟩ := HU7.out.ne
              have ec := gend_any p b1 c.length c1 at2 0 _ HU7.out.gt
              rw [show gend c.length at2 0 = 10 from by unfold gend; rw [if_pos ⟨rfl, hat⟩]] at ec
              have EC := Lib.hid ec
              clear ec
              go_wp2_with fail
              with_reducible refine (EC.out).mono ?_
              rintro e w9 ⟨rfl, hg9, hgr9⟩
              have HU9 := Lib.hid (HU7.out.err hg9 hgr9)
              clear hg9 hgr9
              clear g2 gf gl m0 m1 m2 m3 m4 z0 z1 z2 z3 z4 zf zl n1 n2 n3
              have g2 := HU9.out.gt.cell 2
              have gf := fun o => HU9.out.gt.free o
              have gl := HU9.out.gt.lt
              have m0 := HU9.out.pk.cell 0
              have m1 := HU9.out.pk.cell 1
              have m2 := HU9.out.pk.cell 2
              have m3 := HU9.out.pk.cell 3
              have m4 := HU9.out.pk.cell 4
              have z0 := HU9.out.box.cell 0
              have z1 := HU9.out.box.cell 1
              have z2 := HU9.out.box.cell 2
              have z3 := HU9.out.box.cell 3
              have z4 := HU9.out.box.cell 4
              have zf := fun o => HU9.out.box.free o
              have zl := HU9.out.box.lt
              obtain ⟨n1, n2, n3⟩ := HU9.out.ne
              go_wp2
              exact bodyPost_ret (v := .tuple #[.agg #[.int .i64 0, .int .i64 0, .int .i64 0, .int .i64 0, .slice none 0 0], .int .i64 10]) (by unfold results; rw [Try.results30]; go_simp) rfl ⟨_, rfl, Ow.nil _ _, (((((HU9.out.below.setCell (p := ⟨w.heap.size, 0, none⟩) (Nat.le_refl _) _).setCell (p := ⟨w.heap.size, 1, none⟩) (Nat.le_refl _) _).setCell (p := ⟨w.heap.size, 2, none⟩) (Nat.le_refl _) _).setCell (p := ⟨w.heap.size, 3, none⟩) (Nat.le_refl _) _).setCell (p := ⟨w.heap.size, 4, none⟩) (Nat.le_refl _) _)⟩
            · obtain ⟨rfl, rfl, rfl, rfl, rfl, rfl⟩ : F = a0 ∧ L = a1 ∧ S = a2 ∧ A = a3 ∧ D = d ∧ E = 0 := by have h := hF.out.symm.trans (FC.out.2.2.2 rfl hrb hat); simpa using h
              rw [hrb] at cr
              have CR := Lib.hid cr
              clear hrb cr hF FC
              have g2 := HU.out.gt.cell 2
              have gf := fun o => HU.out.gt.free o
              have gl := HU.out.gt.lt
              have m0 := HU.out.pk.cell 0
              have m1 := HU.out.pk.cell 1
              have m2 := HU.out.pk.cell 2
              have m3 := HU.out.pk.cell 3
              have m4 := HU.out.pk.cell 4
              have z0 := HU.out.box.cell 0
              have z1 := HU.out.box.cell 1
              have z2 := HU.out.box.cell 2
              have z3 := HU.out.box.cell 3
              have z4 := HU.out.box.cell 4
              have zf := fun o => HU.out.box.free o
              have zl := HU.out.box.lt
              obtain ⟨n1, n2, n3⟩ := HU.out.ne
              go_wp2_with fail
              with_reducible refine (CR.out _).mono ?_
              rintro e w7 ⟨rfl, hb7⟩
              have HU7 := Lib.hid (HU.out.below_ hb7)
              clear hb7
              clear g2 gf gl m0 m1 m2 m3 m4 z0 z1 z2 z3 z4 zf zl n1 n2 n3
              have g2 := HU7.out.gt.cell 2
              have gf := fun o => HU7.out.gt.free o
              have gl := HU7.out.gt.lt
              have m0 := HU7.out.pk.cell 0
              have m1 := HU7.out.pk.cell 1
              have m2 := HU7.out.pk.cell 2
              have m3 := HU7.out.pk.cell 3
              have m4 := HU7.out.pk.cell 4
              have z0 := HU7.out.box.cell 0
              have z1 := HU7.out.box.cell 1
              have z2 := HU7.out.box.cell 2
              have z3 := HU7.out.box.cell 3
              have z4 := HU7.out.box.cell 4
              have zf := fun o => HU7.out.box.free o
              have zl := HU7.out.box.lt
              obtain ⟨n1, n2, n3⟩ := HU7.out.ne
              have ec := gend_any p b1 c.length c1 at2 0 _ HU7.out.gt
              rw [show gend c.length at2 0 = 0 from by unfold gend; rw [if_neg (fun q => hat q.2)]] at ec
              have EC := Lib.hid ec
              clear ec
              go_wp2_with fail
              with_reducible refine (EC.out).mono ?_
              rintro e w9 ⟨rfl, hg9, hgr9⟩
              have HU9 := Lib.hid (HU7.out.err hg9 hgr9)
              clear hg9 hgr9
              clear g2 gf gl m0 m1 m2 m3 m4 z0 z1 z2 z3 z4 zf zl n1 n2 n3
              have g2 := HU9.out.gt.cell 2
              have gf := fun o => HU9.out.gt.free o
              have gl := HU9.out.gt.lt
              have m0 := HU9.out.pk.cell 0
              have m1 := HU9.out.pk.cell 1
              have m2 := HU9.out.pk.cell 2
              have m3 := HU9.out.pk.cell 3
              have m4 := HU9.out.pk.cell 4
              have z0 := HU9.out.box.cell 0
              have z1 := HU9.out.box.cell 1
              have z2 := HU9.out.box.cell 2
              have z3 := HU9.out.box.cell 3
              have z4 := HU9.out.box.cell 4
              have zf := fun o => HU9.out.box.free o
              have zl := HU9.out.box.lt
              obtain ⟨n1, n2, n3⟩ := HU9.out.ne
              go_wp2
              exact bodyPost_ret (v := .tuple #[.agg #[.int .i64 F, .int .i64 L, .int .i64 S, .int .i64 A, .slice b5 D.length c5], .int .i64 0]) (by unfold results; rw [Try.results30]; go_simp) rfl ⟨_, rfl, own_kept (HU9.out.own.mono (Nat.le_succ _)) (grown_set (grown_set (grown_set (grown_set (grown_set (grown_refl w9 (some w.heap.size)) 0 _) 1 _) 2 _) 3 _) 4 _) (fun k hk e => by have h1 := (HU9.out.own.lt k hk).1; have h2 := Option.some.inj e; omega), (((((HU9.out.below.setCell (p := ⟨w.heap.size, 0, none⟩) (Nat.le_refl _) _).setCell (p := ⟨w.heap.size, 1, none⟩) (Nat.le_refl _) _).setCell (p := ⟨w.heap.size, 2, none⟩) (Nat.le_refl _) _).setCell (p := ⟨w.heap.size, 3, none⟩) (Nat.le_refl _) _).setCell (p := ⟨w.heap.size, 4, none⟩) (Nat.le_refl _) _)⟩
        · obtain ⟨rfl, rfl, rfl, rfl, rfl, rfl⟩ : F = 0 ∧ L = 0 ∧ S = 0 ∧ A = 0 ∧ D = [] ∧ E = e1 := by have h := hF.out.symm.trans (FC.out.1 he); simpa using h
          have he1 : ((E : Int) == 0) = false := bneI (by omega)
          have he2 : ((E : Int) != 0) = true := by rw [bne_iff_ne]; omega
          clear hF FC
          have g2 := HU.out.gt.cell 2
          have gf := fun o => HU.out.gt.free o
          have gl := HU.out.gt.lt
          have m0 := HU.out.pk.cell 0
          have m1 := HU.out.pk.cell 1
          have m2 := HU.out.pk.cell 2
          have m3 := HU.out.pk.cell 3
          have m4 := HU.out.pk.cell 4
          have z0 := HU.out.box.cell 0
          have z1 := HU.out.box.cell 1
          have z2 := HU.out.box.cell 2
          have z3 := HU.out.box.cell 3
          have z4 := HU.out.box.cell 4
          have zf := fun o => HU.out.box.free o
          have zl := HU.out.box.lt
          obtain ⟨n1, n2, n3⟩ := HU.out.ne
          have ec := gend_any p b1 c.length c1 at2 E _ HU.out.gt
          rw [show gend c.length at2 E = E from by unfold gend; rw [if_neg (fun q => he q.1)]] at ec
          have EC := Lib.hid ec
          clear ec
          go_wp2_with fail
          with_reducible refine (EC.out).mono ?_
          rintro e w9 ⟨rfl, hg9, hgr9⟩
          have HU9 := Lib.hid (HU.out.err hg9 hgr9)
          clear hg9 hgr9
          clear g2 gf gl m0 m1 m2 m3 m4 z0 z1 z2 z3 z4 zf zl n1 n2 n3
          have g2 := HU9.out.gt.cell 2
          have gf := fun o => HU9.out.gt.free o
          have gl := HU9.out.gt.lt
          have m0 := HU9.out.pk.cell 0
          have m1 := HU9.out.pk.cell 1
          have m2 := HU9.out.pk.cell 2
          have m3 := HU9.out.pk.cell 3
          have m4 := HU9.out.pk.cell 4
          have z0 := HU9.out.box.cell 0
          have z1 := HU9.out.box.cell 1
          have z2 := HU9.out.box.cell 2
          have z3 := HU9.out.box.cell 3
          have z4 := HU9.out.box.cell 4
          have zf := fun o => HU9.out.box.free o
          have zl := HU9.out.box.lt
          obtain ⟨n1, n2, n3⟩ := HU9.out.ne
          go_wp2
          exact bodyPost_ret (v := .tuple #[.agg #[.int .i64 0, .int .i64 0, .int .i64 0, .int .i64 0, .slice none 0 0], .int .i64 E]) (by unfold results; rw [Try.results30]; go_simp) rfl ⟨_, rfl, Ow.nil _ _, (((((HU9.out.below.setCell (p := ⟨w.heap.size, 0, none⟩) (Nat.le_refl _) _).setCell (p := ⟨w.heap.size, 1, none⟩) (Nat.le_refl _) _).setCell (p := ⟨w.heap.size, 2, none⟩) (Nat.le_refl _) _).setCell (p := ⟨w.heap.size, 3, none⟩) (Nat.le_refl _) _).setCell (p := ⟨w.heap.size, 4, none⟩) (Nat.le_refl _) _)⟩
end Go.Proofs.Ytndfelbgppbncaa
