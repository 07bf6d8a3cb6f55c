/- The evaluator's soundness, third part: writing and making. -/
import Derived.Test.YtndfelbgppbncaaEvRel
set_option linter.unusedVariables false
namespace Go.Proofs.Ytndfelbgppbncaa.Ev
theorem isCell_oneCell {v : Value} (h : isCell v = true) : v.oneCell' = true := by
  cases v <;> first | rfl | cases h
theorem VR.isCell_eq {ι : Inj} {v v' : Value} (h : VR ι v v') : isCell v' = isCell v := by cases h <;> rfl
theorem VRL.all_isCell {ι : Inj} : ∀ {l l' : List Value}, VRL ι l l' → l.all isCell = true → l'.all isCell = true
  | _, _, .nil, h => h
  | _, _, .cons e r, h => by
    simp only [List.all_cons, Bool.and_eq_true] at h ⊢
    exact ⟨e.isCell_eq.trans h.1, VRL.all_isCell r h.2⟩

/-- What a write into one block leaves. -/
structure Wrote (w w' : World) (B j : Nat) (vs : List Value) (c : Array Value) (e : TypeId) (fr : Nat × Nat) (c' : Array Value) : Prop where
  blk : w'.heap[B]? = some (.cells c' e fr)
  csize : c'.size = c.size
  cell : ∀ i, c'[i]? = if j ≤ i ∧ i < j + vs.length then vs[i - j]? else c[i]?
  other : ∀ B', B' ≠ B → w'.heap[B']? = w.heap[B']?
  size : w'.heap.size = w.heap.size
  os : w'.os = w.os
  tape : w'.tape = w.tape
  output : w'.output = w.output

theorem setCell_wrote {w : World} {B j : Nat} {c : Array Value} {e : TypeId} {fr : Nat × Nat} (v : Value) (hB : w.heap[B]? = some (.cells c e fr)) (hj : j < c.size) :
    Wrote w (w.setCell ⟨B, j, none⟩ v) B j [v] c e fr (c.setIfInBounds j v) := by
  have hlt : B < w.heap.size := (Array.getElem?_eq_some_iff.1 hB).1
  refine ⟨?_, by simp, fun i => ?_, fun B' hne => ?_, by simp [World.setCell], rfl, rfl, rfl⟩
  · have hg : w.heap[B] = .cells c e fr := (Array.getElem?_eq_some_iff.1 hB).2
    have hlt' : B < (w.heap.modify B fun | .cells c elem frozen => Obj.cells (c.setIfInBounds j v) elem frozen | o => o).size := by simpa using hlt
    show (w.heap.modify B fun | .cells c elem frozen => Obj.cells (c.setIfInBounds j v) elem frozen | o => o)[B]? = _
    rw [Array.getElem?_eq_getElem hlt', Array.getElem_modify_self, hg]
  · by_cases hi : i = j
    · subst hi; simp [hj]
    · rw [if_neg (by simp; omega)]
      exact Array.getElem?_setIfInBounds_ne (Ne.symm hi)
  · simp [World.setCell, Array.getElem?_modify, Ne.symm hne]

theorem run_store_cells {P : Program} (B j0 : Nat) (e : TypeId) (fr : Nat × Nat) : ∀ (vs : List Value) (k : Nat) (c : Array Value) (w : World),
    w.heap[B]? = some (.cells c e fr) → FrOK fr c.size → j0 + k + vs.length ≤ c.size → vs.all isCell = true →
    ∃ w' c', (storeCells ⟨B, j0, none⟩ vs k).run P w = .ok () w' ∧ Wrote w w' B (j0 + k) vs c e fr c' := by
  intro vs
  induction vs with
  | nil =>
    intro k c w hB hf hl ha
    exact ⟨w, c, rfl, hB, rfl, fun i => by rw [if_neg (by simp)], fun _ _ => rfl, rfl, rfl, rfl, rfl⟩
  | cons v r ih =>
    intro k c w hB hf hl ha
    simp only [List.all_cons, Bool.and_eq_true] at ha
    simp only [List.length_cons] at hl
    have hj : j0 + k < c.size := by omega
    have hcell : w.cell? ⟨B, j0 + k, none⟩ = some c[j0 + k] := by rw [cell?_of hB]; exact Array.getElem?_eq_getElem hj
    have hfro : w.frozen? ⟨B, j0 + k, none⟩ = false := by
      simp only [World.frozen?, hB]
      unfold FrOK at hf
      have : ¬ (fr.1 ≤ j0 + k ∧ j0 + k < fr.2) := by omega
      simpa using this
    have hst : (store ((⟨B, j0, none⟩ : Addr).add k) v).run P w = .ok () (w.setCell ⟨B, j0 + k, none⟩ v) := by
      rw [add_plain, run_store P w _ v _ (isCell_oneCell ha.1), hcell]
      simp [hfro]
    have w1 := setCell_wrote (w := w) v hB hj
    obtain ⟨w', c', hrun, hw⟩ := ih (k + 1) _ _ w1.blk (by rw [w1.csize]; exact hf) (by rw [w1.csize]; omega) ha.2
    refine ⟨w', c', ?_, hw.blk, hw.csize.trans w1.csize, fun i => ?_, fun B' hne => (hw.other B' hne).trans (w1.other B' hne), hw.size.trans w1.size, hw.os.trans w1.os, hw.tape.trans w1.tape, hw.output.trans w1.output⟩
    · simp only [storeCells, Sem.run_bind, hst, Result.andThen]
      exact hrun
    · rw [hw.cell, w1.cell]
      by_cases h1 : j0 + (k + 1) ≤ i ∧ i < j0 + (k + 1) + r.length
      · rw [if_pos h1, if_pos (by simp; omega)]
        rw [show i - (j0 + k) = (i - (j0 + (k + 1))) + 1 by omega]
        simp
      · rw [if_neg h1]
        by_cases h2 : i = j0 + k
        · subst h2; rw [if_pos (by simp), if_pos (by simp)]; simp
        · rw [if_neg (by simp; omega), if_neg (by simp; omega)]

/-- A write through the relation: the block's new tree. -/
theorem Rel.wrote {base : Nat} {ι : Inj} {h : Heap} {w w' : World} (r : Rel base ι h w) {b B o S i n : Nat} {pat : List Value} {tr : Tr Value} {vs vs' : List Value} {c c' : Array Value} {e : TypeId} {fr : Nat × Nat}
    (eb : ι b = some (B, o, S)) (hb : h.blk b = some (.cells true n pat tr)) (hB : w.heap[B]? = some (.cells c e fr)) (hv : VRL ι vs vs') (hc : vs.all isCell = true) (hn : i + vs.length ≤ n)
    (hw : Wrote w w' B (o + i) vs' c e fr c') :
    Rel base ι (h.put b (.cells true n pat (setN vs i tr))) w' ∧ Ext ι h w ι (h.put b (.cells true n pat (setN vs i tr))) w' := by
  have hlen : vs.length = vs'.length := hv.length
  obtain ⟨c0, e0, fr0, hB0, ⟨hS0, hn0⟩, hg0, ho0, _⟩ := r.blk b B o S true n pat tr eb hb
  rw [hB] at hB0
  obtain ⟨rfl, rfl, rfl⟩ : c = c0 ∧ e = e0 ∧ fr = fr0 := by simpa using hB0
  have hbn : b < h.next := Nat.lt_of_not_le fun hle => by have := (r.fresh b hle).1; rw [eb] at this; cases this
  have hown : ∀ b', ownB ((h.put b (.cells true n pat (setN vs i tr))).blk b') = ownB (h.blk b') := fun b' => by
    rw [blk_put]
    by_cases q : b' = b
    · subst q; rw [if_pos rfl, hb]; rfl
    · rw [if_neg q]
  refine ⟨⟨fun b' hb' => ?_, by rw [hw.size]; exact r.low, fun b' B' o' S' own n' pat' tr' e' hk' => ?_, fun b1 b2 B1 o1 o2 h1 h2 h3 h4 => ?_⟩, ?_⟩
  · rw [next_put] at hb'
    have := r.fresh b' hb'
    exact ⟨this.1, by rw [blk_put, if_neg (by omega)]; exact this.2⟩
  · rw [blk_put] at hk'
    by_cases q : b' = b
    · subst q
      rw [eb] at e'
      obtain ⟨rfl, rfl, rfl⟩ : B = B' ∧ o = o' ∧ S = S' := by simpa using e'
      rw [if_pos rfl] at hk'
      obtain ⟨rfl, rfl, rfl, rfl⟩ : true = own ∧ n = n' ∧ pat = pat' ∧ setN vs i tr = tr' := by simpa using hk'
      refine ⟨c', e, fr, hw.blk, by rw [hw.csize]; exact ⟨hS0, hn0⟩, fun m v hm => ?_, fun _ => ⟨(ho0 rfl).1, by rw [hw.csize]; exact (ho0 rfl).2⟩, fun q => by cases q⟩
      rw [get_setN_cells true true] at hm
      rw [hw.cell]
      by_cases hin : i ≤ m ∧ m < i + vs.length ∧ m < n
      · rw [if_pos hin] at hm
        obtain ⟨v', hv', hr⟩ := hv.get _ _ hm
        refine ⟨List.all_eq_true.1 hc v (List.mem_of_getElem? hm), v', ?_, hr⟩
        rw [if_pos (by omega), show o + m - (o + i) = m - i by omega]
        exact hv'
      · rw [if_neg hin] at hm
        have hmn := get_lt hm
        rw [if_neg (by omega)]
        exact hg0 m v hm
    · rw [if_neg q] at hk'
      obtain ⟨c1, e1, fr1, hB1, hrest⟩ := r.blk b' B' o' S' own n' pat' tr' e' hk'
      have hne : B' ≠ B := fun hBB => by
        subst hBB
        cases own with
        | true => exact q (r.apart b' b B' _ _ e' eb (by rw [hk']; rfl) (by rw [hb]; rfl))
        | false => have := hrest.2.2.2 rfl; have := (ho0 rfl).1; omega
      exact ⟨c1, e1, fr1, (hw.other B' hne).trans hB1, hrest⟩
  · rw [hown] at h3 h4; exact r.apart b1 b2 B1 o1 o2 h1 h2 h3 h4
  · refine ⟨Inj.le_refl ι, fun b' hb' e' => ⟨e', ?_⟩, fun b' hb' e' => ?_, Nat.le_of_eq (next_put _ _ _).symm, Nat.le_of_eq hw.size.symm, fun B' hB' hn' => ?_, fun B' hB' ho' => ?_, hw.os, hw.tape, hw.output⟩
    · rw [blk_put, if_neg (fun q => by subst q; rw [eb] at e'; cases e')]
    · rw [blk_put, if_neg (fun q => by subst q; rw [hb] at e'; cases e')]; exact e'
    · exact hw.other B' fun q => hn' ⟨b, _, by rw [q]; exact eb, by rw [hb]; rfl⟩
    · obtain ⟨b', o', h1, h2⟩ := ho'
      rw [hown] at h2
      exact ⟨b', o', h1, h2⟩

/-- A store, as the machine does it. -/
theorem Rel.store {P : Program} {base : Nat} {ι : Inj} {h : Heap} {w : World} (r : Rel base ι h w) {b B o S i n j : Nat} {pat : List Value} {tr : Tr Value} {vs vs' : List Value}
    (eb : ι b = some (B, o, S)) (hb : h.blk b = some (.cells true n pat tr)) (hj : j = o + i) (hv : VRL ι vs vs') (hc : vs.all isCell = true) (hn : i + vs.length ≤ n) :
    ∃ w', (storeCells ⟨B, j, none⟩ vs').run P w = .ok () w' ∧ Rel base ι (h.put b (.cells true n pat (setN vs i tr))) w' ∧ Ext ι h w ι (h.put b (.cells true n pat (setN vs i tr))) w' := by
  obtain ⟨c, e, fr, hB, ⟨hS0, hn0⟩, hg0, ho0, _⟩ := r.blk b B o S true n pat tr eb hb
  have hlen : vs.length = vs'.length := hv.length
  obtain ⟨w', c', hrun, hw⟩ := run_store_cells (P := P) B j e fr vs' 0 c w hB (ho0 rfl).2 (by omega) (hv.all_isCell hc)
  subst hj
  exact ⟨w', hrun, r.wrote eb hb hB hv hc hn (by simpa using hw)⟩

theorem storeV_spec {h h' : Heap} {a : Addr} {vs : List Value} {v v0 : Value} (e : storeV h a vs v = .ok v0 h') :
    ∃ b i n pat tr, a = ⟨b, i, none⟩ ∧ v0 = v ∧ h.blk b = some (.cells true n pat tr) ∧ i + vs.length ≤ n ∧ h' = h.put b (.cells true n pat (setN vs i tr)) := by
  obtain ⟨b, i, s⟩ := a
  cases s with
  | some s => cases e
  | none =>
    have e' : (@Option.rec Blk (fun _ => VH) .fail (fun k => Blk.rec (fun own n pat tr =>
        Bool.rec .fail (Bool.rec .fail (.ok v (h.put b (.cells true n pat (setN vs i tr)))) (Nat.ble (Nat.add i (len vs)) n)) own) .fail k) (h.blk b)) = VH.ok v0 h' := e
    cases hk : h.blk b with
    | none => rw [hk] at e'; cases e'
    | some k =>
      rw [hk] at e'
      cases k with
      | dead => cases e'
      | cells own n pat tr =>
        cases own with
        | false => cases e'
        | true =>
          have e'' : (@Bool.rec (fun _ => VH) .fail (.ok v (h.put b (.cells true n pat (setN vs i tr)))) (Nat.ble (Nat.add i (len vs)) n)) = VH.ok v0 h' := e'
          cases hb : Nat.ble (Nat.add i (len vs)) n with
          | false => rw [hb] at e''; cases e''
          | true =>
            rw [hb] at e''
            cases e''
            have := Nat.le_of_ble_eq_true hb
            rw [len_eq] at this
            exact ⟨b, i, n, pat, tr, rfl, rfl, hk, this, rfl⟩

/-! ### making -/
def Inj.up (ι : Inj) (b : Nat) (x : Nat × Nat × Nat) : Inj := fun b' => if b' = b then some x else ι b'
theorem Inj.up_self (ι : Inj) (b : Nat) (x : Nat × Nat × Nat) : ι.up b x b = some x := by simp [Inj.up]
theorem Inj.up_ne (ι : Inj) {b b' : Nat} (x : Nat × Nat × Nat) (h : b' ≠ b) : ι.up b x b' = ι b' := by simp [Inj.up, h]
theorem Inj.le_up {ι : Inj} {b : Nat} (x : Nat × Nat × Nat) (h : ι b = none) : ι.le (ι.up b x) := fun b' y e => by
  rw [Inj.up_ne]
  · exact e
  · intro q; subst q; rw [h] at e; cases e

/-- The machine made one block of cells, which the evaluator's block k tells. -/
structure Made (ι : Inj) (w w' : World) (k : Blk) (S : Nat) : Prop where
  ex : ∃ n pat tr c e fr, k = .cells true n pat tr ∧ w'.heap = w.heap.push (.cells c e fr) ∧ (c.size = S ∧ n ≤ c.size) ∧ (∀ i v, k.get i = some v → isCell v = true ∧ ∃ v', c[i]? = some v' ∧ VR ι v v') ∧ FrOK fr c.size
  os : w'.os = w.os
  tape : w'.tape = w.tape
  output : w'.output = w.output

theorem push_old {w w' : World} {x : Obj} (h : w'.heap = w.heap.push x) {B : Nat} (hB : B < w.heap.size) : w'.heap[B]? = w.heap[B]? := by
  rw [h, Array.getElem?_push, if_neg (by omega)]
theorem push_new {w w' : World} {x : Obj} (h : w'.heap = w.heap.push x) : w'.heap[w.heap.size]? = some x := by simp [h]
theorem blk_lt {base : Nat} {ι : Inj} {h : Heap} {w : World} (r : Rel base ι h w) {b B o S : Nat} {own : Bool} {n : Nat} {pat : List Value} {tr : Tr Value} (e : ι b = some (B, o, S)) (hk : h.blk b = some (.cells own n pat tr)) : B < w.heap.size := by
  obtain ⟨c, t, fr, hB, _⟩ := r.blk b B o S own n pat tr e hk
  exact (Array.getElem?_eq_some_iff.1 hB).1
theorem ownB_ex {k : Option Blk} (h : ownB k = true) : ∃ n pat tr, k = some (.cells true n pat tr) := by
  cases k with
  | none => cases h
  | some k => cases k with
    | dead => cases h
    | cells own n pat tr => cases own with
      | false => cases h
      | true => exact ⟨n, pat, tr, rfl⟩

/-- A block with a number that was free, or kept: at a heap h' that has it and else what h has. -/
theorem Rel.made {base : Nat} {ι : Inj} {h h' : Heap} {w w' : World} (r : Rel base ι h w) {id : Nat} {k : Blk} {S : Nat} (m : Made ι w w' k S)
    (hid : ι id = none) (hb : h.blk id = none ∨ h.blk id = some k) (hh : ∀ b, h'.blk b = if b = id then some k else h.blk b) (hn : h.next ≤ h'.next) (hlt : id < h'.next) :
    Rel base (ι.up id (w.heap.size, 0, S)) h' w' := by
  obtain ⟨n, pat, tr, c, e, fr, rfl, hp, ⟨hS, hnc⟩, hg, hf⟩ := m.ex
  have hle := Inj.le_up (w.heap.size, 0, S) hid
  refine ⟨fun b hb' => ?_, by rw [hp, Array.size_push]; exact Nat.le_succ_of_le r.low, fun b B o S' own n' pat' tr' e' hk' => ?_, fun b1 b2 B o1 o2 h1 h2 h3 h4 => ?_⟩
  · have hne : b ≠ id := fun q => by subst q; omega
    have := r.fresh b (Nat.le_trans hn hb')
    exact ⟨by rw [Inj.up_ne _ _ hne]; exact this.1, by rw [hh, if_neg hne]; exact this.2⟩
  · rw [hh] at hk'
    by_cases q : b = id
    · subst q
      rw [Inj.up_self] at e'
      obtain ⟨rfl, rfl, rfl⟩ : w.heap.size = B ∧ 0 = o ∧ S = S' := by simpa using e'
      rw [if_pos rfl] at hk'
      obtain ⟨rfl, rfl, rfl, rfl⟩ : true = own ∧ n = n' ∧ pat = pat' ∧ tr = tr' := by simpa using hk'
      refine ⟨c, _, _, push_new hp, ⟨hS, by omega⟩, fun i v hv => ?_, fun _ => ⟨r.low, hf⟩, fun q => by cases q⟩
      obtain ⟨h1, v', h2, h3⟩ := hg i v hv
      exact ⟨h1, v', by simpa using h2, h3.mono hle⟩
    · rw [if_neg q] at hk'
      rw [Inj.up_ne _ _ q] at e'
      obtain ⟨c1, e1, fr1, hB1, hn1, hg1, hrest⟩ := r.blk b B o S' own n' pat' tr' e' hk'
      refine ⟨c1, e1, fr1, ?_, hn1, fun i v hv => ?_, hrest⟩
      · rw [push_old hp (Array.getElem?_eq_some_iff.1 hB1).1]; exact hB1
      · obtain ⟨h1, v', h2, h3⟩ := hg1 i v hv
        exact ⟨h1, v', h2, h3.mono hle⟩
  · have key : ∀ b o, b ≠ id → ι.up id (w.heap.size, 0, S) b = some (B, o) → ownB (h'.blk b) = true → ι b = some (B, o) ∧ ownB (h.blk b) = true ∧ B < w.heap.size := fun b o q e' ho => by
      rw [Inj.up_ne _ _ q] at e'
      rw [hh, if_neg q] at ho
      obtain ⟨n1, p1, t1, hk1⟩ := ownB_ex ho
      obtain ⟨o1, S1⟩ := o
      exact ⟨e', ho, blk_lt r e' hk1⟩
    have kid : ∀ o, ι.up id (w.heap.size, 0, S) id = some (B, o) → B = w.heap.size := fun o e' => by
      rw [Inj.up_self] at e'
      have := congrArg Prod.fst (Option.some.inj e')
      exact this.symm
    by_cases q1 : b1 = id
    · by_cases q2 : b2 = id
      · rw [q1, q2]
      · subst q1
        have := key b2 o2 q2 h2 h4
        have := kid o1 h1
        omega
    · have k1 := key b1 o1 q1 h1 h3
      by_cases q2 : b2 = id
      · subst q2; have := kid o2 h2; omega
      · have k2 := key b2 o2 q2 h2 h4
        exact r.apart b1 b2 B o1 o2 k1.1 k2.1 k1.2.1 k2.2.1

theorem Ext.made {base : Nat} {ι : Inj} {h : Heap} {w w' : World} (r : Rel base ι h w) {k : Blk} {S : Nat} (m : Made ι w w' k S) : Ext ι h w (ι.up h.next (w.heap.size, 0, S)) (h.new k) w' := by
  obtain ⟨n, pat, tr, c, e, fr, rfl, hp, _⟩ := m.ex
  have hid := (r.fresh h.next (Nat.le_refl _)).1
  refine ⟨Inj.le_up _ hid, fun b hb e' => ⟨?_, ?_⟩, fun b hb e' => ?_, by rw [next_new]; omega, by rw [hp, Array.size_push]; omega, fun B hB _ => push_old hp hB, fun B hB ho => ?_, m.os, m.tape, m.output⟩
  · rw [Inj.up_ne _ _ (by omega)]; exact e'
  · rw [blk_new, if_neg (by omega)]
  · rw [blk_new, if_neg (by omega)]; exact e'
  · obtain ⟨b, o, h1, h2⟩ := ho
    by_cases q : b = h.next
    · subst q
      rw [Inj.up_self] at h1
      have : w.heap.size = B := congrArg Prod.fst (Option.some.inj h1)
      omega
    · rw [Inj.up_ne _ _ q] at h1
      rw [blk_new, if_neg q] at h2
      exact ⟨b, o, h1, h2⟩
theorem Rel.new {base : Nat} {ι : Inj} {h : Heap} {w w' : World} (r : Rel base ι h w) {k : Blk} {S : Nat} (m : Made ι w w' k S) : Rel base (ι.up h.next (w.heap.size, 0, S)) (h.new k) w' :=
  r.made m (r.fresh h.next (Nat.le_refl _)).1 (.inl (r.fresh h.next (Nat.le_refl _)).2) (fun b => blk_new h k b) (by rw [next_new]; omega) (by rw [next_new]; omega)
end Go.Proofs.Ytndfelbgppbncaa.Ev
