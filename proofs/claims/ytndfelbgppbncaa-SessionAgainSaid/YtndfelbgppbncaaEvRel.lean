/- The evaluator's soundness, second part: what its heap says of the machine's memory; reading, writing, making. -/
import Derived.Test.YtndfelbgppbncaaEvBase
import Derived.Laws.Cells
import Derived.Laws.NewBlocks
set_option linter.unusedVariables false
namespace Go.Proofs.Ytndfelbgppbncaa.Ev
/-! ### small equations -/
theorem cellAt_eq (n : Nat) (pat : List Value) (tr : Tr Value) (i : Nat) :
    cellAt n pat tr i = if i < n then (match tr.get (pos i) with | some v => some v | none => pat[i % pat.length]?) else none := by
  show (@Bool.rec (fun _ => Option Value) none (@Option.rec Value (fun _ => Option Value) (nth pat (Nat.mod i (len pat))) (fun v => some v) (tr.get (pos i))) (Nat.blt i n)) = _
  by_cases h : i < n
  · have : Nat.blt i n = true := Nat.ble_eq_true_of_le h
    rw [this, if_pos h]
    show (@Option.rec Value (fun _ => Option Value) (nth pat (Nat.mod i (len pat))) (fun v => some v) (tr.get (pos i))) = _
    cases tr.get (pos i) with
    | none => show nth pat (i % len pat) = _; rw [nth_eq, len_eq]
    | some v => rfl
  · have : Nat.blt i n = false := by
      cases hb : Nat.blt i n with
      | false => rfl
      | true => exact absurd (Nat.le_of_ble_eq_true hb) h
    rw [this, if_neg h]
theorem get_cells (own : Bool) (n : Nat) (pat : List Value) (tr : Tr Value) (i : Nat) : (Blk.cells own n pat tr).get i = cellAt n pat tr i := rfl
theorem get_lt {own : Bool} {n : Nat} {pat : List Value} {tr : Tr Value} {i : Nat} {v : Value} (h : (Blk.cells own n pat tr).get i = some v) : i < n := by
  rw [get_cells, cellAt_eq] at h
  by_cases hi : i < n
  · exact hi
  · rw [if_neg hi] at h; cases h
theorem setN_nil (off : Nat) (t : Tr Value) : setN [] off t = t := rfl
theorem setN_cons (v : Value) (l : List Value) (off : Nat) (t : Tr Value) : setN (v :: l) off t = setN l (off + 1) (t.set v (pos off)) := rfl
theorem get_setN : ∀ (l : List Value) (off : Nat) (t : Tr Value) (i : Nat),
    Tr.get (pos i) (setN l off t) = if off ≤ i ∧ i < off + l.length then l[i - off]? else Tr.get (pos i) t := by
  intro l
  induction l with
  | nil => intro off t i; rw [setN_nil, if_neg (by simp)]
  | cons v l ih =>
    intro off t i
    rw [setN_cons, ih]
    by_cases h1 : off + 1 ≤ i ∧ i < off + 1 + l.length
    · rw [if_pos h1, if_pos (by simp; omega)]
      rw [show i - off = (i - (off + 1)) + 1 by omega]
      simp
    · rw [if_neg h1]
      by_cases h2 : i = off
      · subst h2
        rw [get_set_self, if_pos (by simp)]
        simp
      · rw [get_set_ne _ _ (fun e => h2 (pos_inj e)), if_neg (by simp; omega)]
theorem get_setN_cells (own own' : Bool) (n : Nat) (pat : List Value) (tr : Tr Value) (l : List Value) (off i : Nat) :
    (Blk.cells own n pat (setN l off tr)).get i = if off ≤ i ∧ i < off + l.length ∧ i < n then l[i - off]? else (Blk.cells own' n pat tr).get i := by
  rw [get_cells, get_cells, cellAt_eq, cellAt_eq, get_setN]
  by_cases hn : i < n
  · rw [if_pos hn, if_pos hn]
    by_cases h : off ≤ i ∧ i < off + l.length
    · rw [if_pos h, if_pos ⟨h.1, h.2, hn⟩]
      have : i - off < l.length := by omega
      rw [List.getElem?_eq_getElem this]
    · rw [if_neg h, if_neg (fun e => h ⟨e.1, e.2.1⟩)]
  · rw [if_neg hn, if_neg hn, if_neg (fun e => hn e.2.2)]

@[simp] theorem blk_mk (n : Nat) (bs : Tr Blk) (b : Nat) : Heap.blk ⟨n, bs⟩ b = Tr.get (pos b) bs := rfl
theorem blk_put (h : Heap) (b : Nat) (k : Blk) (b' : Nat) : (h.put b k).blk b' = if b' = b then some k else h.blk b' := by
  cases h with
  | mk n bs =>
    show Tr.get (pos b') (Tr.set k (pos b) bs) = if b' = b then some k else Tr.get (pos b') bs
    rw [get_set]
    by_cases e : b' = b
    · subst e; simp
    · rw [if_neg (fun q => e (pos_inj q)), if_neg e]
theorem next_put (h : Heap) (b : Nat) (k : Blk) : (h.put b k).next = h.next := by cases h; rfl
theorem blk_new (h : Heap) (k : Blk) (b' : Nat) : (h.new k).blk b' = if b' = h.next then some k else h.blk b' := by
  cases h with
  | mk n bs => exact blk_put ⟨n, bs⟩ n k b'
theorem next_new (h : Heap) (k : Blk) : (h.new k).next = h.next + 1 := by cases h; rfl
theorem blk_keep (h : Heap) (n b : Nat) : (h.keep n).blk b = h.blk b := by cases h; rfl
theorem next_keep (h : Heap) (n : Nat) : (h.keep n).next = h.next + n := by cases h; rfl
theorem cell_eq (h : Heap) (b off : Nat) : h.cell ⟨b, off, none⟩ = (match h.blk b with | some k => k.get off | none => none) := by
  show (@Option.rec Blk (fun _ => Option Value) none (fun k => Blk.get k off) (h.blk b)) = _
  cases h.blk b <;> rfl
theorem cell_spot (h : Heap) (b off s : Nat) : h.cell ⟨b, off, some s⟩ = none := rfl
theorem getN_zero (k : Blk) (i : Nat) : k.getN 0 i = some [] := rfl
theorem getN_succ (k : Blk) (n i : Nat) : k.getN (n + 1) i = (match k.get i with | some v => (match k.getN n (i + 1) with | some l => some (v :: l) | none => none) | none => none) := by
  show (@Option.rec Value (fun _ => Option (List Value)) none (fun v => @Option.rec (List Value) (fun _ => Option (List Value)) none (fun l => some (v :: l)) (k.getN n (i + 1))) (k.get i)) = _
  cases k.get i with
  | none => rfl
  | some v => cases k.getN n (i + 1) <;> rfl
theorem getN_spec (k : Blk) : ∀ (n i : Nat) (l : List Value), k.getN n i = some l → l.length = n ∧ ∀ j, j < n → k.get (i + j) = l[j]? := by
  intro n
  induction n with
  | zero => intro i l h; rw [getN_zero] at h; cases h; exact ⟨rfl, fun j hj => absurd hj (Nat.not_lt_zero _)⟩
  | succ n ih =>
    intro i l h
    rw [getN_succ] at h
    cases hv : k.get i with
    | none => rw [hv] at h; cases h
    | some v =>
      rw [hv] at h
      cases hr : k.getN n (i + 1) with
      | none => rw [hr] at h; cases h
      | some r =>
        rw [hr] at h
        cases h
        obtain ⟨hl, hg⟩ := ih (i + 1) r hr
        refine ⟨by simp [hl], fun j hj => ?_⟩
        cases j with
        | zero => simpa using hv
        | succ j =>
          have := hg j (by omega)
          rw [show i + (j + 1) = i + 1 + j by omega, this]
          simp
theorem loadN_eq (h : Heap) (b off n : Nat) : loadN h ⟨b, off, none⟩ n = (match h.blk b with | some k => k.getN n off | none => none) := by
  show (@Option.rec Blk (fun _ => Option (List Value)) none (fun k => Blk.getN k n off) (h.blk b)) = _
  cases h.blk b <;> rfl
theorem loadN_spot (h : Heap) (b off s n : Nat) : loadN h ⟨b, off, some s⟩ n = none := rfl
@[simp] theorem ownB_none : ownB none = false := rfl
@[simp] theorem ownB_cells (own : Bool) (n : Nat) (pat : List Value) (tr : Tr Value) : ownB (some (.cells own n pat tr)) = own := rfl
@[simp] theorem ownB_dead : ownB (some .dead) = false := rfl

/-! ### the relation -/
/-- Nothing of the cells is frozen. -/
def FrOK (fr : Nat × Nat) (n : Nat) : Prop := fr.1 = fr.2 ∨ n ≤ fr.1
structure Rel (base : Nat) (ι : Inj) (h : Heap) (w : World) : Prop where
  fresh : ∀ b, h.next ≤ b → ι b = none ∧ h.blk b = none
  low : base ≤ w.heap.size
  blk : ∀ b B o S own n pat tr, ι b = some (B, o, S) → h.blk b = some (.cells own n pat tr) →
    ∃ c e fr, w.heap[B]? = some (.cells c e fr) ∧ (c.size = S ∧ o + n ≤ c.size) ∧
      (∀ i v, (Blk.cells own n pat tr).get i = some v → isCell v = true ∧ ∃ v', c[o + i]? = some v' ∧ VR ι v v') ∧
      (own = true → base ≤ B ∧ FrOK fr c.size) ∧ (own = false → B < base)
  apart : ∀ b b' B x x', ι b = some (B, x) → ι b' = some (B, x') → ownB (h.blk b) = true → ownB (h.blk b') = true → b = b'

def Own (ι : Inj) (h : Heap) (B : Nat) : Prop := ∃ b x, ι b = some (B, x) ∧ ownB (h.blk b) = true

structure Ext (ι : Inj) (h : Heap) (w : World) (ι' : Inj) (h' : Heap) (w' : World) : Prop where
  le : ι.le ι'
  old : ∀ b, b < h.next → ι b = none → ι' b = none ∧ h'.blk b = h.blk b
  gone : ∀ b, b < h.next → h.blk b = none → h'.blk b = none
  next : h.next ≤ h'.next
  size : w.heap.size ≤ w'.heap.size
  keep : ∀ B, B < w.heap.size → ¬ Own ι h B → w'.heap[B]? = w.heap[B]?
  own : ∀ B, B < w.heap.size → Own ι' h' B → Own ι h B
  os : w'.os = w.os
  tape : w'.tape = w.tape
  output : w'.output = w.output

theorem Ext.refl (ι : Inj) (h : Heap) (w : World) : Ext ι h w ι h w :=
  ⟨Inj.le_refl ι, fun _ _ e => ⟨e, rfl⟩, fun _ _ e => e, Nat.le_refl _, Nat.le_refl _, fun _ _ _ => rfl, fun _ _ e => e, rfl, rfl, rfl⟩
theorem Ext.trans {ι ι' ι'' : Inj} {h h' h'' : Heap} {w w' w'' : World} (a : Ext ι h w ι' h' w') (b : Ext ι' h' w' ι'' h'' w'') : Ext ι h w ι'' h'' w'' where
  le := Inj.le_trans a.le b.le
  old := fun x hx e => by
    obtain ⟨e1, q1⟩ := a.old x hx e
    obtain ⟨e2, q2⟩ := b.old x (Nat.lt_of_lt_of_le hx a.next) e1
    exact ⟨e2, q2.trans q1⟩
  gone := fun x hx e => b.gone x (Nat.lt_of_lt_of_le hx a.next) (a.gone x hx e)
  next := Nat.le_trans a.next b.next
  size := Nat.le_trans a.size b.size
  keep := fun B hB hn => (b.keep B (Nat.lt_of_lt_of_le hB a.size) fun e => hn (a.own B hB e)).trans (a.keep B hB hn)
  own := fun B hB e => a.own B hB (b.own B (Nat.lt_of_lt_of_le hB a.size) e)
  os := b.os.trans a.os
  tape := b.tape.trans a.tape
  output := b.output.trans a.output

/-- The draws that were made say nothing. -/
def World.drewTo (w : World) (n : Nat) : World := { w with drawn := n }
theorem Rel.drew {base : Nat} {ι : Inj} {h : Heap} {w : World} (r : Rel base ι h w) (n : Nat) : Rel base ι h (World.drewTo w n) := ⟨r.fresh, r.low, r.blk, r.apart⟩
theorem Ext.drew (ι : Inj) (h : Heap) (w : World) (n : Nat) : Ext ι h w ι h (World.drewTo w n) :=
  ⟨Inj.le_refl ι, fun _ _ e => ⟨e, rfl⟩, fun _ _ e => e, Nat.le_refl _, Nat.le_refl _, fun _ _ _ => rfl, fun _ _ e => e, rfl, rfl, rfl⟩

/-! ### reading -/
theorem cell?_of {w : World} {B : Nat} {c : Array Value} {e : TypeId} {fr : Nat × Nat} (hB : w.heap[B]? = some (.cells c e fr)) (j : Nat) : w.cell? ⟨B, j, none⟩ = c[j]? := by
  simp [World.cell?, hB]
theorem Rel.cell {base : Nat} {ι : Inj} {h : Heap} {w : World} (r : Rel base ι h w) {b B o S i : Nat} {v : Value} (e : ι b = some (B, o, S)) (hc : h.cell ⟨b, i, none⟩ = some v) :
    isCell v = true ∧ ∃ v', w.cell? ⟨B, o + i, none⟩ = some v' ∧ VR ι v v' := by
  rw [cell_eq] at hc
  cases hk : h.blk b with
  | none => rw [hk] at hc; cases hc
  | some k =>
    rw [hk] at hc
    cases k with
    | dead => cases hc
    | cells own n pat tr =>
      obtain ⟨c, t, fr, hB, hn, hg, _⟩ := r.blk b B o S own n pat tr e hk
      obtain ⟨h1, v', h2, h3⟩ := hg i v hc
      exact ⟨h1, v', by rw [cell?_of hB]; exact h2, h3⟩
theorem add_plain (B o j : Nat) : (⟨B, o, none⟩ : Addr).add j = ⟨B, o + j, none⟩ := by
  unfold Addr.add
  split
  · subst_vars; rfl
  · rfl
theorem Rel.loadN {base : Nat} {ι : Inj} {h : Heap} {w : World} (r : Rel base ι h w) {b B o S i n j : Nat} {l : List Value} (e : ι b = some (B, o, S)) (hj : j = o + i ∨ n = 0) (hl : loadN h ⟨b, i, none⟩ n = some l) :
    l.length = n ∧ l.all isCell = true ∧ ∃ l', VRL ι l l' ∧ ∀ m u, l'[m]? = some u → w.cell? ((⟨B, j, none⟩ : Addr).add m) = some u := by
  rw [loadN_eq] at hl
  cases hk : h.blk b with
  | none => rw [hk] at hl; cases hl
  | some k =>
    rw [hk] at hl
    obtain ⟨hlen, hget⟩ := getN_spec k n i l hl
    cases k with
    | dead =>
      cases n with
      | zero =>
        have : l = [] := List.eq_nil_of_length_eq_zero hlen
        subst this
        exact ⟨rfl, rfl, [], .nil, fun m u hm => by simp at hm⟩
      | succ n => simp only [getN_succ] at hl; cases hl
    | cells own nn pat tr =>
      obtain ⟨c, t, fr, hB, hn, hg, _⟩ := r.blk b B o S own nn pat tr e hk
      have key : ∀ m v, l[m]? = some v → isCell v = true ∧ ∃ v', c[o + (i + m)]? = some v' ∧ VR ι v v' := fun m v hm => by
        have hmn : m < n := by rw [← hlen]; exact (List.getElem?_eq_some_iff.1 hm).1
        exact hg (i + m) v ((hget m hmn).trans hm)
      refine ⟨hlen, List.all_eq_true.2 fun v hv => ?_, ?_⟩
      · obtain ⟨m, hm⟩ := List.getElem?_of_mem hv
        exact (key m v hm).1
      · refine ⟨(List.range n).map fun m => (c[o + (i + m)]?).getD undefV, VRL.of_get (by simp [hlen]) fun m v v' hm hm' => ?_, fun m u hm => ?_⟩
        · obtain ⟨_, v0, h0, h1⟩ := key m v hm
          have hmn : m < n := by rw [← hlen]; exact (List.getElem?_eq_some_iff.1 hm).1
          simp [hmn, h0] at hm'
          subst hm'; exact h1
        · have hmn : m < n := by
            have := (List.getElem?_eq_some_iff.1 hm).1
            simpa using this
          obtain ⟨v, hv⟩ : ∃ v, l[m]? = some v := ⟨_, List.getElem?_eq_getElem (by omega)⟩
          obtain ⟨_, v0, h0, h1⟩ := key m v hv
          simp [hmn, h0] at hm
          subst hm
          rcases hj with hj | hj
          · subst hj
            rw [add_plain, cell?_of hB, show o + i + m = o + (i + m) by omega, h0]
          · omega
end Go.Proofs.Ytndfelbgppbncaa.Ev
