/- droverlaw08.WordsBlanks: plain facts for the walk: the tokens that are gathered. -/
import Derived.Test.YthbdnbeiafpkcaaDoorWLines
import Derived.Test.YthbdnbeiafpkcaaDoorWPured
set_option linter.unusedVariables false
namespace Go.Proofs.YthbdnbeiafpkcaaDoor
open Go.RowKit
namespace Wo
/-- a token that was told, and its bytes -/
def GoodW (p : Wd × Bs) : Prop := Good ⟨p.1.kind, p.1.s, p.1.n, p.2.length⟩ p.2
theorem next_good (t : Bs) (a : Nat) (ht : t.length ≤ 32768) (ha : a ≤ t.length) (h0 : (nextL t a).err = 0) (h6 : (nextL t a).kind ≠ 6) :
    GoodW (nextL t a, (t.drop (nextL t a).at').take ((nextL t a).end' - (nextL t a).at')) := by
  have hle := passL_le (t.drop a)
  rw [List.length_drop] at hle
  rw [nextL_in t a ht ha] at h0 h6 ⊢
  by_cases he : a + passL (t.drop a) = t.length
  · rw [if_pos he] at h6; exact absurd rfl h6
  · rw [if_neg he] at h0 h6 ⊢
    by_cases hf : (foundL (t.drop (a + passL (t.drop a)))).len = 0
    · rw [if_pos hf] at h0; cases h0
    · rw [if_neg hf]
      have hg := good_of (t.drop (a + passL (t.drop a))) hf
      have hl := foundL_len (t.drop (a + passL (t.drop a)))
      unfold GoodW
      simp only
      rw [show a + passL (t.drop a) + (foundL (t.drop (a + passL (t.drop a)))).len - (a + passL (t.drop a)) = (foundL (t.drop (a + passL (t.drop a)))).len by omega, List.length_take, Nat.min_eq_left hl]
      exact hg
def bytesOf (L : List (Wd × Bs)) : List Bs := L.map (·.2)
theorem bytesOf_snoc (L : List (Wd × Bs)) (p : Wd × Bs) : bytesOf (L ++ [p]) = bytesOf L ++ [p.2] := by unfold bytesOf; simp
theorem again (L : List (Wd × Bs)) (hg : ∀ p ∈ L, GoodW p) (hs : (flat (bytesOf L)).length ≤ 32768) (i : Nat) (h : i < L.length) :
    nextL (flat (bytesOf L)) (pos ((bytesOf L).take i)) = ⟨L[i].1.kind, L[i].1.s, L[i].1.n, i + 1, (flat ((bytesOf L).take i)).length, pos ((bytesOf L).take (i + 1)), 0, 0⟩ := by
  have hi : i < (bytesOf L).length := by unfold bytesOf; rw [List.length_map]; exact h
  have e : bytesOf L = (bytesOf L).take i ++ (bytesOf L)[i] :: (bytesOf L).drop (i + 1) := by
    rw [← List.drop_eq_getElem_cons hi, List.take_append_drop]
  have eb : (bytesOf L)[i] = L[i].2 := List.getElem_map (fun p : Wd × Bs => p.2)
  have hgi := hg L[i] (List.getElem_mem h)
  have hL : ∀ x ∈ (bytesOf L).take i, x.count 10 = 0 := fun x hx => by
    have hx' := List.mem_of_mem_take hx
    unfold bytesOf at hx'
    obtain ⟨p, hp, rfl⟩ := List.mem_map.1 hx'
    exact (hg p hp).line
  rw [e] at hs
  have := next_again ((bytesOf L).take i) ((bytesOf L).drop (i + 1)) ⟨L[i].1.kind, L[i].1.s, L[i].1.n, L[i].2.length⟩ (bytesOf L)[i] (by rw [eb]; exact hgi) hL hs
  rw [← e] at this
  rw [this, List.length_take, Nat.min_eq_left (Nat.le_of_lt hi), List.take_succ_eq_append_getElem hi]
theorem pos_le (L : List Bs) : pos L ≤ (flat L).length := Nat.sub_le _ _
theorem flat_take_le (L : List Bs) (i : Nat) : (flat (L.take i)).length ≤ (flat L).length := by
  conv => rhs; rw [← List.take_append_drop i L, flat_app, List.length_append]
  exact Nat.le_add_right _ _
end Wo
/-- the cells of a word in a slice -/
def wcells (r : Wo.Wd) : List Value := [.int .u8 r.kind, .string (bsOf r.s), .int .i64 r.n, .int .i64 r.line, .int .i64 r.at', .int .i64 r.end']
def lcells (L : List (Wo.Wd × Wo.Bs)) : List Value := L.flatMap fun p => wcells p.1
theorem lcells_snoc (L : List (Wo.Wd × Wo.Bs)) (p : Wo.Wd × Wo.Bs) : lcells (L ++ [p]) = lcells L ++ wcells p.1 := by unfold lcells; simp
theorem lcells_at : ∀ (L : List (Wo.Wd × Wo.Bs)) (i c : Nat) (h : i < L.length) (hc : c < 6), (lcells L)[6 * i + c]? = (wcells L[i].1)[c]?
  | [], i, c, h, _ => by simp at h
  | p :: L, 0, c, h, hc => by
    unfold lcells
    rw [List.flatMap_cons, Nat.mul_zero, Nat.zero_add, List.getElem?_append_left (by exact hc)]; rfl
  | p :: L, i + 1, c, h, hc => by
    have ih := lcells_at L i c (by simpa using h) hc
    unfold lcells at ih ⊢
    rw [List.flatMap_cons, List.getElem?_append_right (by show 6 ≤ _; omega), show 6 * (i + 1) + c - (wcells p.1).length = 6 * i + c by show 6 * (i + 1) + c - 6 = _; omega, ih]; rfl
def sepB : ByteArray := ⟨#[32, 35, 32, 120, 32, 34, 40, 10, 9]⟩
theorem flat_next (S T : ByteArray) (L : List (Wo.Wd × Wo.Bs)) (r : Wo.Wd) (hT : T.data.toList = Wo.flat (Wo.bytesOf L)) :
    (T ++ (S.extract r.at' r.end' ++ sepB)).data.toList = Wo.flat (Wo.bytesOf (L ++ [(r, (S.data.toList.drop r.at').take (r.end' - r.at'))])) := by
  rw [Wo.bytesOf_snoc, Wo.flat_snoc, ByteArray.data_append, Array.toList_append, ByteArray.data_append, Array.toList_append, hT]
  congr 1
  have e : (S.extract r.at' r.end').data.toList = (S.data.toList.drop r.at').take (r.end' - r.at') := by simp [ByteArray.extract, ByteArray.copySlice]
  rw [e]; rfl
theorem Tryd.info_word : (Tryd.prog.info? 24).map (fun i => (i.zero, i.size, i.bytes)) = some (some (.agg #[.int .u8 0, .string ⟨#[]⟩, .int .i64 0, .int .i64 0, .int .i64 0, .int .i64 0]), 6, 56) := by kernel_rfl
theorem own_belowS {w w' : World} {B z : Nat} {e : TypeId} {v : Value} {n : Nat} {xs : List Value} (h : w.ownsRow B e z v n xs) (hb : Below w.heap.size w w') : w'.ownsRow B e z v n xs :=
  h.kept (row := none) ⟨hb.os, hb.tape, hb.output, hb.size, fun k hk _ => hb.block k hk⟩ (by cases v.ownBlock with | none => exact Or.inl rfl | some k => exact Or.inr (by simp))
theorem addPl (B o j : Nat) : (⟨B, o, none⟩ : Addr).add j = ⟨B, o + j, none⟩ := by
  unfold Addr.add
  split
  · subst_vars; rfl
  · rfl
theorem cells_new (w : World) (vs : Array Value) (T : TypeId) (b : Nat) (hb : b = w.heap.size) (j : Nat) (u : Value) (h : vs[j]? = some u) : (w.alloc (.cells vs T)).cell? ((⟨b, 0, none⟩ : Addr).add j) = some u := by
  subst hb
  rw [addPl, Nat.zero_add]
  have hb : (w.alloc (.cells vs T)).heap[w.heap.size]? = some (.cells vs T) := heap_alloc_new _ _
  simp only [World.cell?, hb]; simp [h]
theorem cells_grown {w1 w2 : World} {A B : Array Value} {tA tB : TypeId} {o : Obj} {row : Option Nat} (hg : (((w1.alloc (.cells A tA)).alloc (.cells B tB)).alloc o).grownBy w2 row) (hr : ∀ k, row = some k → k < w1.heap.size) :
    (∀ j, w2.cell? ⟨w1.heap.size, j, none⟩ = A[j]?) ∧ (∀ j, w2.cell? ⟨w1.heap.size + 1, j, none⟩ = B[j]?) := by
  have e1 : (w1.alloc (.cells A tA)).heap.size = w1.heap.size + 1 := by simp
  have e2 : ((w1.alloc (.cells A tA)).alloc (.cells B tB)).heap.size = w1.heap.size + 1 + 1 := by simp
  have h1 : (((w1.alloc (.cells A tA)).alloc (.cells B tB)).alloc o).heap[w1.heap.size]? = some (.cells A tA (0, 0)) := by
    rw [Lib.alloc_old _ _ _ (by rw [e2]; omega), Lib.alloc_old _ _ _ (by rw [e1]; omega)]; exact heap_alloc_new _ _
  have h2 : (((w1.alloc (.cells A tA)).alloc (.cells B tB)).alloc o).heap[w1.heap.size + 1]? = some (.cells B tB (0, 0)) := by
    rw [Lib.alloc_old _ _ _ (by rw [e2]; omega), ← e1]; exact heap_alloc_new _ _
  have g1 := hg.block w1.heap.size (by simp; omega) (fun e => by have := hr _ e.symm; omega)
  have g2 := hg.block (w1.heap.size + 1) (by simp) (fun e => by have := hr _ e.symm; omega)
  refine ⟨fun j => ?_, fun j => ?_⟩
  · unfold World.cell?; simp only [g1, h1]; rfl
  · unfold World.cell?; simp only [g2, h2]; rfl
theorem box_free {w1 w2 : World} {A B : Array Value} {tA tB : TypeId} (hb : Below ((w1.alloc (.cells A tA)).alloc (.cells B tB)).heap.size ((w1.alloc (.cells A tA)).alloc (.cells B tB)) w2) (o : Nat) : w2.frozen? ⟨w1.heap.size + 1, o, none⟩ = false := by
  have e1 : (w1.alloc (.cells A tA)).heap.size = w1.heap.size + 1 := by simp
  have h2 : ((w1.alloc (.cells A tA)).alloc (.cells B tB)).heap[w1.heap.size + 1]? = some (.cells B tB (0, 0)) := by
    rw [← e1]; exact heap_alloc_new _ _
  rw [hb.frozen (p := ⟨w1.heap.size + 1, o, none⟩) (by simp)]
  unfold World.frozen?; simp only [h2]; simp
/-- what the first loop holds -/
def BlRel (S : ByteArray) (w : World) (lv sv av nv : Value) (wr : World) : Prop := ∃ (a k : Nat) (L : List (Wo.Wd × Wo.Bs)) (T : ByteArray), a ≤ S.size ∧ k ≤ a ∧ L.length = k ∧ av = .int .i64 a ∧ nv = .int .i64 k ∧ sv = .string T ∧ T.data.toList = Wo.flat (Wo.bytesOf L) ∧ T.size ≤ a + 9 * k ∧ (∀ p ∈ L, Wo.GoodW p) ∧ wr.ownsRow w.heap.size 24 6 lv L.length (lcells L) ∧ Below w.heap.size w wr
end Go.Proofs.YthbdnbeiafpkcaaDoor
