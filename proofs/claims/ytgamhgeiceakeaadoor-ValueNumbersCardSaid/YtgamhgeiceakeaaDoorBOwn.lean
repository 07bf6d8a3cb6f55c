/- What an append to a slice of the call's own leaves: the row it lay in, or a new one, and nothing else, has turned. -/
import Derived.Laws.AppendOwn
import Derived.Laws.OwnMore
import Derived.Below
set_option linter.unusedVariables false
namespace Go.Proofs.YtgamhgeiceakeaaDoor
open Go.RowKit
/-- v' has come of v: but for the row of v nothing that there was has turned -/
structure Gw (w w' : World) (v v' : Value) : Prop where
  grown : w.grownBy w' v.ownBlock
  own : v'.ownBlock = v.ownBlock ∨ ∃ k, v'.ownBlock = some k ∧ w.heap.size ≤ k
theorem grown_refl (w : World) (r : Option Nat) : w.grownBy w r := ⟨rfl, rfl, rfl, Nat.le_refl _, fun _ _ _ => rfl⟩
theorem Gw.refl (w : World) (v : Value) : Gw w w v v := ⟨grown_refl _ _, Or.inl rfl⟩
theorem Gw.trans {w w1 w2 : World} {v v1 v2 : Value} (h : Gw w w1 v v1) (k : Gw w1 w2 v1 v2) : Gw w w2 v v2 := by
  refine ⟨⟨k.grown.os.trans h.grown.os, k.grown.tape.trans h.grown.tape, k.grown.output.trans h.grown.output, Nat.le_trans h.grown.size k.grown.size, fun i hi hne => ?_⟩, ?_⟩
  · rw [k.grown.block i (Nat.lt_of_lt_of_le hi h.grown.size) (fun e => by
      rcases h.own with o | ⟨j, o, hj⟩
      · exact hne (e.trans o)
      · rw [o] at e; cases e; omega), h.grown.block i hi hne]
  · rcases k.own with o | ⟨j, o, hj⟩
    · rcases h.own with o' | ⟨j, o', hj⟩
      · exact Or.inl (o.trans o')
      · exact Or.inr ⟨j, o.trans o', hj⟩
    · exact Or.inr ⟨j, o, Nat.le_trans h.grown.size hj⟩
theorem Gw.below {w w1 w2 : World} {v v1 : Value} (h : Gw w w1 v v1) (k : Below w1.heap.size w1 w2) : Gw w w2 v v1 := by
  refine ⟨⟨k.os.trans h.grown.os, k.tape.trans h.grown.tape, k.output.trans h.grown.output, Nat.le_trans h.grown.size k.size, fun i hi hne => ?_⟩, h.own⟩
  rw [k.block i (Nat.lt_of_lt_of_le hi h.grown.size), h.grown.block i hi hne]
theorem Gw.alloc {w w1 : World} {v v1 : Value} (h : Gw w w1 v v1) (o : Obj) : Gw w (w1.alloc o) v v1 := h.below ((Below.refl _ _).alloc (Nat.le_refl _) o)
theorem Gw.of {w w1 w2 : World} {v v1 : Value} (k : Below w.heap.size w w1) (h : Gw w1 w2 v v1) (hv : ∀ i, v.ownBlock = some i → i < w.heap.size) : Gw w w2 v v1 := by
  refine ⟨⟨h.grown.os.trans k.os, h.grown.tape.trans k.tape, h.grown.output.trans k.output, Nat.le_trans k.size h.grown.size, fun i hi hne => ?_⟩, ?_⟩
  · rw [h.grown.block i (Nat.lt_of_lt_of_le hi k.size) hne, k.block i hi]
  · rcases h.own with o | ⟨j, o, hj⟩
    · exact Or.inl o
    · exact Or.inr ⟨j, o, Nat.le_trans k.size hj⟩
/-- below a bound that the row lies above, nothing has turned -/
theorem Gw.less {B : Nat} {a w w' : World} {v v' : Value} (h : Below B a w) (g : Gw w w' v v') (hB : B ≤ w.heap.size) (hv : ∀ i, v.ownBlock = some i → B ≤ i) : Below B a w' := h.grown g.grown hB hv
theorem Gw.base {B : Nat} {w w' : World} {v v' : Value} (g : Gw w w' v v') (hB : B ≤ w.heap.size) (hv : ∀ i, v.ownBlock = some i → B ≤ i) : ∀ i, v'.ownBlock = some i → B ≤ i := by
  intro i hi
  rcases g.own with o | ⟨j, o, hj⟩
  · exact hv i (o ▸ hi)
  · rw [hi] at o; cases o; omega
section
variable {P : Program} (w : World)
theorem own_after (base : Nat) (t ty e : TypeId) (i : TypeInfo) (z : Value) (size bytes : Nat) (ht : P.underlying t = some (.slice e)) (hi : P.info? e = some i) (hz : i.zero = some z)
    (hsize : i.size = size) (hby : i.bytes = bytes) (hzs : z.cells.size = size) (hsz : 0 < size)
    (v : Value) (n : Nat) (xs : List Value) (hown : w.ownsRow base e size v n xs)
    (a : Addr) (m c : Nat) (news : List Value) (hl : news.length = m * size) (hnews : ∀ j u, news[j]? = some u → w.cell? (a.add j) = some u) (h1 : ∀ u ∈ news, u.oneCell' = true)
    (h63 : n + m ≤ maxLen) (hbytes : (n + m) * bytes ≤ 140737488355328) {v' : Value} {w' : World} (hr : (Builtin.append_ #[t, t] ty #[v, .slice (some a) m c]).run P w = .ok v' w') (hnil : v' = .slice none 0 0 ↔ v = .slice none 0 0 ∧ m = 0) :
    v'.ownBlock = v.ownBlock ∨ ∃ k, v'.ownBlock = some k ∧ w.heap.size ≤ k := by
  subst hsize
  subst hby
  have hsmall : n + m ≤ 9223372036854775807 := by simp only [maxLen] at h63; omega
  rcases hown.2 with ⟨rfl, rfl⟩ | ⟨g, cap, cur, rfl, hbg, hg, hnc, hcm, hcs, htake⟩
  · by_cases hm : m = 0
    · rw [hnil.2 ⟨rfl, hm⟩]; exact Or.inl rfl
    · have hr2 := run_append_nil (P := P) w t ty e i z ht hi hz a m c news hl hnews (by omega) (by omega) (by have hb := hbytes; simp only [Nat.zero_add] at hb; omega)
      rw [hr2] at hr
      cases hr
      exact Or.inr ⟨w.heap.size, rfl, Nat.le_refl _⟩
  · by_cases hroom : n + m ≤ cap
    · have hfit : n * i.size + news.length ≤ cur.size := by rw [hl, hcs, ← Nat.add_mul]; exact Nat.mul_le_mul_right _ hroom
      have hr2 := run_append_room (P := P) w t ty e i ht hi g n cap cur hg a m c news hl hnews h1 hroom hfit
      rw [hr2] at hr
      cases hr
      exact Or.inl rfl
    · have hr2 := run_append_grow (P := P) w t ty e i z ht hi hz ⟨g, 0, none⟩ n cap xs hown.1 (hown.cells (g := g) rfl) a m c news hl hnews (by omega) (by omega) (growslice_fits (by omega) hbytes)
      rw [hr2] at hr
      cases hr
      exact Or.inr ⟨w.heap.size, rfl, Nat.le_refl _⟩
theorem wpList_append_gw {ops : Array Oper} {rest : List Oper} {o : Oper} {a : Act} {Q : Exit → Act → World → Prop} (hgd : o.guard = none) (s x : Operand) (t : TypeId)
    (ho : o.op = .call { callee := .builtin .append, args := #[s, x], argTypes := #[t, t] })
    (base : Nat) (e : TypeId) (i : TypeInfo) (z : Value) (size bytes : Nat) (ht : P.underlying t = some (.slice e)) (hi : P.info? e = some i) (hz : i.zero = some z)
    (hsize : i.size = size) (hby : i.bytes = bytes) (hzs : z.cells.size = size) (hsz : 0 < size)
    (v : Value) (n : Nat) (xs : List Value) (hs : a.eval s = v) (hown : w.ownsRow base e size v n xs)
    (ad : Addr) (m c : Nat) (news : List Value) (hx : a.eval x = .slice (some ad) m c) (hl : news.length = m * size) (hnews : ∀ j u, news[j]? = some u → w.cell? (ad.add j) = some u) (h1 : ∀ u ∈ news, u.oneCell' = true)
    (h63 : n + m ≤ maxLen) (hbytes : (n + m) * bytes ≤ 140737488355328) (hbase : base ≤ w.heap.size)
    (h : ∀ v' w', w'.ownsRow base e size v' (n + m) (xs ++ news) → Gw w w' v v' → (v' = .slice none 0 0 ↔ v = .slice none 0 0 ∧ m = 0) → wpList P ops Q rest (a.put o.dst v') w') : wpList P ops Q (o :: rest) a w :=
  wpList_plain hgd fun K hK => by
    obtain ⟨v', w', hr, h2, h3, h4⟩ := run_append_own (P := P) w base t o.type e i z size bytes ht hi hz hsize hby hzs hsz v n xs hown ad m c news hl hnews h1 h63 hbytes hbase
    have h5 := own_after (P := P) w base t o.type e i z size bytes ht hi hz hsize hby hzs hsz v n xs hown ad m c news hl hnews h1 h63 hbytes hr h4
    unfold Oper.wp execOp
    simp only [ho, resolve, invoke, builtin, Sem.run_bind, Sem.run_pure, Result.andThen_ok, List.map_toArray, List.map_cons, List.map_nil, hs, hx, hr]
    exact hK _ _ (h v' w' h2 ⟨h3, h5⟩ h4)
theorem run_append_of_none (base : Nat) (t ty e : TypeId) (i : TypeInfo) (size : Nat) (ht : P.underlying t = some (.slice e)) (hi : P.info? e = some i)
    (v : Value) (n : Nat) (xs : List Value) (hown : w.ownsRow base e size v n xs) (c : Nat) : (Builtin.append_ #[t, t] ty #[v, .slice none 0 c]).run P w = .ok v w := by
  rcases hown.2 with ⟨rfl, rfl⟩ | ⟨g, cap, cur, rfl, _, _, hnc, _⟩
  · simp [Builtin.append_, run_underlying ht, sizeOf, typeInfo, hi, Builtin.lenOf, Builtin.firstCells]
  · simp [Builtin.append_, run_underlying ht, sizeOf, typeInfo, hi, Builtin.lenOf, Builtin.firstCells, hnc, storeCells]
/-- the same where the source may be nil -/
theorem wpList_append_rd {ops : Array Oper} {rest : List Oper} {o : Oper} {a : Act} {Q : Exit → Act → World → Prop} (hgd : o.guard = none) (s x : Operand) (t : TypeId)
    (ho : o.op = .call { callee := .builtin .append, args := #[s, x], argTypes := #[t, t] })
    (base : Nat) (e : TypeId) (i : TypeInfo) (z : Value) (size bytes : Nat) (ht : P.underlying t = some (.slice e)) (hi : P.info? e = some i) (hz : i.zero = some z)
    (hsize : i.size = size) (hby : i.bytes = bytes) (hzs : z.cells.size = size) (hsz : 0 < size)
    (v : Value) (n : Nat) (xs : List Value) (hs : a.eval s = v) (hown : w.ownsRow base e size v n xs)
    (ba : Option Addr) (m c : Nat) (news : List Value) (hx : a.eval x = .slice ba m c) (hl : news.length = m * size) (hba : ba = none → m = 0) (hnews : ∀ ad, ba = some ad → ∀ j u, news[j]? = some u → w.cell? (ad.add j) = some u) (h1 : ∀ u ∈ news, u.oneCell' = true)
    (h63 : n + m ≤ maxLen) (hbytes : (n + m) * bytes ≤ 140737488355328) (hbase : base ≤ w.heap.size)
    (h : ∀ v' w', w'.ownsRow base e size v' (n + m) (xs ++ news) → Gw w w' v v' → (v' = .slice none 0 0 ↔ v = .slice none 0 0 ∧ m = 0) → wpList P ops Q rest (a.put o.dst v') w') : wpList P ops Q (o :: rest) a w := by
  cases ba with
  | some ad => exact wpList_append_gw w hgd s x t ho base e i z size bytes ht hi hz hsize hby hzs hsz v n xs hs hown ad m c news hx hl (hnews ad rfl) h1 h63 hbytes hbase h
  | none =>
    have hm := hba rfl
    subst hm
    have hn : news = [] := List.eq_nil_of_length_eq_zero (by rw [hl, Nat.zero_mul])
    subst hn
    refine wpList_plain hgd fun K hK => ?_
    have hr := run_append_of_none (P := P) w base t o.type e i size ht hi v n xs hown c
    unfold Oper.wp execOp
    simp only [ho, resolve, invoke, builtin, Sem.run_bind, Sem.run_pure, Result.andThen_ok, List.map_toArray, List.map_cons, List.map_nil, hs, hx, hr]
    exact hK _ _ (h v w (by simpa using hown) (Gw.refl _ _) (by simp))
end
end Go.Proofs.YtgamhgeiceakeaaDoor
