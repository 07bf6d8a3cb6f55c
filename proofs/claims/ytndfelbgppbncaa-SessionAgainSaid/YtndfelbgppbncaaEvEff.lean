/- The evaluator's soundness: what writes. -/
import Derived.Test.YtndfelbgppbncaaEvMake2
set_option linter.unusedVariables false
namespace Go.Proofs.Ytndfelbgppbncaa.Ev
section
variable {P : Program} {o : Oper}
/-- What comes of an operation: a value, or none. -/
def Comes' (r : Result Next) (v' : Value) (w' : World) : Prop := r = .ok (.value v') w' ∨ (r = .ok .skip w' ∧ v' = undef)
/-- 'f' does what the operation does. -/
def ES (P : Program) (o : Oper) (f : Heap → Env → VH) : Prop :=
  ∀ (base : Nat) (ι : Inj) (h : Heap) (w : World) (ρ : Env) (a : Act) (v : Value) (h' : Heap), Rel base ι h w → OpdR ι ρ a o → f h ρ = .ok v h' →
    ∃ ι' v' w', Comes' ((execOp a.eval o).run P w) v' w' ∧ VR ι' v v' ∧ Rel base ι' h' w' ∧ Ext ι h w ι' h' w'
theorem vPtrH_some {f : Addr → VH} {x v : Value} {h : Heap} (e : vPtrH f x = .ok v h) : ∃ a, x = .pointer (some a) ∧ f a = .ok v h := by
  cases x with
  | pointer a => cases a with
    | none => cases e
    | some a => exact ⟨a, rfl, e⟩
  | _ => cases e
theorem vSlcH_some {f : Option Addr → Nat → Nat → VH} {x v : Value} {h : Heap} (e : vSlcH f x = .ok v h) : ∃ a n c, x = .slice a n c ∧ f a n c = .ok v h := by
  cases x <;> first | exact ⟨_, _, _, rfl, e⟩ | cases e
theorem optH_some {α : Type} {o : Option α} {f : α → VH} {v : Value} {h : Heap} (e : (@Option.rec α (fun _ => VH) .fail f o) = .ok v h) : ∃ a, o = some a ∧ f a = .ok v h := by
  cases o with
  | none => cases e
  | some a => exact ⟨a, rfl, e⟩
theorem ifH_some {b : Bool} {x : VH} {v : Value} {h : Heap} (e : (@Bool.rec (fun _ => VH) .fail x b) = .ok v h) : b = true ∧ x = .ok v h := by
  cases b with
  | false => cases e
  | true => exact ⟨rfl, e⟩
theorem es_store {t : TypeId} {n : Nat} {x y : Operand} {x' y' : AO} (hn : sizeT P t = some n) (ho : o.op = .store t x y) (hx : cO x = some x') (hy : cO y = some y') : ES P o (eStore n x' y') := fun base ι h w ρ a v h' r e hv => by
  obtain ⟨ad, hb, hv⟩ := vPtrH_some hv
  obtain ⟨l, hl, hv⟩ := optH_some hv
  obtain ⟨hlen, hv⟩ := ifH_some hv
  obtain ⟨b, i, nn, pat, tr, rfl, rfl, hk, hle, rfl⟩ := storeV_spec hv
  have hlen := Nat.eq_of_beq_eq_true hlen
  rw [len_eq] at hlen
  have ex := e.val hx (by simp [ho, Op.operands])
  rw [hb] at ex
  generalize hq : a.eval x = q at ex
  obtain ⟨g1, g2⟩ := (e.val hy (by simp [ho, Op.operands])).scells hl
  cases ex with
  | ptr eb =>
    obtain ⟨w', h1, h2, h3⟩ := r.store (P := P) eb hk rfl g1 g2 hle
    refine ⟨ι, undef, w', .inr ⟨?_, rfl⟩, .undef, h2, h3⟩
    have hs : ¬ (a.eval y).cells.size ≠ n := by
      have := g1.length
      rw [hlen] at this
      simpa using this.symm
    simp only [execOp, ho, hq, Instr.storeAt, Instr.sureAddr, storeVar, Sem.run_bind, Sem.run_pure, Result.andThen_ok, run_sizeT hn, hs, if_false, h1]

/-! ### sources of cells -/
theorem byteVals_eq : ∀ (l : List UInt8), byteVals l = l.map fun b => .int .u8 (Int.ofNat b.toNat)
  | [] => rfl
  | b :: l => by show _ :: byteVals l = _; rw [byteVals_eq l]; rfl
theorem byteVals_VR (ι : Inj) (l : List UInt8) : VRL ι (byteVals l) (l.map fun b => .int .u8 b.toNat) ∧ (byteVals l).all isCell = true := by
  rw [byteVals_eq]
  refine ⟨?_, by rw [List.all_map]; exact List.all_eq_true.2 fun _ _ => rfl⟩
  induction l with
  | nil => exact .nil
  | cons b l ih => exact .cons (.int _ _) ih
theorem srcCells_some {base : Nat} {ι : Inj} {h : Heap} {w : World} {size m : Nat} {x q : Value} {new : List Value} (r : Rel base ι h w) (hs : srcCells h size x = .ok m new) (ex : VR ι x q) :
    ∃ new', VRL ι new new' ∧ new.all isCell = true ∧ new.length = m * size ∧ (Builtin.lenOf q).run P w = .ok m w ∧
      ∀ w', (∀ A u, w.cell? A = some u → w'.cell? A = some u) → (Builtin.firstCells size m q).run P w' = .ok new'.toArray w' := by
  cases x with
  | slice ad n c =>
    cases ad with
    | none =>
      have hs' : SC.ok 0 [] = SC.ok m new := hs
      cases hs'
      cases ex
      exact ⟨[], .nil, rfl, by simp, rfl, fun w' _ => rfl⟩
    | some ad =>
      have hs' : (@Option.rec (List Value) (fun _ => SC) .fail (fun l => .ok n l) (loadN h ad (n * size))) = SC.ok m new := hs
      cases hl : loadN h ad (n * size) with
      | none => rw [hl] at hs'; cases hs'
      | some l =>
        rw [hl] at hs'
        cases hs'
        cases ex with
        | @slc b B o0 S i j _ _ c' eb hc hle hj hS =>
          obtain ⟨g1, g2, l', g3, g4⟩ := r.loadN eb (by rcases hj with q | q; exact .inl q; exact .inr (by rw [q.1]; simp)) hl
          refine ⟨l', g3, g2, g1, rfl, fun w' hw => ?_⟩
          have hn' : l'.length = m * size := g3.length ▸ g1
          simp only [Builtin.firstCells]
          exact run_loadN hn' fun m u hu => hw _ _ (g4 m u hu)
  | string s =>
    have hs' : (@Bool.rec (fun _ => SC) .fail (.ok (len (strL s)) (byteVals (strL s))) (Nat.beq size 1)) = SC.ok m new := hs
    cases hb : Nat.beq size 1 with
    | false => rw [hb] at hs'; cases hs'
    | true =>
      rw [hb] at hs'
      cases hs'
      cases ex
      have h1 := Nat.eq_of_beq_eq_true hb
      subst h1
      obtain ⟨g1, g2⟩ := byteVals_VR ι s.data.toList
      rw [len_eq, strL_eq]
      refine ⟨_, g1, g2, by rw [byteVals_eq]; simp, rfl, fun w' _ => ?_⟩
      simp only [Builtin.firstCells, Sem.run_pure]
      congr 1
      apply Array.ext'
      have : (s.extract 0 s.data.toList.length).data.toList = s.data.toList := by
        have hz : s.extract 0 s.data.toList.length = s := by
          have : s.data.toList.length = s.size := rfl
          rw [this]; exact ByteArray.extract_zero_size
        rw [hz]
      simp
  | _ => cases hs

/-! ### append -/
theorem get_grown {own : Bool} {k m n off : Nat} {pat : List Value} {tr : Tr Value} {new : List Value} {nb : Blk} (hnew : m + new.length = n) (h : grown own k pat tr off m n new = some nb) :
    off + m ≤ k ∧ ∃ pat' tr', nb = .cells true n pat' tr' ∧ ∀ i v, nb.get i = some v → (i < m ∧ (Blk.cells own k pat tr).get (off + i) = some v) ∨ (m ≤ i ∧ new[i - m]? = some v) := by
  have h' : (@Bool.rec (fun _ => Option Blk) none (@Nat.rec (fun _ => Option Blk) (some (.cells true n pat (setN new m tr))) (fun o _ => @Option.rec (List Value) (fun _ => Option Blk) none (fun old => some (.cells true n (app old new) .nil)) ((Blk.cells own k pat tr).getN m off)) off) (Nat.ble (off + m) k)) = some nb := h
  rw [ble_eq] at h'
  by_cases q : off + m ≤ k
  · rw [decide_eq_true q] at h'
    refine ⟨q, ?_⟩
    cases off with
    | zero =>
      have h'' : some (Blk.cells true n pat (setN new m tr)) = some nb := h'
      cases h''
      refine ⟨_, _, rfl, fun i v hv => ?_⟩
      have hin := get_lt hv
      rw [get_cells, cellAt_eq, if_pos hin, get_setN] at hv
      by_cases hm : m ≤ i
      · rw [if_pos (by omega)] at hv
        have hlt : i - m < new.length := by omega
        rw [List.getElem?_eq_getElem hlt] at hv
        exact .inr ⟨hm, by rw [List.getElem?_eq_getElem hlt]; exact hv⟩
      · rw [if_neg (by omega)] at hv
        refine .inl ⟨by omega, ?_⟩
        rw [Nat.zero_add, get_cells, cellAt_eq, if_pos (by omega)]
        exact hv
    | succ off =>
      have h'' : (@Option.rec (List Value) (fun _ => Option Blk) none (fun old => some (.cells true n (app old new) .nil)) ((Blk.cells own k pat tr).getN m (off + 1))) = some nb := h'
      obtain ⟨old, h1, h2⟩ := optN_some h''
      cases h2
      obtain ⟨g1, g2⟩ := getN_spec _ _ _ _ h1
      refine ⟨_, _, rfl, fun i v hv => ?_⟩
      obtain ⟨hin, hv⟩ := get_pat hv
      rw [app_eq] at hv
      have hl : (old ++ new).length = n := by rw [List.length_append, g1]; exact hnew
      rw [hl, Nat.mod_eq_of_lt hin] at hv
      by_cases hm : m ≤ i
      · rw [List.getElem?_append_right (by omega), g1] at hv
        exact .inr ⟨hm, hv⟩
      · rw [List.getElem?_append_left (by omega)] at hv
        exact .inl ⟨by omega, by rw [g2 i (by omega)]; exact hv⟩
  · rw [decide_eq_false q] at h'; cases h'
theorem blk_dead_new (h : Heap) (b : Nat) (nb : Blk) (hb : b < h.next) (x : Nat) : ((h.put b .dead).new nb).blk x = if x = h.next then some nb else if x = b then some .dead else h.blk x := by
  rw [blk_new, next_put, blk_put]
/-- a block whose end is no longer known is let go -/
theorem Rel.killed {base : Nat} {ι : Inj} {h : Heap} {w : World} (r : Rel base ι h w) {b : Nat} (hb : b < h.next) (ho : ownB (h.blk b) = true) (hr : ι b ≠ none) : Rel base ι (h.put b .dead) w ∧ Ext ι h w ι (h.put b .dead) w := by
  have hown : ∀ b', ownB ((h.put b .dead).blk b') = true → ownB (h.blk b') = true := fun b' q => by
    rw [blk_put] at q
    by_cases e : b' = b
    · rw [if_pos e] at q; cases q
    · rw [if_neg e] at q; exact q
  refine ⟨⟨fun b' hb' => ?_, r.low, fun b' B o S own n pat tr e hk => ?_, fun b1 b2 B x y h1 h2 h3 h4 => r.apart b1 b2 B x y h1 h2 (hown _ h3) (hown _ h4)⟩,
    ⟨Inj.le_refl ι, fun b' hb' e => ⟨e, ?_⟩, fun b' hb' e => ?_, Nat.le_of_eq (next_put _ _ _).symm, Nat.le_refl _, fun _ _ _ => rfl, fun B hB q => ?_, rfl, rfl, rfl⟩⟩
  · rw [next_put] at hb'
    have := r.fresh b' hb'
    exact ⟨this.1, by rw [blk_put, if_neg (by omega)]; exact this.2⟩
  · rw [blk_put] at hk
    by_cases q : b' = b
    · rw [if_pos q] at hk; cases hk
    · rw [if_neg q] at hk; exact r.blk b' B o S own n pat tr e hk
  · rw [blk_put, if_neg (fun q => hr (by rw [← q]; exact e))]
  · rw [blk_put, if_neg (fun q => by rw [← q, e] at ho; cases ho)]; exact e
  · obtain ⟨b', x, h1, h2⟩ := q
    exact ⟨b', x, h1, hown _ h2⟩
end
end Go.Proofs.Ytndfelbgppbncaa.Ev
