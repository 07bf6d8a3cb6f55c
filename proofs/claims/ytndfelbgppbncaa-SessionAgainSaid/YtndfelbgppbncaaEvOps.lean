/- The evaluator's soundness: what an operation is made into does what the operation does. -/
import Derived.Test.YtndfelbgppbncaaEvApp2
set_option linter.unusedVariables false
namespace Go.Proofs.Ytndfelbgppbncaa.Ev
section
variable {P : Program} {o : Oper}
/-- What a heap tells of what a value leads to, the other tells too. -/
def SubAt (h h' : Heap) (n : Nat) (v : Value) : Prop :=
  (∀ a, v = .pointer (some a) → ∀ i, i < n → ∀ u, h.cell ⟨a.block, a.off + i, a.spot⟩ = some u → h'.cell ⟨a.block, a.off + i, a.spot⟩ = some u) ∧
  (∀ a m c, v = .slice (some a) m c → ownB (h.blk a.block) = true → ownB (h'.blk a.block) = true)
/-- What a heap tells at all, the other tells too. -/
def SubH (h h' : Heap) : Prop := ∀ b k, h.blk b = some k → h'.blk b = some k
/-- What a reading operation looks at is all that its answer hangs on. -/
def LooksOK (looks : Option (AO × Nat)) (f : Heap → Env → Option Value) : Prop :=
  ∀ (h h' : Heap) (ρ : Env) (v : Value), f h ρ = some v →
    (∀ x n, looks = some (x, n) → SubAt h h' n (val ρ x)) → (looks = none → SubH h h') → f h' ρ = some v
def OpS (P : Program) (o : Oper) : AOp → Prop
  | .p f => PS P o f
  | .l looks f => LS P o f ∧ LooksOK looks f ∧ ∀ x n, looks = some (x, n) → ∃ y, y ∈ o.op.operands ∧ cO y = some x
  | .n f => NS P o f
  | .e f => ES P o f
  | .call f args => ∃ c : Call, o.op = .call c ∧ c.callee = .value (.func f) ∧ cOs c.args.toList = some args
  | .callv x args => ∃ (c : Call) (y : Operand), o.op = .call c ∧ c.callee = .value y ∧ cO y = some x ∧ cOs c.args.toList = some args

theorem addrEq_eq {a b : Addr} (h : addrEq a b = true) : a = b := by
  obtain ⟨x, i, s⟩ := a
  obtain ⟨y, j, u⟩ := b
  have h' : band (band (isN s) (isN u)) (band (Nat.beq x y) (Nat.beq i j)) = true := h
  rw [band_eq, band_eq, band_eq, isN_eq, isN_eq] at h'
  simp only [Bool.and_eq_true, Option.isNone_iff_eq_none] at h'
  obtain ⟨⟨rfl, rfl⟩, h1, h2⟩ := h'
  rw [Nat.eq_of_beq_eq_true h1, Nat.eq_of_beq_eq_true h2]
theorem ieq_true {a b : Int} (h : ieq a b = true) : a = b := by rw [ieq_eq] at h; exact of_decide_eq_true h
theorem cellEq_eq {x y : Option Value} (h : cellEq x y = true) : x = y := by
  unfold cellEq at h
  split at h
  · rfl
  · rw [band_eq] at h
    simp only [Bool.and_eq_true] at h
    rw [kidx_inj h.1, ieq_true h.2]
  · rename_i a b
    have : a = b := by cases a <;> cases b <;> first | rfl | cases h
    rw [this]
  · rename_i a b
    rw [strL_eq, strL_eq, beqL_eq] at h
    have h := eq_of_beq h
    have : a = b := by
      apply ByteArray.ext
      apply Array.ext'
      exact h
    rw [this]
  · rfl
  · rw [addrEq_eq h]
  · rw [band_eq] at h
    simp only [Bool.and_eq_true] at h
    rw [Nat.eq_of_beq_eq_true h.1, Nat.eq_of_beq_eq_true h.2]
  · rw [band_eq, band_eq] at h
    simp only [Bool.and_eq_true] at h
    rw [addrEq_eq h.1, Nat.eq_of_beq_eq_true h.2.1, Nat.eq_of_beq_eq_true h.2.2]
  · rfl
  · rfl
  · cases h
theorem cellsEq_get {h h' : Heap} {a : Addr} : ∀ {n : Nat}, cellsEq h h' a n = true → ∀ i, i < n → h.cell ⟨a.block, a.off + i, a.spot⟩ = h'.cell ⟨a.block, a.off + i, a.spot⟩
  | 0, _, i, hi => by omega
  | n + 1, hc, i, hi => by
    have hc' : band (cellEq (h.cell ⟨a.block, a.off + n, a.spot⟩) (h'.cell ⟨a.block, a.off + n, a.spot⟩)) (cellsEq h h' a n) = true := hc
    rw [band_eq] at hc'
    simp only [Bool.and_eq_true] at hc'
    by_cases q : i = n
    · subst q; exact cellEq_eq hc'.1
    · exact cellsEq_get hc'.2 i (by omega)
theorem getN_sub {k k' : Blk} : ∀ (n i : Nat) (l : List Value), (∀ j, j < n → ∀ u, k.get (i + j) = some u → k'.get (i + j) = some u) → k.getN n i = some l → k'.getN n i = some l
  | 0, i, l, _, e => e
  | n + 1, i, l, h, e => by
    rw [getN_succ] at e ⊢
    cases hv : k.get i with
    | none => rw [hv] at e; cases e
    | some v =>
      rw [hv] at e
      cases hr : k.getN n (i + 1) with
      | none => rw [hr] at e; cases e
      | some r =>
        rw [hr] at e
        cases e
        have h0 := h 0 (by omega) v hv
        rw [Nat.add_zero] at h0
        have ih := getN_sub n (i + 1) r (fun j hj u hu => by
          have hj' := h (j + 1) (by omega) u
          rw [Nat.add_assoc, Nat.add_comm 1 j] at hu ⊢
          exact hj' hu) hr
        rw [h0, ih]
theorem loadN_sub {h h' : Heap} {a : Addr} {n : Nat} (hn : 0 < n) {l : List Value} (hc : ∀ i, i < n → ∀ u, h.cell ⟨a.block, a.off + i, a.spot⟩ = some u → h'.cell ⟨a.block, a.off + i, a.spot⟩ = some u) (e : loadN h a n = some l) : loadN h' a n = some l := by
  obtain ⟨b, off, s⟩ := a
  cases s with
  | some s => cases e
  | none =>
    rw [loadN_eq] at e ⊢
    have hc' : ∀ i, i < n → ∀ u, (match h.blk b with | some k => k.get (off + i) | none => none) = some u → (match h'.blk b with | some k => k.get (off + i) | none => none) = some u := fun i hi u => by
      have := hc i hi u
      simp only [cell_eq] at this
      exact this
    cases hk : h.blk b with
    | none => rw [hk] at e; cases e
    | some k =>
      rw [hk] at e
      cases hk' : h'.blk b with
      | none =>
        obtain ⟨h1, h2⟩ := getN_spec k n off l e
        have h3 := h2 0 hn
        have h4 := hc' 0 hn
        rw [hk, hk'] at h4
        have h3' : k.get (off + 0) = some l[0] := by rw [h3, List.getElem?_eq_getElem (by omega)]
        have := h4 _ h3'
        cases this
      | some k' =>
        refine getN_sub n off l (fun j hj u hu => ?_) e
        have := hc' j hj u
        rw [hk, hk'] at this
        exact this hu
theorem looks_load {x : AO} : LooksOK (some (x, 1)) (lLoad x) := fun h h' ρ v e hs _ => by
  obtain ⟨a, ha, e'⟩ := vPtr_some (show vPtr (fun a => h.cell a) (val ρ x) = some v from e)
  have := (hs x 1 rfl).1 a ha 0 (by omega) v e'
  show vPtr (fun a => h'.cell a) (val ρ x) = some v
  rw [ha]
  exact this
theorem looks_loads {x : AO} {m : Nat} (hm : 0 < m) : LooksOK (some (x, m)) (lLoads m x) := fun h h' ρ v e hs _ => by
  obtain ⟨a, ha, e'⟩ := vPtr_some (show vPtr (fun a => @Option.rec (List Value) (fun _ => Option Value) none (fun l => some (.agg ⟨l⟩)) (loadN h a m)) (val ρ x) = some v from e)
  show vPtr (fun a => @Option.rec (List Value) (fun _ => Option Value) none (fun l => some (.agg ⟨l⟩)) (loadN h' a m)) (val ρ x) = some v
  rw [ha]
  show (@Option.rec (List Value) (fun _ => Option Value) none (fun l => some (.agg ⟨l⟩)) (loadN h' a m)) = some v
  cases hl : loadN h a m with
  | none => rw [hl] at e'; cases e'
  | some l =>
    rw [hl] at e'
    rw [loadN_sub hm ((hs x m rfl).1 a ha) hl]
    exact e'
theorem looks_mark {x : AO} : LooksOK (some (x, 0)) (lMark x) := fun h h' ρ v e hs _ => by
  have hs := (hs x 0 rfl).2
  have e' : vSlc (fun a n c => @Option.rec Addr (fun _ => Option Value) none (fun a => @Bool.rec (fun _ => Option Value) none (some (.slice (some a) n c)) (ownB (h.blk a.block))) a) (val ρ x) = some v := e
  show vSlc (fun a n c => @Option.rec Addr (fun _ => Option Value) none (fun a => @Bool.rec (fun _ => Option Value) none (some (.slice (some a) n c)) (ownB (h'.blk a.block))) a) (val ρ x) = some v
  cases hv : val ρ x with
  | slice a n c => cases a with
    | none => rw [hv] at e'; cases e'
    | some a =>
      rw [hv] at e'
      have e2 : (@Bool.rec (fun _ => Option Value) none (some (.slice (some a) n c)) (ownB (h.blk a.block))) = some v := e'
      show (@Bool.rec (fun _ => Option Value) none (some (.slice (some a) n c)) (ownB (h'.blk a.block))) = some v
      cases hb : ownB (h.blk a.block) with
      | false => rw [hb] at e2; cases e2
      | true => rw [hb] at e2; rw [hs a n c hv hb]; exact e2
  | _ => rw [hv] at e'; cases e'
theorem loadN_subH {h h' : Heap} (hs : SubH h h') {a : Addr} {n : Nat} {l : List Value} (e : loadN h a n = some l) : loadN h' a n = some l := by
  obtain ⟨b, off, s⟩ := a
  cases s with
  | some s => cases e
  | none =>
    rw [loadN_eq] at e ⊢
    cases hk : h.blk b with
    | none => rw [hk] at e; cases e
    | some k => rw [hk] at e; rw [hs b k hk]; exact e
theorem looks_b2s {x : AO} : LooksOK none (lB2s x) := fun h h' ρ v e _ hs => by
  have hs := hs rfl
  have e' : vSlc (fun a n _ => @Option.rec Addr (fun _ => Option Value) (some (.string ⟨⟨[]⟩⟩)) (fun a => @Option.rec (List Value) (fun _ => Option Value) none (fun l => @Option.rec (List UInt8) (fun _ => Option Value) none (fun bs => some (.string ⟨⟨bs⟩⟩)) (bytesOf l)) (loadN h a n)) a) (val ρ x) = some v := e
  show vSlc (fun a n _ => @Option.rec Addr (fun _ => Option Value) (some (.string ⟨⟨[]⟩⟩)) (fun a => @Option.rec (List Value) (fun _ => Option Value) none (fun l => @Option.rec (List UInt8) (fun _ => Option Value) none (fun bs => some (.string ⟨⟨bs⟩⟩)) (bytesOf l)) (loadN h' a n)) a) (val ρ x) = some v
  cases hv : val ρ x with
  | slice a n c => cases a with
    | none => rw [hv] at e'; exact e'
    | some a =>
      rw [hv] at e'
      have e2 : (@Option.rec (List Value) (fun _ => Option Value) none (fun l => @Option.rec (List UInt8) (fun _ => Option Value) none (fun bs => some (.string ⟨⟨bs⟩⟩)) (bytesOf l)) (loadN h a n)) = some v := e'
      show (@Option.rec (List Value) (fun _ => Option Value) none (fun l => @Option.rec (List UInt8) (fun _ => Option Value) none (fun bs => some (.string ⟨⟨bs⟩⟩)) (bytesOf l)) (loadN h' a n)) = some v
      cases hl : loadN h a n with
      | none => rw [hl] at e2; cases e2
      | some l => rw [hl] at e2; rw [loadN_subH hs hl]; exact e2
  | _ => rw [hv] at e'; cases e'
/-- What the evaluator's own check says. -/
theorem chk1_sub {h h' : Heap} {n : Nat} {x : Value} (hc : chk1 h h' n x = true) : SubAt h h' n x ∧ SubAt h' h n x := by
  have key : (∀ a, x = .pointer (some a) → cellsEq h h' a n = true) ∧ ∀ a m c, x = .slice (some a) m c → ownB (h.blk a.block) = ownB (h'.blk a.block) := by
    refine ⟨fun a hx => by subst hx; exact hc, fun a m c hx => ?_⟩
    subst hx
    have hc' : bor (band (isN (h.blk a.block)) (isN (h'.blk a.block))) (band (ownB (h.blk a.block)) (ownB (h'.blk a.block))) = true := hc
    rw [bor_eq, band_eq, band_eq, isN_eq, isN_eq] at hc'
    simp only [Bool.or_eq_true, Bool.and_eq_true, Option.isNone_iff_eq_none] at hc'
    rcases hc' with ⟨q1, q2⟩ | ⟨q1, q2⟩
    · rw [q1, q2]
    · rw [q1, q2]
  exact ⟨⟨fun a hx i hi u hu => by rw [← cellsEq_get (key.1 a hx) i hi]; exact hu, fun a m c hx q => by rw [← key.2 a m c hx]; exact q⟩,
    ⟨fun a hx i hi u hu => by rw [cellsEq_get (key.1 a hx) i hi]; exact hu, fun a m c hx q => by rw [key.2 a m c hx]; exact q⟩⟩
theorem SubAt.refl (h : Heap) (n : Nat) (v : Value) : SubAt h h n v := ⟨fun _ _ _ _ _ e => e, fun _ _ _ _ e => e⟩
theorem SubAt.trans {h h' h'' : Heap} {n : Nat} {v : Value} (a : SubAt h h' n v) (b : SubAt h' h'' n v) : SubAt h h'' n v :=
  ⟨fun x hx i hi u hu => b.1 x hx i hi u (a.1 x hx i hi u hu), fun x m c hx q => b.2 x m c hx (a.2 x m c hx q)⟩
theorem SubH.refl (h : Heap) : SubH h h := fun _ _ e => e
theorem SubH.trans {h h' h'' : Heap} (a : SubH h h') (b : SubH h' h'') : SubH h h'' := fun x k e => b x k (a x k e)
/-- Where the block that a value leads to is the same, or there was none, nothing is lost. -/
theorem SubAt.of_blk {h h' : Heap} {n : Nat} {v : Value} (hb : ∀ b, (∃ a : Addr, a.block = b ∧ (v = .pointer (some a) ∨ ∃ m c, v = .slice (some a) m c)) → ∀ k, h.blk b = some k → h'.blk b = some k) : SubAt h h' n v := by
  refine ⟨fun a hx i hi u hu => ?_, fun a m c hx q => ?_⟩
  · have hb := hb a.block ⟨a, rfl, .inl hx⟩
    obtain ⟨b, off, s⟩ := a
    cases s with
    | some s => cases hu
    | none =>
      rw [cell_eq] at hu ⊢
      cases hk : h.blk b with
      | none => rw [hk] at hu; cases hu
      | some k => rw [hk] at hu; rw [hb k hk]; exact hu
  · have hb := hb a.block ⟨a, rfl, .inr ⟨m, c, hx⟩⟩
    cases hk : h.blk a.block with
    | none => rw [hk] at q; cases q
    | some k => rw [hk] at q; rw [hb k hk]; exact q
theorem guard_some {α : Type} {p : Prop} [Decidable p] {f : Unit → Option α} {r : α} (h : (guard p >>= f) = some r) : p ∧ f () = some r := by
  by_cases q : p
  · simp [guard, q] at h; exact ⟨q, h⟩
  · simp only [guard, q, if_false] at h; cases h
theorem bind_some {α β : Type} {x : Option α} {f : α → Option β} {r : β} (h : (x >>= f) = some r) : ∃ a, x = some a ∧ f a = some r := by
  cases x with
  | none => cases h
  | some a => exact ⟨a, rfl, h⟩
theorem cBin_ok {op : BinOp} {t t' : TypeId} {x y : Operand} {x' y' : AO} {f : Env → Option Value} (h : cBin P op t x' y' = some f) (ho : o.op = .binOp op t x y t') (hx : cO x = some x') (hy : cO y = some y') : PS P o f := by
  obtain ⟨d, hd, h⟩ := bind_some h
  cases d <;> cases op <;> simp only [Option.pure_def, Option.some.injEq, reduceCtorEq] at h <;> first | contradiction | (subst h)
  all_goals first
    | exact ps_int addI_ok ho hx hy
    | exact ps_int subI_ok ho hx hy
    | exact ps_int mulI_ok ho hx hy
    | exact ps_int quoI_ok ho hx hy
    | exact ps_int remI_ok ho hx hy
    | exact ps_int andI_ok ho hx hy
    | exact ps_int orI_ok ho hx hy
    | exact ps_int xorI_ok ho hx hy
    | exact ps_int andNotI_ok ho hx hy
    | exact ps_int shlI_ok ho hx hy
    | exact ps_int shrI_ok ho hx hy
    | exact ps_int eqI_ok ho hx hy
    | exact ps_int neI_ok ho hx hy
    | exact ps_int ltI_ok ho hx hy
    | exact ps_int leI_ok ho hx hy
    | exact ps_int gtI_ok ho hx hy
    | exact ps_int geI_ok ho hx hy
    | exact ps_str catS_ok ho hx hy
    | exact ps_str eqS_ok ho hx hy
    | exact ps_str neS_ok ho hx hy
    | exact ps_str ltS_ok ho hx hy
    | exact ps_str leS_ok ho hx hy
    | exact ps_str gtS_ok ho hx hy
    | exact ps_str geS_ok ho hx hy
    | exact ps_eq (eqB_ok hd) ho hx hy
    | exact ps_ne (eqB_ok hd) ho hx hy
    | exact ps_eq (eqP_ok hd) ho hx hy
    | exact ps_ne (eqP_ok hd) ho hx hy
    | exact ps_eq (eqSl_ok hd) ho hx hy
    | exact ps_ne (eqSl_ok hd) ho hx hy
    | exact ps_eq (eqF_ok hd) ho hx hy
    | exact ps_ne (eqF_ok hd) ho hx hy
end
end Go.Proofs.Ytndfelbgppbncaa.Ev
