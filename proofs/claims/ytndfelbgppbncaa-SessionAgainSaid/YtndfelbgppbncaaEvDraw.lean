/- The evaluator's soundness: regions that draw their order: what the evaluator's own run of one came by. -/
import Derived.Test.YtndfelbgppbncaaEvSeq
import Derived.Orders
set_option linter.unusedVariables false
namespace Go.Proofs.Ytndfelbgppbncaa.Ev
section
variable {P : Program}
theorem vhRD_some {x : VH} {f : Value → Heap → RD} {ρ : Env} {hs : Hs} (h : (@VH.rec (fun _ => RD) .fail f x) = .ok ρ hs) : ∃ v h', x = .ok v h' ∧ f v h' = .ok ρ hs := by
  cases x with
  | fail => cases h
  | ok v h' => exact ⟨v, h', rfl, h⟩
theorem rd_some {x : RD} {f : Env → Hs → RD} {ρ : Env} {hs : Hs} (h : (@RD.rec (fun _ => RD) .fail f x) = .ok ρ hs) : ∃ ρ' hs', x = .ok ρ' hs' ∧ f ρ' hs' = .ok ρ hs := by
  cases x with
  | fail => cases h
  | ok v h' => exact ⟨v, h', rfl, h⟩
/-- What the evaluator came by, operation by operation. -/
structure Canon (P : Program) (call : CallT) (nt : Nat) (ops : Array Oper) (l : List Oper) (al : List AOp) (E : Nat → Env) (H : Nat → Heap) (D : Nat → Nat) (V : Nat → Value) (W : Nat → Bool) : Prop where
  op : ∀ i o, l[i]? = some o → ∃ op, al[i]? = some op ∧ compOp P o.op = some op ∧ (∀ d, o.dst = some d → d < nt) ∧
    D (i + 1) = (if isNop op = true then D i + 1 else D i) ∧ E (i + 1) = put (E i) (o.dst.map pos) (V i) ∧
    (W i = true → opD call (E i) (H i) (D i) op = .ok (V i) (H (i + 1))) ∧ (W i = false → V i = undefV ∧ H (i + 1) = H i) ∧
    ((o.guard = none ∧ W i = true) ∨ ∃ j w oj g, o.guard = some (j, w) ∧ ops[j]? = some oj ∧ oj.dst = some g ∧ W i = isB w (Tr.get (pos g) (E i)))
def consF {α : Type} (a : α) (f : Nat → α) : Nat → α
  | 0 => a
  | i + 1 => f i
theorem Canon.cons {call : CallT} {nt : Nat} {ops : Array Oper} {o : Oper} {l : List Oper} {op : AOp} {al : List AOp} {E : Nat → Env} {H : Nat → Heap} {D : Nat → Nat} {V : Nat → Value} {W : Nat → Bool}
    (c : Canon P call nt ops l al E H D V W) {e0 : Env} {h0 : Heap} {d0 : Nat} {v0 : Value} {w0 : Bool}
    (h : compOp P o.op = some op ∧ (∀ d, o.dst = some d → d < nt) ∧
      D 0 = (if isNop op = true then d0 + 1 else d0) ∧ E 0 = put e0 (o.dst.map pos) v0 ∧
      (w0 = true → opD call e0 h0 d0 op = .ok v0 (H 0)) ∧ (w0 = false → v0 = undefV ∧ H 0 = h0) ∧
      ((o.guard = none ∧ w0 = true) ∨ ∃ j w oj g, o.guard = some (j, w) ∧ ops[j]? = some oj ∧ oj.dst = some g ∧ w0 = isB w (Tr.get (pos g) e0))) :
    Canon P call nt ops (o :: l) (op :: al) (consF e0 E) (consF h0 H) (consF d0 D) (consF v0 V) (consF w0 W) := ⟨fun i o' hi => by
  cases i with
  | zero =>
    simp only [List.getElem?_cons_zero, Option.some.injEq] at hi
    subst hi
    exact ⟨op, rfl, h⟩
  | succ i =>
    simp only [List.getElem?_cons_succ] at hi
    obtain ⟨op', q1, q2⟩ := c.op i o' hi
    exact ⟨op', by simpa using q1, q2⟩⟩
theorem opsD_canon {call : CallT} {nt : Nat} {ops : Array Oper} : ∀ (l : List Oper) (ol : OpL) (ρ ρ' : Env) (h : Heap) (id : Nat) (hs : Hs), compOps P nt ops l = some ol → opsD call ol ρ h id = .ok ρ' hs →
    (opList ol).length = l.length ∧ ∃ E H D V W, Canon P call nt ops l (opList ol) E H D V W ∧ E 0 = ρ ∧ H 0 = h ∧ D 0 = id ∧ E l.length = ρ' ∧ D l.length = id + countN ol ∧ Hs.last hs = H l.length ∧ ∀ i, i ≤ l.length → (Hs.drop i hs).head = H i := by
  intro l
  induction l with
  | nil =>
    intro ol ρ ρ' h id hs hc he
    cases hc
    have he' : RD.ok ρ (.nil h) = RD.ok ρ' hs := he
    cases he'
    refine ⟨rfl, fun _ => ρ, fun _ => h, fun _ => id, fun _ => undefV, fun _ => true, ⟨fun i o hi => by simp at hi⟩, rfl, rfl, rfl, rfl, rfl, rfl, fun i hi => ?_⟩
    have : i = 0 := by simpa using hi
    subst this; rfl
  | cons o l ih =>
    intro ol ρ ρ' h id hs hc he
    obtain ⟨hd, op, rest, h1, h2, h3⟩ := compOps_cons hc
    have nop : (@Bool.rec (fun _ => Nat) id (Nat.succ id) (isNop op)) = (if isNop op = true then id + 1 else id) := by cases isNop op <;> rfl
    have cnt : ∀ r, (@Bool.rec (fun _ => Nat) id (Nat.succ id) (isNop op)) + countN r = id + (@Bool.rec (fun _ => Nat) (countN r) (Nat.succ (countN r)) (isNop op)) := fun r => by
      cases isNop op
      · rfl
      · show id + 1 + countN r = id + (countN r + 1); omega
    have fin : ∀ (v : Value) (h' : Heap) (w : Bool) (hs' : Hs), opsD call rest (put ρ (o.dst.map pos) v) h' (@Bool.rec (fun _ => Nat) id (Nat.succ id) (isNop op)) = .ok ρ' hs' → hs = .cons h hs' → opList ol = op :: opList rest →
        countN ol = (@Bool.rec (fun _ => Nat) (countN rest) (Nat.succ (countN rest)) (isNop op)) → (w = true → opD call ρ h id op = .ok v h') → (w = false → v = undefV ∧ h' = h) →
        ((o.guard = none ∧ w = true) ∨ ∃ j w' oj g, o.guard = some (j, w') ∧ ops[j]? = some oj ∧ oj.dst = some g ∧ w = isB w' (Tr.get (pos g) ρ)) →
        (opList ol).length = (o :: l).length ∧ ∃ E H D V W, Canon P call nt ops (o :: l) (opList ol) E H D V W ∧ E 0 = ρ ∧ H 0 = h ∧ D 0 = id ∧ E (o :: l).length = ρ' ∧ D (o :: l).length = id + countN ol ∧ Hs.last hs = H (o :: l).length ∧ ∀ i, i ≤ (o :: l).length → (Hs.drop i hs).head = H i := fun v h' w hs' q hhs hol hcn g1 g2 g3 => by
      obtain ⟨hlen, E, H, D, V, W, c, e0, e1, e2, e3, e4, e5, e6⟩ := ih rest _ ρ' h' _ hs' h2 q
      rw [hol]
      refine ⟨by simp [hlen], consF ρ E, consF h H, consF id D, consF v V, consF w W, c.cons ⟨h1, hd, e2.trans nop, e0, fun q => by rw [e1]; exact g1 q, fun q => by rw [e1]; exact g2 q, g3⟩, rfl, rfl, rfl, e3, ?_, ?_, fun i hi => ?_⟩
      · show D l.length = _
        rw [e4, hcn, cnt]
      · subst hhs; exact e5
      · subst hhs
        cases i with
        | zero => rfl
        | succ i => exact e6 i (by simpa using hi)
    have go1 : ∀ v h', opD call ρ h id op = .ok v h' → ∀ r : RD, (@RD.rec (fun _ => RD) .fail (fun ρ' hs => .ok ρ' (.cons h hs)) (opsD call rest (put ρ (o.dst.map pos) v) h' (@Bool.rec (fun _ => Nat) id (Nat.succ id) (isNop op)))) = .ok ρ' hs → ∃ hs', opsD call rest (put ρ (o.dst.map pos) v) h' (@Bool.rec (fun _ => Nat) id (Nat.succ id) (isNop op)) = .ok ρ' hs' ∧ hs = .cons h hs' := fun v h' _ _ q => by
      obtain ⟨ρ1, hs1, q1, q2⟩ := rd_some q
      cases q2
      exact ⟨hs1, q1, rfl⟩
    rcases h3 with ⟨hg, rfl⟩ | ⟨j, wt, oj, g, hg, hj, hjd, rfl⟩
    · have he' : (@VH.rec (fun _ => RD) .fail (fun v h' => @RD.rec (fun _ => RD) .fail (fun ρ' hs => .ok ρ' (.cons h hs)) (opsD call rest (put ρ (o.dst.map pos) v) h' (@Bool.rec (fun _ => Nat) id (Nat.succ id) (isNop op)))) (opD call ρ h id op)) = .ok ρ' hs := he
      obtain ⟨v, h', q1, q2⟩ := vhRD_some he'
      obtain ⟨hs', q3, q4⟩ := go1 v h' q1 .fail q2
      exact fin v h' true hs' q3 q4 rfl rfl (fun _ => q1) (fun q => by cases q) (.inl ⟨hg, rfl⟩)
    · have he' : (@Bool.rec (fun _ => RD) (@RD.rec (fun _ => RD) .fail (fun ρ' hs => .ok ρ' (.cons h hs)) (opsD call rest (put ρ (o.dst.map pos) undefV) h (@Bool.rec (fun _ => Nat) id (Nat.succ id) (isNop op))))
          (@VH.rec (fun _ => RD) .fail (fun v h' => @RD.rec (fun _ => RD) .fail (fun ρ' hs => .ok ρ' (.cons h hs)) (opsD call rest (put ρ (o.dst.map pos) v) h' (@Bool.rec (fun _ => Nat) id (Nat.succ id) (isNop op)))) (opD call ρ h id op)) (isB wt (Tr.get (pos g) ρ))) = .ok ρ' hs := he
      cases hb : isB wt (Tr.get (pos g) ρ) with
      | false =>
        rw [hb] at he'
        obtain ⟨ρ1, hs1, q1, q2⟩ := rd_some he'
        cases q2
        exact fin undefV h false hs1 q1 rfl rfl rfl (fun q => by cases q) (fun _ => ⟨rfl, rfl⟩) (.inr ⟨j, wt, oj, g, hg, hj, hjd, hb.symm⟩)
      | true =>
        rw [hb] at he'
        obtain ⟨v, h', q1, q2⟩ := vhRD_some he'
        obtain ⟨hs', q3, q4⟩ := go1 v h' q1 .fail q2
        exact fin v h' true hs' q3 q4 rfl rfl (fun _ => q1) (fun q => by cases q) (.inr ⟨j, wt, oj, g, hg, hj, hjd, hb.symm⟩)
end
end Go.Proofs.Ytndfelbgppbncaa.Ev
