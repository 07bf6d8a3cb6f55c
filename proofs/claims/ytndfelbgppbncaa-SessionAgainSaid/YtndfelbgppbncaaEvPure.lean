/- The evaluator's soundness: operations that neither read nor write memory. -/
import Derived.Test.YtndfelbgppbncaaEvMem
import Derived.Test.YtndfelbgppbncaaEvInt
import Derived.Laws.Small
import Derived.Laws.Slices
import Derived.Laws.Strings
import Derived.Laws.Strings2
import Derived.Laws.Build
set_option linter.unusedVariables false
namespace Go.Proofs.Ytndfelbgppbncaa.Ev
/-! ### the cases -/
theorem vBool_some {f : Bool → Option Value} {v r : Value} (h : vBool f v = some r) : ∃ b, v = .bool b ∧ f b = some r := by
  cases v <;> first | exact ⟨_, rfl, h⟩ | cases h
theorem vInt_some {f : IntKind → Int → Option Value} {v r : Value} (h : vInt f v = some r) : ∃ k n, v = .int k n ∧ f k n = some r := by
  cases v <;> first | exact ⟨_, _, rfl, h⟩ | cases h
theorem vStr_some {f : ByteArray → Option Value} {v r : Value} (h : vStr f v = some r) : ∃ s, v = .string s ∧ f s = some r := by
  cases v <;> first | exact ⟨_, rfl, h⟩ | cases h
theorem vPtr_some {f : Addr → Option Value} {v r : Value} (h : vPtr f v = some r) : ∃ a, v = .pointer (some a) ∧ f a = some r := by
  cases v with
  | pointer a => cases a with
    | none => cases h
    | some a => exact ⟨a, rfl, h⟩
  | _ => cases h
theorem vSlc_some {f : Option Addr → Nat → Nat → Option Value} {v r : Value} (h : vSlc f v = some r) : ∃ a n c, v = .slice a n c ∧ f a n c = some r := by
  cases v <;> first | exact ⟨_, _, _, rfl, h⟩ | cases h
theorem vAgg_some {f : Array Value → Option Value} {v r : Value} (h : vAgg f v = some r) : ∃ cs, v = .agg cs ∧ f cs = some r := by
  cases v <;> first | exact ⟨_, rfl, h⟩ | cases h
theorem vTup_some {f : Array Value → Option Value} {v r : Value} (h : vTup f v = some r) : ∃ cs, v = .tuple cs ∧ f cs = some r := by
  cases v <;> first | exact ⟨_, rfl, h⟩ | cases h
theorem natOf_some {v : Value} {m : Nat} (h : natOf v = some m) : ∃ k, v = .int k (Int.ofNat m) := by
  cases v with
  | int k n => cases n with
    | ofNat x => exact ⟨k, by cases h; rfl⟩
    | negSucc x => cases h
  | _ => cases h
theorem boolOf_some {v : Value} {b : Bool} (h : boolOf v = some b) : v = .bool b := by
  cases v <;> first | (cases h; rfl) | cases h
theorem scells_some {v : Value} {l : List Value} (h : scells v = some l) : (∃ xs, v = .agg ⟨xs⟩ ∧ l = xs) ∨ (isCell v = true ∧ l = [v]) := by
  cases v with
  | agg cs => cases cs with
    | mk xs => exact .inl ⟨xs, rfl, (Option.some.inj h).symm⟩
  | tuple cs => cases h
  | _ => exact .inr ⟨rfl, (Option.some.inj h).symm⟩
theorem VR.scells {ι : Inj} {v v' : Value} {l : List Value} (hv : VR ι v v') (h : Ev.scells v = some l) : VRL ι l v'.cells.toList ∧ l.all isCell = true := by
  rcases scells_some h with ⟨xs, rfl, rfl⟩ | ⟨hc, rfl⟩
  · cases hv with
    | agg hx ha => exact ⟨hx, ha⟩
  · have : v'.cells = #[v'] := by
      have hq := hv.isCell_eq
      rw [hc] at hq
      cases v' <;> first | rfl | cases hq
    rw [this]
    exact ⟨.cons hv .nil, by simp [hc]⟩
theorem opt_some {α : Type} {o : Option α} {f : α → Option Value} {r : Value} (h : (@Option.rec α (fun _ => Option Value) none f o) = some r) : ∃ a, o = some a ∧ f a = some r := by
  cases o with
  | none => cases h
  | some a => exact ⟨a, rfl, h⟩
theorem if_some {b : Bool} {x : Option Value} {r : Value} (h : (@Bool.rec (fun _ => Option Value) none x b) = some r) : b = true ∧ x = some r := by
  cases b with
  | false => cases h
  | true => exact ⟨rfl, h⟩

/-! ### operands -/
def EnvR (ι : Inj) (ρ : Env) (a : Act) : Prop := ∀ t, VR ι (val ρ (.t (pos t))) (a.tmps.getD t undef)
theorem EnvR.mono {ι κ : Inj} {ρ : Env} {a : Act} (h : ι.le κ) (e : EnvR ι ρ a) : EnvR κ ρ a := fun t => (e t).mono h
theorem VR.undef {ι : Inj} : VR ι undefV Go.undef := .tuple .nil
theorem cO_some {x : Operand} {y : AO} (h : cO x = some y) :
    (∃ t, x = .tmp t ∧ y = .t (pos t)) ∨ (∃ v, x = .const v ∧ y = .c v ∧ groundV v = true) ∨ (∃ f, x = .func f ∧ y = .c (.func (.func f) #[] #[])) := by
  cases x with
  | tmp t => exact .inl ⟨t, rfl, by simp [cO, posC_eq] at h; exact h.symm⟩
  | const v =>
    refine .inr (.inl ⟨v, rfl, ?_⟩)
    simp only [cO] at h
    split at h
    · rename_i hg; exact ⟨(Option.some.inj h).symm, hg⟩
    · cases h
  | func f => exact .inr (.inr ⟨f, rfl, (Option.some.inj h).symm⟩)
  | global g => cases h
theorem EnvR.val {ι : Inj} {ρ : Env} {a : Act} (e : EnvR ι ρ a) {x : Operand} {y : AO} (h : cO x = some y) : VR ι (Ev.val ρ y) (a.eval x) := by
  rcases cO_some h with ⟨t, rfl, rfl⟩ | ⟨v, rfl, rfl, hg⟩ | ⟨f, rfl, rfl⟩
  · exact e t
  · exact .ground v hg
  · exact .func f .nil .nil
theorem cOs_cons {x : Operand} {l : List Operand} {r : List AO} (h : cOs (x :: l) = some r) : ∃ y ys, cO x = some y ∧ cOs l = some ys ∧ r = y :: ys := by
  simp only [cOs, Option.bind_eq_bind, Option.bind_eq_some_iff, Option.pure_def, Option.some.injEq] at h
  obtain ⟨y, hy, ys, hys, rfl⟩ := h
  exact ⟨y, ys, hy, hys, rfl⟩
theorem EnvR.vals {ι : Inj} {ρ : Env} {a : Act} (e : EnvR ι ρ a) : ∀ {l : List Operand} {r : List AO}, cOs l = some r → VRL ι (Ev.vals ρ r) (l.map a.eval)
  | [], r, h => by cases h; exact .nil
  | x :: l, r, h => by
    obtain ⟨y, ys, hy, hys, rfl⟩ := cOs_cons h
    exact .cons (e.val hy) (e.vals hys)

/-- The operands of an operation are told. -/
def OpdR (ι : Inj) (ρ : Env) (a : Act) (o : Oper) : Prop := ∀ x, x ∈ o.op.operands → ∀ y, cO x = some y → VR ι (Ev.val ρ y) (a.eval x)
theorem EnvR.opd {ι : Inj} {ρ : Env} {a : Act} (e : EnvR ι ρ a) (o : Oper) : OpdR ι ρ a o := fun _ _ _ h => e.val h
theorem OpdR.val {ι : Inj} {ρ : Env} {a : Act} {o : Oper} (e : OpdR ι ρ a o) {x : Operand} {y : AO} (h : cO x = some y) (hm : x ∈ o.op.operands) : VR ι (Ev.val ρ y) (a.eval x) := e x hm y h
theorem OpdR.vals {ι : Inj} {ρ : Env} {a : Act} {o : Oper} (e : OpdR ι ρ a o) : ∀ {l : List Operand} {r : List AO}, cOs l = some r → (∀ x, x ∈ l → x ∈ o.op.operands) → VRL ι (Ev.vals ρ r) (l.map a.eval)
  | [], r, h, _ => by cases h; exact .nil
  | x :: l, r, h, hm => by
    obtain ⟨y, ys, hy, hys, rfl⟩ := cOs_cons h
    exact .cons (e.val hy (hm x (by simp))) (e.vals hys fun z hz => hm z (by simp [hz]))
/-! ### the operations -/
/-- 'f' answers what the operation does. -/
def PS (P : Program) (o : Oper) (f : Env → Option Value) : Prop :=
  ∀ (ι : Inj) (ρ : Env) (a : Act) (v : Value), OpdR ι ρ a o → f ρ = some v → ∃ v', VR ι v v' ∧ ∀ w, (execOp a.eval o).run P w = .ok (.value v') w
section
variable {P : Program} {o : Oper}
theorem ps_move {x : Operand} {y : AO} (ho : o.op = .move x) (hy : cO x = some y) : PS P o (pMv y) := fun ι ρ a v e h => by
  have h' : some (val ρ y) = some v := h
  cases h'
  exact ⟨_, e.val hy (by simp [ho, Op.operands]), fun w => by simp only [execOp, ho]; rfl⟩
theorem ps_assign {x : Operand} {y : AO} (ho : o.op = .assign x) (hy : cO x = some y) : PS P o (pMv y) := fun ι ρ a v e h => by
  have h' : some (val ρ y) = some v := h
  cases h'
  exact ⟨_, e.val hy (by simp [ho, Op.operands]), fun w => by simp only [execOp, ho]; rfl⟩
theorem ps_pick {c x y : Operand} {c' x' y' : AO} (ho : o.op = .pick c x y) (hc : cO c = some c') (hx : cO x = some x') (hy : cO y = some y') : PS P o (pPick c' x' y') := fun ι ρ a v e h => by
  obtain ⟨b, hb, hv⟩ := vBool_some h
  have ec := e.val hc (by simp [ho, Op.operands])
  rw [hb] at ec
  generalize hq : a.eval c = q at ec
  cases ec
  cases b with
  | false =>
    have hv' : some (val ρ y') = some v := hv
    cases hv'
    exact ⟨_, e.val hy (by simp [ho, Op.operands]), fun w => by simp only [execOp, ho, hq]; simp [asBool]⟩
  | true =>
    have hv' : some (val ρ x') = some v := hv
    cases hv'
    exact ⟨_, e.val hx (by simp [ho, Op.operands]), fun w => by simp only [execOp, ho, hq]; simp [asBool]⟩
theorem ps_nilck {x : Operand} {x' : AO} (ho : o.op = .nilCheck x) (hx : cO x = some x') : PS P o (pNilck x') := fun ι ρ a v e h => by
  obtain ⟨ad, hb, hv⟩ := vPtr_some h
  have ex := e.val hx (by simp [ho, Op.operands])
  rw [hb] at ex
  generalize hq : a.eval x = q at ex
  have hv' : v = .pointer (some ad) := (Option.some.inj hv).symm
  subst hv'
  cases ex with
  | ptr eb => exact ⟨_, .ptr eb, fun w => by simp only [execOp, ho, hq]; rfl⟩
theorem ps_int {op : BinOp} {g : IntKind → IntKind → Int → Int → Option Value} (hg : IntOK op g) {t t' : TypeId} {x y : Operand} {x' y' : AO} (ho : o.op = .binOp op t x y t') (hx : cO x = some x') (hy : cO y = some y') :
    PS P o (pInt g x' y') := fun ι ρ a v e h => by
  obtain ⟨k, m, h1, h⟩ := vInt_some h
  obtain ⟨k', n, h2, h⟩ := vInt_some h
  have ex := e.val hx (by simp [ho, Op.operands])
  have ey := e.val hy (by simp [ho, Op.operands])
  rw [h1] at ex
  rw [h2] at ey
  generalize hq : a.eval x = q at ex
  generalize hr : a.eval y = r at ey
  cases ex
  cases ey
  refine ⟨v, (hg P t k k' m n v default h).2 ι, fun w => ?_⟩
  simp only [execOp, ho, hq, hr, eqGuard]
  have := (hg P t k k' m n v w h).1
  split <;> simp [this]
end
end Go.Proofs.Ytndfelbgppbncaa.Ev
