/- The evaluator's soundness: regions in the text's order; code; functions. -/
import Derived.Test.YtndfelbgppbncaaEvCode
set_option linter.unusedVariables false
namespace Go.Proofs.Ytndfelbgppbncaa.Ev
section
variable {P : Program}
theorem compOps_cons {nt : Nat} {ops : Array Oper} {o : Oper} {l : List Oper} {ol : OpL} (h : compOps P nt ops (o :: l) = some ol) :
    (∀ d, o.dst = some d → d < nt) ∧ ∃ op rest, compOp P o.op = some op ∧ compOps P nt ops l = some rest ∧
      ((o.guard = none ∧ ol = .cons (o.dst.map pos) op rest) ∨ ∃ j w oj g, o.guard = some (j, w) ∧ ops[j]? = some oj ∧ oj.dst = some g ∧ ol = .consG (pos g) w (o.dst.map pos) op rest) := by
  unfold compOps at h
  obtain ⟨h1, h⟩ := guard_some h
  obtain ⟨op, h2, h⟩ := bind_some h
  obtain ⟨d, h3, h⟩ := bind_some h
  obtain ⟨rest, h4, h⟩ := bind_some h
  have hd : d = o.dst.map pos := by
    cases hdst : o.dst with
    | none => rw [hdst] at h3; exact (pure_some h3)
    | some d0 =>
      rw [hdst] at h3
      obtain ⟨p, hp, h3⟩ := bind_some h3
      rw [posC_eq] at hp
      cases hp
      exact pure_some h3
  subst hd
  refine ⟨fun d hdst => by rw [hdst] at h1; exact blt_lt h1, op, rest, h2, h4, ?_⟩
  cases hg : o.guard with
  | none => rw [hg] at h; exact .inl ⟨rfl, pure_some h⟩
  | some g =>
    obtain ⟨j, w⟩ := g
    rw [hg] at h
    obtain ⟨oj, h5, h⟩ := bind_some h
    obtain ⟨g, h6, h⟩ := bind_some h
    obtain ⟨p, h7, h⟩ := bind_some h
    rw [posC_eq] at h7
    cases h7
    exact .inr ⟨j, w, oj, g, rfl, h5, h6, pure_some h⟩
theorem vhR_some {x : VH} {f : Value → Heap → R} {r : R} (hr : r ≠ .fail) (h : (@VH.rec (fun _ => R) .fail f x) = r) : ∃ v h', x = .ok v h' ∧ f v h' = r := by
  cases x with
  | fail => exact absurd h.symm hr
  | ok v h' => exact ⟨v, h', rfl, h⟩
theorem opsE_norm {call : CallT} : ∀ {ol : OpL} {ρ : Env} {h : Heap} {r : R}, opsE call ol ρ h = r → r ≠ .fail → ∃ ρ' h', r = .norm ρ' h'
  | .nil, ρ, h, r, e, hr => ⟨ρ, h, e.symm⟩
  | .cons dst op rest, ρ, h, r, e, hr => by
    have e' : (@VH.rec (fun _ => R) .fail (fun v h' => opsE call rest (put ρ dst v) h') (opE call ρ h op)) = r := e
    obtain ⟨v, h', _, h2⟩ := vhR_some hr e'
    exact opsE_norm h2 hr
  | .consG g w dst op rest, ρ, h, r, e, hr => by
    have e' : (@Bool.rec (fun _ => R) (opsE call rest (put ρ dst undefV) h) (@VH.rec (fun _ => R) .fail (fun v h' => opsE call rest (put ρ dst v) h') (opE call ρ h op)) (isB w (Tr.get g ρ))) = r := e
    cases hb : isB w (Tr.get g ρ) with
    | false => rw [hb] at e'; exact opsE_norm e' hr
    | true =>
      rw [hb] at e'
      obtain ⟨v, h', _, h2⟩ := vhR_some hr e'
      exact opsE_norm h2 hr
/-- The state of an activation. -/
structure Sim (base : Nat) (ι : Inj) (ρ : Env) (h : Heap) (a : Act) (w : World) (nt : Nat) (ds : List Deferred) : Prop where
  rel : Rel base ι h w
  env : EnvR ι ρ a
  size : a.tmps.size = nt
  defers : a.defers = ds
theorem Sim.put {base : Nat} {ι ι' : Inj} {ρ : Env} {h h' : Heap} {a : Act} {w w' : World} {nt : Nat} {ds : List Deferred} (s : Sim base ι ρ h a w nt ds) {dst : Option Tmp} {v v' : Value} (hd : ∀ d, dst = some d → d < nt) (hv : VR ι' v v') (hr : Rel base ι' h' w') (hx : Ext ι h w ι' h' w') :
    Sim base ι' (Ev.put ρ (dst.map pos) v) h' (a.put dst v') w' nt ds :=
  ⟨hr, (s.env.mono hx.le).put hv (fun d q => by rw [s.size]; exact hd d q), by rw [put_size]; exact s.size, by rw [put_defers]; exact s.defers⟩
theorem ops_wp {call : CallT} (hn : NamesOK P) (hcall : CallsOK P call) {base nt : Nat} {ds : List Deferred} {ops : Array Oper} {Q : Exit → Act → World → Prop} :
    ∀ (l : List Oper) (k : Nat) (ol : OpL) (ι : Inj) (ρ ρ' : Env) (h h' : Heap) (a : Act) (w : World), (∀ i o, l[i]? = some o → ops[k + i]? = some o) → compOps P nt ops l = some ol → opsE call ol ρ h = .norm ρ' h' → Sim base ι ρ h a w nt ds →
      (∀ ι' a' w', Sim base ι' ρ' h' a' w' nt ds → Ext ι h w ι' h' w' → Q .normal a' w') → wpOps P ops Q (List.range' k l.length) a w := by
  intro l
  induction l with
  | nil =>
    intro k ol ι ρ ρ' h h' a w hl hc he s hq
    cases hc
    have he' : R.norm ρ h = R.norm ρ' h' := he
    cases he'
    exact hq ι a w s (.refl _ _ _)
  | cons o l ih =>
    intro k ol ι ρ ρ' h h' a w hl hc he s hq
    obtain ⟨hd, op, rest, h1, h2, h3⟩ := compOps_cons hc
    have hk : ops[k]? = some o := hl 0 o rfl
    have hl' : ∀ i o, l[i]? = some o → ops[k + 1 + i]? = some o := fun i o' q => by
      have := hl (i + 1) o' (by simpa using q)
      rwa [show k + (i + 1) = k + 1 + i by omega] at this
    rw [List.length_cons, List.range'_succ, wpOps_cons]
    simp only [wpOp, hk]
    have go : opsE call (.cons (o.dst.map pos) op rest) ρ h = .norm ρ' h' → (o.wp P a w (wpOps P ops Q (List.range' (k + 1) l.length)) Q ∨ (o.asks P a w ∧ LetsOut Q)) := fun he => by
      have he' : (@VH.rec (fun _ => R) .fail (fun v h' => opsE call rest (put ρ (o.dst.map pos) v) h') (opE call ρ h op)) = .norm ρ' h' := he
      obtain ⟨v, h1', q1, q2⟩ := vhR_some (by simp) he'
      refine .inl (op_wp hn hcall (compOp_ok h1) s.rel (s.env.opd o) q1 fun ι1 v1 w1 g1 g2 g3 => ?_)
      exact ih (k + 1) rest ι1 _ _ _ _ _ _ hl' h2 q2 (s.put hd g1 g2 g3) fun ι' a' w' s' x' => hq ι' a' w' s' (g3.trans x')
    rcases h3 with ⟨hg, rfl⟩ | ⟨j, wt, oj, g, hg, hj, hjd, rfl⟩
    · have hw : Region.wanted o (yielded ops a.tmps) = true := by simp [Region.wanted, hg]
      rw [if_pos hw]
      exact go he
    · have he' : (@Bool.rec (fun _ => R) (opsE call rest (put ρ (o.dst.map pos) undefV) h) (opsE call (.cons (o.dst.map pos) op rest) ρ h) (isB wt (Tr.get (pos g) ρ))) = .norm ρ' h' := he
      have hw := wanted_eq s.env hg hj hjd
      cases hb : isB wt (Tr.get (pos g) ρ) with
      | true =>
        rw [hb] at he' hw
        rw [if_pos hw]
        exact go he'
      | false =>
        rw [hb] at he' hw
        rw [if_neg (by rw [hw]; simp)]
        exact ih (k + 1) rest ι _ _ _ _ _ _ hl' h2 he' (s.put hd .undef s.rel (.refl _ _ _)) hq

/-! ### code -/
/-- What an end of code leaves. -/
def ROK (base : Nat) (ι : Inj) (h : Heap) (w : World) (nt : Nat) (ds : List Deferred) (r : R) (e : Exit) (a' : Act) (w' : World) : Prop :=
  match r with
  | .fail => False
  | .norm ρ' h' => e = .normal ∧ ∃ ι', Sim base ι' ρ' h' a' w' nt ds ∧ Ext ι h w ι' h' w'
  | .exit id ρ' h' => e = .exit id ∧ ∃ ι', Sim base ι' ρ' h' a' w' nt ds ∧ Ext ι h w ι' h' w'
  | .ret ρ' h' => e = .ret ∧ ∃ ι', Sim base ι' ρ' h' a' w' nt ds ∧ Ext ι h w ι' h' w'
theorem ROK.of_ext {base : Nat} {ι ι1 : Inj} {h h1 : Heap} {w w1 : World} {nt : Nat} {ds : List Deferred} {r : R} {e : Exit} {a' : Act} {w' : World} (x : Ext ι h w ι1 h1 w1) (hr : ROK base ι1 h1 w1 nt ds r e a' w') : ROK base ι h w nt ds r e a' w' := by
  cases r with
  | fail => exact hr
  | norm ρ' h' => obtain ⟨q, ι', s, x'⟩ := hr; exact ⟨q, ι', s, x.trans x'⟩
  | exit id ρ' h' => obtain ⟨q, ι', s, x'⟩ := hr; exact ⟨q, ι', s, x.trans x'⟩
  | ret ρ' h' => obtain ⟨q, ι', s, x'⟩ := hr; exact ⟨q, ι', s, x.trans x'⟩
/-- What is to be shown of a piece of code. -/
def CodeOK (P : Program) (call : CallT) (K nt : Nat) (c : Code) (ac : ACode) : Prop :=
  ∀ (base : Nat) (ds : List Deferred) (ι : Inj) (ρ : Env) (h : Heap) (a : Act) (w : World), exec call K ac ρ h ≠ .fail → Sim base ι ρ h a w nt ds →
    c.wp P (ROK base ι h w nt ds (exec call K ac ρ h)) a w
theorem ok_skip {call : CallT} {K nt : Nat} : CodeOK P call K nt .skip .skip := fun base ds ι ρ h a w hr s => wp_skip ⟨rfl, ι, s, .refl _ _ _⟩
theorem ok_exit {call : CallT} {K nt id : Nat} : CodeOK P call K nt (.exit id) (.exit id) := fun base ds ι ρ h a w hr s => wp_exit ⟨rfl, ι, s, .refl _ _ _⟩
theorem ok_ret {call : CallT} {K nt : Nat} : CodeOK P call K nt .ret .ret := fun base ds ι ρ h a w hr s => wp_ret ⟨rfl, ι, s, .refl _ _ _⟩
theorem ok_reg {call : CallT} {K nt : Nat} (hn : NamesOK P) (hcall : CallsOK P call) {id : Nat} {ops : Array Oper} {ol : OpL} (hc : compOps P nt ops ops.toList = some ol) : CodeOK P call K nt (.region id ops false) (.reg ol) := fun base ds ι ρ h a w hr s => by
  have hr' : opsE call ol ρ h ≠ .fail := hr
  obtain ⟨ρ', h', q⟩ := opsE_norm rfl hr'
  have hx : exec call K (.reg ol) ρ h = .norm ρ' h' := q
  rw [hx]
  refine wp_region ?_
  have := ops_wp (Q := ROK base ι h w nt ds (.norm ρ' h')) hn hcall ops.toList 0 ol ι ρ ρ' h h' a w (fun i o q => by rw [Nat.zero_add]; simpa using q) hc q s (fun ι' a' w' s' x' => ⟨rfl, ι', s', x'⟩)
  rwa [Array.length_toList, ← List.range_eq_range'] at this
theorem ok_seq {call : CallT} {K nt : Nat} {c1 c2 : Code} {a1 a2 : ACode} (h1 : CodeOK P call K nt c1 a1) (h2 : CodeOK P call K nt c2 a2) : CodeOK P call K nt (.seq c1 c2) (.seq a1 a2) := fun base ds ι ρ h a w hr s => by
  have hx : exec call K (.seq a1 a2) ρ h = @R.rec (fun _ => R) .fail (fun ρ h => exec call K a2 ρ h) (fun id ρ h => .exit id ρ h) (fun ρ h => .ret ρ h) (exec call K a1 ρ h) := rfl
  rw [hx] at hr ⊢
  have hr1 : exec call K a1 ρ h ≠ .fail := fun q => by rw [q] at hr; exact hr rfl
  refine wp_seq (wp_mono (h1 base ds ι ρ h a w hr1 s) fun e a' w' hq => ?_)
  cases hq1 : exec call K a1 ρ h with
  | fail => exact absurd hq1 hr1
  | norm ρ' h' =>
    rw [hq1] at hq hr
    obtain ⟨rfl, ι', s', x'⟩ := hq
    exact wp_mono (h2 base ds ι' ρ' h' a' w' hr s') fun e a'' w'' q => q.of_ext x'
  | exit id ρ' h' =>
    rw [hq1] at hq
    obtain ⟨rfl, ι', s', x'⟩ := hq
    exact ⟨rfl, ι', s', x'⟩
  | ret ρ' h' =>
    rw [hq1] at hq
    obtain ⟨rfl, ι', s', x'⟩ := hq
    exact ⟨rfl, ι', s', x'⟩
theorem ok_cond {call : CallT} {K nt : Nat} {x : Operand} {x' : AO} {c1 c2 : Code} {a1 a2 : ACode} (hx : cO x = some x') (h1 : CodeOK P call K nt c1 a1) (h2 : CodeOK P call K nt c2 a2) : CodeOK P call K nt (.cond x c1 c2) (.cond x' a1 a2) := fun base ds ι ρ h a w hr s => by
  have he : exec call K (.cond x' a1 a2) ρ h = @Option.rec Bool (fun _ => R) .fail (fun b => @Bool.rec (fun _ => R) (exec call K a2 ρ h) (exec call K a1 ρ h) b) (boolOf (val ρ x')) := rfl
  rw [he] at hr ⊢
  cases hb : boolOf (val ρ x') with
  | none => rw [hb] at hr; exact absurd rfl hr
  | some b =>
    rw [hb] at hr
    have hv := boolOf_some hb
    have ex := s.env.val hx
    rw [hv] at ex
    generalize hq : a.eval x = q at ex
    cases ex
    cases b with
    | true => exact wp_cond_true hq (h1 base ds ι ρ h a w hr s)
    | false => exact wp_cond_false hq (h2 base ds ι ρ h a w hr s)
theorem ok_block {call : CallT} {K nt id : Nat} {c : Code} {ac : ACode} (h1 : CodeOK P call K nt c ac) : CodeOK P call K nt (.block id c) (.block id ac) := fun base ds ι ρ h a w hr s => by
  have he : exec call K (.block id ac) ρ h = @R.rec (fun _ => R) .fail (fun ρ h => .norm ρ h) (fun id' ρ h => @Bool.rec (fun _ => R) (.exit id' ρ h) (.norm ρ h) (Nat.beq id' id)) (fun ρ h => .ret ρ h) (exec call K ac ρ h) := rfl
  rw [he] at hr ⊢
  have hr1 : exec call K ac ρ h ≠ .fail := fun q => by rw [q] at hr; exact hr rfl
  refine wp_block (wp_mono (h1 base ds ι ρ h a w hr1 s) fun e a' w' hq => ?_)
  cases hq1 : exec call K ac ρ h with
  | fail => exact absurd hq1 hr1
  | norm ρ' h' =>
    rw [hq1] at hq
    obtain ⟨rfl, ι', s', x'⟩ := hq
    exact ⟨rfl, ι', s', x'⟩
  | exit id' ρ' h' =>
    rw [hq1] at hq
    obtain ⟨rfl, ι', s', x'⟩ := hq
    show if id' = id then _ else _
    by_cases q : id' = id
    · rw [if_pos q]
      have : Nat.beq id' id = true := by rw [beq_eq]; exact decide_eq_true q
      show ROK base ι h w nt ds (@Bool.rec (fun _ => R) (.exit id' ρ' h') (.norm ρ' h') (Nat.beq id' id)) .normal a' w'
      rw [this]
      exact ⟨rfl, ι', s', x'⟩
    · rw [if_neg q]
      have : Nat.beq id' id = false := by rw [beq_eq]; exact decide_eq_false q
      show ROK base ι h w nt ds (@Bool.rec (fun _ => R) (.exit id' ρ' h') (.norm ρ' h') (Nat.beq id' id)) (.exit id') a' w'
      rw [this]
      exact ⟨rfl, ι', s', x'⟩
  | ret ρ' h' =>
    rw [hq1] at hq
    obtain ⟨rfl, ι', s', x'⟩ := hq
    exact ⟨rfl, ι', s', x'⟩
end
end Go.Proofs.Ytndfelbgppbncaa.Ev
