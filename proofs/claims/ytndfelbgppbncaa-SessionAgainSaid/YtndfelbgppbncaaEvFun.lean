/- The evaluator's soundness: loops; functions; calls. -/
import Derived.Test.YtndfelbgppbncaaEvSeq
import Derived.LoopN
set_option linter.unusedVariables false
namespace Go.Proofs.Ytndfelbgppbncaa.Ev
section
variable {P : Program}
theorem loop_rounds {call : CallT} {K nt : Nat} {c : Code} {ac : ACode} (h1 : CodeOK P call K nt c ac) (base : Nat) (ds : List Deferred) : ∀ (n : Nat) (ι : Inj) (ρ : Env) (h : Heap) (a : Act) (w : World) (r : R), loopE (exec call K ac) n ρ h = r → r ≠ .fail → Sim base ι ρ h a w nt ds →
    ∀ Q : Exit → Act → World → Prop, (∀ e a' w', ROK base ι h w nt ds r e a' w' → Q e a' w') → Code.rounds P c Q n a w
  | 0, ι, ρ, h, a, w, r, hr, hf, s, Q, hq => absurd hr.symm hf
  | n + 1, ι, ρ, h, a, w, r, hr, hf, s, Q, hq => by
    have he : (@R.rec (fun _ => R) .fail (fun ρ h => loopE (exec call K ac) n ρ h) (fun id ρ h => .exit id ρ h) (fun ρ h => .ret ρ h) (exec call K ac ρ h)) = r := hr
    rw [rounds_succ]
    have hr1 : exec call K ac ρ h ≠ .fail := fun q => by rw [q] at he; exact hf he.symm
    refine wp_mono (h1 base ds ι ρ h a w hr1 s) fun e a' w' hx => ?_
    cases hq1 : exec call K ac ρ h with
    | fail => exact absurd hq1 hr1
    | norm ρ' h' =>
      rw [hq1] at hx he
      obtain ⟨rfl, ι', s', x'⟩ := hx
      exact loop_rounds h1 base ds n ι' ρ' h' a' w' r he hf s' Q fun e a'' w'' q => hq e a'' w'' (q.of_ext x')
    | exit id ρ' h' =>
      rw [hq1] at hx he
      obtain ⟨rfl, ι', s', x'⟩ := hx
      have he' : R.exit id ρ' h' = r := he
      subst he'
      exact hq _ _ _ ⟨rfl, ι', s', x'⟩
    | ret ρ' h' =>
      rw [hq1] at hx he
      obtain ⟨rfl, ι', s', x'⟩ := hx
      have he' : R.ret ρ' h' = r := he
      subst he'
      exact hq _ _ _ ⟨rfl, ι', s', x'⟩
theorem ok_loop {call : CallT} {K nt : Nat} {c : Code} {ac : ACode} (h1 : CodeOK P call K nt c ac) : CodeOK P call K nt (.loop c) (.loop ac) := fun base ds ι ρ h a w hr s =>
  wp_loop_rounds K (loop_rounds h1 base ds K ι ρ h a w _ rfl hr s _ fun _ _ _ q => q)

/-- What is to be shown of regions that draw their order. -/
def DrawOK (P : Program) (call : CallT) (K : Nat) : Prop :=
  ∀ (nt id : Nat) (ops : Array Oper) (l : OpL) (ch : Checks), compOps P nt ops ops.toList = some l → drawChecks ops l = some ch → CodeOK P call K nt (.region id ops true) (.dreg l ch)
theorem comp_ok {call : CallT} {K nt : Nat} (hn : NamesOK P) (hcall : CallsOK P call) (hd : DrawOK P call K) : ∀ (c : Code) (ac : ACode), comp P nt c = some ac → CodeOK P call K nt c ac := by
  intro c
  induction c with
  | skip => intro ac h; cases h; exact ok_skip
  | region id ops dr =>
    intro ac h
    cases dr with
    | false =>
      obtain ⟨l, h1, h⟩ := bind_some h
      have := pure_some h; subst this
      exact ok_reg hn hcall h1
    | true =>
      obtain ⟨l, h1, h⟩ := bind_some h
      obtain ⟨ch, h2, h⟩ := bind_some h
      have := pure_some h; subst this
      exact hd nt id ops l ch h1 h2
  | seq a b iha ihb =>
    intro ac h
    obtain ⟨x, h1, h⟩ := bind_some h
    obtain ⟨y, h2, h⟩ := bind_some h
    have := pure_some h; subst this
    exact ok_seq (iha _ h1) (ihb _ h2)
  | cond x a b iha ihb =>
    intro ac h
    obtain ⟨x', h0, h⟩ := bind_some h
    obtain ⟨a', h1, h⟩ := bind_some h
    obtain ⟨b', h2, h⟩ := bind_some h
    have := pure_some h; subst this
    exact ok_cond h0 (iha _ h1) (ihb _ h2)
  | block id a ih =>
    intro ac h
    obtain ⟨a', h1, h⟩ := bind_some h
    have := pure_some h; subst this
    exact ok_block (ih _ h1)
  | loop a ih =>
    intro ac h
    obtain ⟨a', h1, h⟩ := bind_some h
    have := pure_some h; subst this
    exact ok_loop (ih _ h1)
  | exit id => intro ac h; cases h; exact ok_exit
  | ret => intro ac h; cases h; exact ok_ret
  | rangeFunc f ps a b _ _ => intro ac h; cases h
  | scope a _ => intro ac h; cases h
  | label l => intro ac h; cases h
  | goto l => intro ac h; cases h
  | refuse w => intro ac h; cases h

/-! ### functions -/
theorem val_init : ∀ (l : List Value) (n : Nat) (ρ : Env) (t : Nat), val (initEnv l n ρ) (.t (pos t)) = if n ≤ t ∧ t < n + l.length then (l[t - n]?).getD undefV else val ρ (.t (pos t))
  | [], n, ρ, t => by
    show val ρ (.t (pos t)) = _
    rw [if_neg (by simp)]
  | v :: l, n, ρ, t => by
    show val (initEnv l (n + 1) (put ρ (some (pos n)) v)) (.t (pos t)) = _
    rw [val_init l (n + 1), val_put]
    simp only [List.length_cons]
    by_cases h1 : n + 1 ≤ t ∧ t < n + 1 + l.length
    · rw [if_pos h1, if_pos (by omega), show t - n = (t - (n + 1)) + 1 by omega]
      simp
    · rw [if_neg h1]
      by_cases h2 : t = n
      · subst h2; rw [if_pos rfl, if_pos (by omega)]; simp
      · rw [if_neg (fun q => h2 (pos_inj (Option.some.inj q)).symm), if_neg (by omega)]
theorem env_init {ι : Inj} {args args' : List Value} (h : VRL ι args args') (m : Nat) : EnvR ι (initEnv args 0 .nil) { tmps := ⟨args'⟩ ++ Array.replicate m Go.undef, defers := [] } := fun t => by
  rw [val_init]
  have hl := h.length
  show VR ι _ ((⟨args'⟩ ++ Array.replicate m Go.undef : Array Value).getD t Go.undef)
  rw [Array.getD_eq_getD_getElem?]
  by_cases q : 0 ≤ t ∧ t < 0 + args.length
  · rw [if_pos q]
    obtain ⟨v, hv⟩ : ∃ v, args[t]? = some v := ⟨_, List.getElem?_eq_getElem (by omega)⟩
    obtain ⟨v', hv', hr⟩ := h.get _ _ hv
    rw [Nat.sub_zero, hv, Array.getElem?_append_left (by simp; omega)]
    have : (⟨args'⟩ : Array Value)[t]? = some v' := by simpa using hv'
    rw [this]
    exact hr
  · rw [if_neg q]
    have : val (.nil : Env) (.t (pos t)) = undefV := by
      show (@Option.rec Value (fun _ => Value) undefV (fun v => v) (Tr.get (pos t) (.nil : Tr Value))) = _
      rw [get_nil]
    rw [this, Array.getElem?_append_right (by simp; omega), Array.getElem?_replicate]
    split <;> exact .undef
theorem load_res {base : Nat} {ι : Inj} {h : Heap} {w : World} {ρ : Env} {a : Act} {t : TypeId} {d n : Nat} {f : Heap → Env → Option Value} {v : Value} (r : Rel base ι h w) (e : EnvR ι ρ a) (hf : loadT P t (.t (pos d)) = some (n, f)) (hv : f h ρ = some v) :
    ∃ v', VR ι v v' ∧ (do loadVar t (← asAddr (a.tmps.getD d Go.undef)) : Sem Value).run P w = .ok v' w := by
  obtain ⟨b, hb, hf⟩ := bind_some hf
  cases b with
  | true =>
    obtain ⟨m, hm, hf⟩ := bind_some hf
    obtain ⟨h0, hf⟩ := guard_some hf
    have := pure_some hf
    cases this
    obtain ⟨A, l, l', hq, rfl, g1, g2, g3, g4⟩ := lLoads_at r hv (e d)
    exact ⟨.agg ⟨l'⟩, .agg g1 g2, by rw [hq]; simp [asAddr, loadVar, isAggT_true hb, run_sizeT hm, run_loadN (P := P) g3 g4]⟩
  | false =>
    have := pure_some hf
    cases this
    obtain ⟨_, A, v', hq, h2, h3⟩ := lLoad_at r hv (e d)
    exact ⟨v', h3, by rw [hq]; simp [asAddr, loadVar, isAggT_false hb, h2]⟩
def resSem (tmps : Array Value) : ResultVar → Sem Value
  | .tmp t => pure (tmps.getD t Go.undef)
  | .cell d t => do loadVar t (← asAddr (tmps.getD d Go.undef))
theorem results_eq (fn : Func) (tmps : Array Value) : results fn tmps = (do
    let vs ← fn.results.mapM (resSem tmps)
    pure (if h : vs.size = 1 then vs[0] else .tuple vs)) := by
  unfold results
  have : (fun x : ResultVar => (match x with | .tmp t => pure (tmps.getD t Go.undef) | .cell a t => do loadVar t (← asAddr (tmps.getD a Go.undef)) : Sem Value)) = resSem tmps := by
    funext x
    cases x <;> rfl
  rw [← this]
  rfl
theorem results_run {base : Nat} {ι : Inj} {h : Heap} {w : World} {ρ : Env} {a : Act} (r : Rel base ι h w) (e : EnvR ι ρ a) : ∀ (rv : List ResultVar) (rs : Ress) (l : List Value), compRes P rv = some rs → resOf h ρ rs = some l →
    ∃ l', VRL ι l l' ∧ (rv.mapM (resSem a.tmps)).run P w = .ok l' w
  | [], rs, l, hc, hr => by
    cases hc
    cases hr
    exact ⟨[], .nil, rfl⟩
  | .tmp t :: rv, rs, l, hc, hr => by
    unfold compRes at hc
    obtain ⟨p, hp, hc⟩ := bind_some hc
    obtain ⟨rest, h1, hc⟩ := bind_some hc
    have := pure_some hc; subst this
    rw [posC_eq] at hp
    cases hp
    have hr' : (@Option.rec (List Value) (fun _ => Option (List Value)) none (fun r => some (val ρ (.t (pos t)) :: r)) (resOf h ρ rest)) = some l := hr
    obtain ⟨l0, h2, h3⟩ := optN_some hr'
    cases h3
    obtain ⟨l', g1, g2⟩ := results_run r e rv rest l0 h1 h2
    refine ⟨_ :: l', .cons (e t) g1, ?_⟩
    rw [List.mapM_cons]
    simp only [resSem, Sem.run_bind, Sem.run_pure, Result.andThen_ok]
    rw [g2]
    rfl
  | .cell d t :: rv, rs, l, hc, hr => by
    unfold compRes at hc
    obtain ⟨p, hp, hc⟩ := bind_some hc
    obtain ⟨⟨n, f⟩, h1, hc⟩ := bind_some hc
    obtain ⟨rest, h2, hc⟩ := bind_some hc
    have := pure_some hc; subst this
    rw [posC_eq] at hp
    cases hp
    have hr' : (@Option.rec Value (fun _ => Option (List Value)) none (fun v => @Option.rec (List Value) (fun _ => Option (List Value)) none (fun r => some (v :: r)) (resOf h ρ rest)) (f h ρ)) = some l := hr
    obtain ⟨v, h3, h4⟩ := optN_some hr'
    obtain ⟨l0, h5, h6⟩ := optN_some h4
    cases h6
    obtain ⟨v', g3, g4⟩ := load_res (P := P) r e h1 h3
    obtain ⟨l', g1, g2⟩ := results_run r e rv rest l0 h2 h5
    refine ⟨v' :: l', .cons g3 g1, ?_⟩
    rw [List.mapM_cons]
    simp only [resSem, Sem.run_bind] at g4 ⊢
    rw [g4]
    simp only [Result.andThen_ok]
    rw [g2]
    rfl
theorem resV_VR {ι : Inj} {l l' : List Value} (h : VRL ι l l') : VR ι (resV l) (if h : (⟨l'⟩ : Array Value).size = 1 then (⟨l'⟩ : Array Value)[0] else .tuple ⟨l'⟩) := by
  cases h with
  | nil => exact .tuple .nil
  | cons e r =>
    cases r with
    | nil => exact e
    | cons e2 r2 =>
      rw [dif_neg (by simp)]
      exact .tuple (.cons e (.cons e2 r2))
theorem finish_ok {base : Nat} {ι : Inj} {h h' : Heap} {w : World} {ρ : Env} {a : Act} {fn : Func} {rs : Ress} {v : Value} (r : Rel base ι h w) (e : EnvR ι ρ a) (hc : compRes P fn.results.toList = some rs) (hf : finish ρ h rs = .ok v h') :
    h' = h ∧ ∃ v', VR ι v v' ∧ (results fn a.tmps).run P w = .ok v' w := by
  have hf' : (@Option.rec (List Value) (fun _ => VH) .fail (fun l => .ok (resV l) h) (resOf h ρ rs)) = .ok v h' := hf
  cases hr : resOf h ρ rs with
  | none => rw [hr] at hf'; cases hf'
  | some l =>
    rw [hr] at hf'
    cases hf'
    obtain ⟨l', g1, g2⟩ := results_run (P := P) r e _ _ _ hc hr
    refine ⟨rfl, _, resV_VR g1, ?_⟩
    rw [results_eq, Array.mapM_eq_mapM_toList]
    simp only [Sem.run_bind, Sem.run_map, g2, Result.andThen_ok, Sem.run_pure]
theorem compFunc_some {fn : Func} {af : AFunc} (h : compFunc P fn = some af) : ∃ b c rs, fn.body = some b ∧ comp P fn.ntmps b = some c ∧ compRes P fn.results.toList = some rs ∧ af = .mk fn.ntmps c rs := by
  unfold compFunc at h
  obtain ⟨b, h1, h⟩ := bind_some h
  obtain ⟨c, h2, h⟩ := bind_some h
  obtain ⟨rs, h3, h⟩ := bind_some h
  exact ⟨b, c, rs, h1, h2, h3, pure_some h⟩
theorem tab_some {f : FuncId} {af : AFunc} (h : tab P f = some af) : ∃ fn, P.funcs[f]? = some fn ∧ compFunc P fn = some af := by
  have h' : (@Option.rec Func (fun _ => Option AFunc) none (fun fn => compFunc P fn) (nth P.funcs.toList f)) = some af := h
  obtain ⟨fn, h1, h2⟩ := optN_some h'
  rw [nth_eq] at h1
  exact ⟨fn, by simpa using h1, h2⟩
theorem callF_ok {K : Nat} (hn : NamesOK P) (hd : ∀ call, CallsOK P call → DrawOK P call K) : ∀ n, CallsOK P (callF (tab P) K n)
  | 0 => fun f args h v h' e => by cases e
  | n + 1 => fun f args h v h' e => by
    have ih := callF_ok hn hd n
    have e1 : (@Option.rec AFunc (fun _ => VH) .fail (fun af => AFunc.rec (fun ntmps body results =>
      Bool.rec .fail (R.rec .fail (fun ρ h => finish ρ h results) (fun _ _ _ => .fail) (fun ρ h => finish ρ h results) (exec (callF (tab P) K n) K body (initEnv args 0 .nil) h)) (Nat.ble (len args) ntmps)) af) (tab P f)) = .ok v h' := e
    obtain ⟨af, hta, e2⟩ := optH_some e1
    obtain ⟨fn, hf, hc⟩ := tab_some hta
    obtain ⟨b, c, rs, hb, hcb, hrs, rfl⟩ := compFunc_some hc
    refine ⟨⟨fn, hf, by rw [hb]; rfl⟩, fun base ι w args' r ha => ?_⟩
    obtain ⟨hle, e3⟩ := ifH_some e2
    have hle := ble_le hle
    rw [len_eq, ha.length] at hle
    have hok := comp_ok (K := K) hn ih (hd _ ih) b c hcb
    have hr1 : exec (callF (tab P) K n) K c (initEnv args 0 .nil) h ≠ .fail := fun q => by rw [q] at e3; cases e3
    refine calls_of_wp hf hb ?_
    have hs : Sim base ι (initEnv args 0 .nil) h { tmps := ⟨args'⟩ ++ Array.replicate (fn.ntmps - args'.length) Go.undef, defers := [] } w fn.ntmps [] :=
      ⟨r, env_init ha _, by simp; omega, rfl⟩
    have hsz : (⟨args'⟩ : Array Value).size = args'.length := rfl
    rw [hsz]
    refine wp_mono (hok base [] ι _ h _ w hr1 hs) fun ex a' w' hq => ?_
    cases hx : exec (callF (tab P) K n) K c (initEnv args 0 .nil) h with
    | fail => exact absurd hx hr1
    | norm ρ' h1 =>
      rw [hx] at hq e3
      obtain ⟨rfl, ι', s', x'⟩ := hq
      obtain ⟨rfl, v', g1, g2⟩ := finish_ok (P := P) (fn := fn) s'.rel s'.env hrs e3
      exact ⟨s'.defers, v', g2, ι', v', rfl, g1, s'.rel, x'⟩
    | exit id ρ' h1 => rw [hx] at e3; cases e3
    | ret ρ' h1 =>
      rw [hx] at hq e3
      obtain ⟨rfl, ι', s', x'⟩ := hq
      obtain ⟨rfl, v', g1, g2⟩ := finish_ok (P := P) (fn := fn) s'.rel s'.env hrs e3
      exact ⟨s'.defers, v', g2, ι', v', rfl, g1, s'.rel, x'⟩
end
end Go.Proofs.Ytndfelbgppbncaa.Ev
