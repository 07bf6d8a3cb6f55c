/- Texts of this claim, part 2: EvCode, EvSeq, EvDraw, EvDraw2, EvDraw3, EvDraw4, EvFun, EvDraw5, EvDraw6, EvRow. -/
import Derived.Test.YtgamhgeiceakeaaComA
import Derived.Orders
import Derived.LoopN
import Derived.Below
import Derived.ChangeSame
/- The evaluator's soundness: operations one behind the other. -/
set_option linter.unusedVariables false
namespace Go.Proofs.Ytgamhgeiceakeaa.Ev
/-- No function of the program is one that the machine answers otherwise. -/
def NamesOK (P : Program) : Prop := ∀ (f : Nat) (fn : Func), P.funcs[f]? = some fn → (fn.name == "runtime.NumGoroutine") = false
/-- What 'call' answers is what the program's calls come to. -/
def CallsOK (P : Program) (call : CallT) : Prop :=
  ∀ f args h v h', call f args h = .ok v h' → (∃ fn : Func, P.funcs[f]? = some fn ∧ fn.body.isSome = true) ∧
    ∀ base ι w args', Rel base ι h w → VRL ι args args' →
      Calls P f ⟨args'⟩ w fun e w' => ∃ ι' v', e = .returned v' ∧ VR ι' v v' ∧ Rel base ι' h' w' ∧ Ext ι h w ι' h' w'
section
variable {P : Program}
theorem val_put {ρ : Env} {d : Option Pos} {v : Value} (t : Nat) : val (put ρ d v) (.t (pos t)) = if d = some (pos t) then v else val ρ (.t (pos t)) := by
  cases d with
  | none => rfl
  | some p =>
    show (@Option.rec Value (fun _ => Value) undefV (fun v => v) (Tr.get (pos t) (Tr.set v p ρ))) = _
    rw [get_set]
    by_cases q : pos t = p
    · subst q; rw [if_pos rfl, if_pos rfl]
    · rw [if_neg q, if_neg (fun e => q (Option.some.inj e).symm)]; rfl
theorem EnvR.put {ι : Inj} {ρ : Env} {a : Act} (e : EnvR ι ρ a) {dst : Option Tmp} {v v' : Value} (hv : VR ι v v') (hd : ∀ d, dst = some d → d < a.tmps.size) : EnvR ι (Ev.put ρ (dst.map pos) v) (a.put dst v') := fun t => by
  rw [val_put]
  cases dst with
  | none => rw [if_neg (by simp)]; exact e t
  | some d =>
    have hlt := hd d rfl
    rw [Option.map_some]
    by_cases q : d = t
    · subst q
      rw [if_pos rfl]
      simp only [Act.put, Array.getD_eq_getD_getElem?, Array.getElem?_setIfInBounds_self_of_lt hlt]
      exact hv
    · rw [if_neg (fun h => q (pos_inj (Option.some.inj h)))]
      simp only [Act.put, Array.getD_eq_getD_getElem?, Array.getElem?_setIfInBounds_ne q]
      have := e t
      simpa [Array.getD_eq_getD_getElem?] using this
theorem put_size (a : Act) (dst : Option Tmp) (v : Value) : (a.put dst v).tmps.size = a.tmps.size := by
  cases dst <;> simp [Act.put]
theorem put_defers (a : Act) (dst : Option Tmp) (v : Value) : (a.put dst v).defers = a.defers := by
  cases dst <;> rfl
theorem isB_eq (w : Bool) (x : Option Value) : isB w x = match x with | some (.bool b) => (b == w) | _ => false := by
  cases x with
  | none => rfl
  | some v => cases v with
    | bool b => cases w <;> cases b <;> rfl
    | _ => rfl
theorem wanted_of {ι : Inj} {ρ : Env} {a : Act} {ops : Array Oper} {o oj : Oper} {j d : Nat} {w : Bool} (hv : VR ι (val ρ (.t (pos d))) (a.tmps.getD d undef)) (hg : o.guard = some (j, w)) (hj : ops[j]? = some oj) (hd : oj.dst = some d) :
    Region.wanted o (yielded ops a.tmps) = isB w (Tr.get (pos d) ρ) := by
  rw [isB_eq]
  simp only [Region.wanted, hg, yielded, hj, Option.bind_some, hd]
  have hval : val ρ (.t (pos d)) = (Tr.get (pos d) ρ).getD undefV := by
    show (@Option.rec Value (fun _ => Value) undefV (fun v => v) (Tr.get (pos d) ρ)) = _
    cases Tr.get (pos d) ρ <;> rfl
  rw [hval] at hv
  rw [Array.getD_eq_getD_getElem?] at hv
  cases hx : Tr.get (pos d) ρ with
  | none =>
    rw [hx] at hv
    simp only [Option.getD_none] at hv
    cases ht : a.tmps[d]? with
    | none => rfl
    | some u =>
      rw [ht] at hv
      simp only [Option.getD_some] at hv
      cases hv
      rfl
  | some x =>
    rw [hx] at hv
    simp only [Option.getD_some] at hv
    cases ht : a.tmps[d]? with
    | none =>
      rw [ht] at hv
      simp only [Option.getD_none] at hv
      have hun : Go.undef = .tuple ⟨[]⟩ := rfl
      rw [hun] at hv
      cases hv
      rfl
    | some u =>
      rw [ht] at hv
      simp only [Option.getD_some] at hv
      cases hv <;> first | rfl | skip
      all_goals (rename_i b; cases b <;> cases w <;> rfl)
theorem wanted_eq {ι : Inj} {ρ : Env} {a : Act} (e : EnvR ι ρ a) {ops : Array Oper} {o oj : Oper} {j d : Nat} {w : Bool} (hg : o.guard = some (j, w)) (hj : ops[j]? = some oj) (hd : oj.dst = some d) :
    Region.wanted o (yielded ops a.tmps) = isB w (Tr.get (pos d) ρ) := wanted_of (e d) hg hj hd
theorem run_enter {w : World} {f : FuncId} {fn : Func} {args : Array Value} (hn : NamesOK P) (hf : P.funcs[f]? = some fn) (hb : fn.body.isSome = true) : (callFunc f args).run P w = .ok (.enter f args) w := by
  have h1 := hn f fn hf
  have h2 : fn.body.isNone = false := by cases h : fn.body <;> simp_all
  unfold callFunc
  simp only [Sem.run_bind, run_program, Result.andThen_ok, hf, h1, h2, Bool.false_eq_true, if_false, Sem.run_pure]
theorem pv_some {h h' : Heap} {x : Option Value} {v : Value} (e : pv h x = .ok v h') : x = some v ∧ h' = h := by
  cases x with
  | none => cases e
  | some u => cases e; exact ⟨rfl, rfl⟩
theorem vFuncH_some {f : Fn → Array Value → Array Value → VH} {x v : Value} {h : Heap} (e : vFuncH f x = .ok v h) : ∃ fn a b, x = .func fn a b ∧ f fn a b = .ok v h := by
  cases x <;> first | exact ⟨_, _, _, rfl, e⟩ | cases e
theorem op_wp {call : CallT} (hn : NamesOK P) (hcall : CallsOK P call) {o : Oper} {op : AOp} (hop : OpS P o op) {base : Nat} {ι : Inj} {h h' : Heap} {w : World} {ρ : Env} {a : Act} {v : Value}
    (r : Rel base ι h w) (e : OpdR ι ρ a o) (hv : opE call ρ h op = .ok v h') {next : Act → World → Prop} {Q : Exit → Act → World → Prop}
    (hk : ∀ ι' v' w', VR ι' v v' → Rel base ι' h' w' → Ext ι h w ι' h' w' → next (a.put o.dst v') w') : o.wp P a w next Q := by
  cases op with
  | p f =>
    obtain ⟨h1, rfl⟩ := pv_some hv
    obtain ⟨v', g1, g2⟩ := hop ι ρ a v e h1
    unfold Oper.wp
    rw [g2]
    exact hk ι v' w g1 r (.refl _ _ _)
  | l looks f =>
    obtain ⟨h1, rfl⟩ := pv_some hv
    obtain ⟨v', w', g1, g2, g3, g4⟩ := hop.1 base ι _ w ρ a v r e h1
    unfold Oper.wp
    rw [g2]
    exact hk ι v' w' g1 g3 g4
  | n f =>
    have hv' : (@VB.rec (fun _ => VH) .fail (fun v b => .ok v (h.new b)) (f ρ h.next)) = VH.ok v h' := hv
    cases hb : f ρ h.next with
    | fail => rw [hb] at hv'; cases hv'
    | ok v0 b =>
      rw [hb] at hv'
      cases hv'
      obtain ⟨v', w', S, g1, g2, g3⟩ := hop ι ρ a w h.next v b e (r.fresh h.next (Nat.le_refl _)).1 hb
      unfold Oper.wp
      rw [g2]
      exact hk _ v' w' g1 (r.new g3) (.made r g3)
  | e f =>
    obtain ⟨ι', v', w', g1, g2, g3, g4⟩ := hop base ι h w ρ a v h' r e hv
    unfold Oper.wp
    rcases g1 with g1 | ⟨g1, rfl⟩
    · rw [g1]; exact hk ι' v' w' g2 g3 g4
    · rw [g1]; exact hk ι' _ w' g2 g3 g4
  | call f args =>
    obtain ⟨c, ho, hc, ha⟩ := hop
    have hv' : call f (vals ρ args) h = .ok v h' := hv
    obtain ⟨⟨fn, hf, hb⟩, hcl⟩ := hcall _ _ _ _ _ hv'
    have hargs := e.vals ha (by intro z hz; simp [ho, Op.operands, Call.operands, hc]; exact .inr (Array.mem_toList_iff.1 hz))
    have hrun : (execOp a.eval o).run P w = .ok (.enter f ⟨c.args.toList.map a.eval⟩) w := by
      have hmap : c.args.map a.eval = ⟨c.args.toList.map a.eval⟩ := by apply Array.ext'; simp
      have hev : a.eval (.func f) = .func (.func f) #[] #[] := rfl
      simp only [execOp, ho, resolve, hc, hev, Deferred.ofValue, Sem.run_bind, Sem.run_pure, Result.andThen_ok, invoke, Array.append_empty, Array.empty_append, hmap, run_enter hn hf hb]
    unfold Oper.wp
    rw [hrun, Oper.upon_enter]
    refine (hcl base ι w _ r hargs).mono fun e' w' ⟨ι', v', he, g1, g2, g3⟩ => ?_
    subst he
    exact hk ι' v' w' g1 g2 g3
  | callv x args =>
    obtain ⟨c, y, ho, hc, hy, ha⟩ := hop
    have hv' : vFuncH (fun fn first captured => Fn.rec (fun f => call f (app first.toList (app (vals ρ args) captured.toList)) h) (fun _ => .fail) (fun _ _ => .fail) (fun _ _ _ _ => .fail) (fun _ => .fail) fn) (val ρ x) = .ok v h' := hv
    obtain ⟨fn0, fst, cap, hx, hv''⟩ := vFuncH_some hv'
    cases fn0 with
    | func f =>
      have hv3 : call f (app fst.toList (app (vals ρ args) cap.toList)) h = .ok v h' := hv''
      obtain ⟨⟨fn, hf, hb⟩, hcl⟩ := hcall _ _ _ _ _ hv3
      have hargs := e.vals ha (by intro z hz; simp [ho, Op.operands, Call.operands, hc]; exact .inr (Array.mem_toList_iff.1 hz))
      have ex := e.val hy (by simp [ho, Op.operands, Call.operands, hc])
      rw [hx] at ex
      generalize hq : a.eval y = q at ex
      cases ex with
      | @func f xs xs' ys ys' h1 h2 =>
        rw [app_eq, app_eq] at hcl
        have hall := h1.app (hargs.app h2)
        have hrun : (execOp a.eval o).run P w = .ok (.enter f ⟨xs' ++ (c.args.toList.map a.eval ++ ys')⟩) w := by
          have hmap : c.args.map a.eval = ⟨c.args.toList.map a.eval⟩ := by apply Array.ext'; simp
          simp only [execOp, ho, resolve, hc, hq, Deferred.ofValue, Sem.run_bind, Sem.run_pure, Result.andThen_ok, invoke, hmap]
          rw [run_enter hn hf hb]
          congr 2
          apply Array.ext'
          simp
        unfold Oper.wp
        rw [hrun, Oper.upon_enter]
        refine (hcl base ι w _ r hall).mono fun e' w' ⟨ι', v', he, g1, g2, g3⟩ => ?_
        subst he
        exact hk ι' v' w' g1 g2 g3
    | _ => cases hv''
end
end Go.Proofs.Ytgamhgeiceakeaa.Ev
/- The evaluator's soundness: regions in the text's order; code; functions. -/
set_option linter.unusedVariables false
namespace Go.Proofs.Ytgamhgeiceakeaa.Ev
section
variable {P : Program}
theorem compOps_cons {nt : Nat} {ops : Array Oper} {o : Oper} {l : List Oper} {ol : OpL} (h : compOps P nt ops (o :: l) = some ol) :
    (∀ d, o.dst = some d → d < nt) ∧ ∃ op rest, compOp P o.op = some op ∧ compOps P nt ops l = some rest ∧
      ((o.guard = none ∧ ol = .cons (o.dst.map pos) op rest) ∨ ∃ j w oj g, o.guard = some (j, w) ∧ ops[j]? = some oj ∧ oj.dst = some g ∧ ol = .consG (pos g) w (o.dst.map pos) op rest) := by
  unfold compOps at h
  obtain ⟨h1, h⟩ := guard_some h
  obtain ⟨op, h2, h⟩ := bind_some h
  obtain ⟨d, h3, h⟩ := bind_some h
  obtain ⟨rest, h4, h⟩ := bind_some h
  have hd : d = o.dst.map pos := by
    cases hdst : o.dst with
    | none => rw [hdst] at h3; exact (pure_some h3)
    | some d0 =>
      rw [hdst] at h3
      obtain ⟨p, hp, h3⟩ := bind_some h3
      rw [posC_eq] at hp
      cases hp
      exact pure_some h3
  subst hd
  refine ⟨fun d hdst => by rw [hdst] at h1; exact blt_lt h1, op, rest, h2, h4, ?_⟩
  cases hg : o.guard with
  | none => rw [hg] at h; exact .inl ⟨rfl, pure_some h⟩
  | some g =>
    obtain ⟨j, w⟩ := g
    rw [hg] at h
    obtain ⟨oj, h5, h⟩ := bind_some h
    obtain ⟨g, h6, h⟩ := bind_some h
    obtain ⟨p, h7, h⟩ := bind_some h
    rw [posC_eq] at h7
    cases h7
    exact .inr ⟨j, w, oj, g, rfl, h5, h6, pure_some h⟩
theorem vhR_some {x : VH} {f : Value → Heap → R} {r : R} (hr : r ≠ .fail) (h : (@VH.rec (fun _ => R) .fail f x) = r) : ∃ v h', x = .ok v h' ∧ f v h' = r := by
  cases x with
  | fail => exact absurd h.symm hr
  | ok v h' => exact ⟨v, h', rfl, h⟩
theorem opsE_norm {call : CallT} : ∀ {ol : OpL} {ρ : Env} {h : Heap} {r : R}, opsE call ol ρ h = r → r ≠ .fail → ∃ ρ' h', r = .norm ρ' h'
  | .nil, ρ, h, r, e, hr => ⟨ρ, h, e.symm⟩
  | .cons dst op rest, ρ, h, r, e, hr => by
    have e' : (@VH.rec (fun _ => R) .fail (fun v h' => opsE call rest (put ρ dst v) h') (opE call ρ h op)) = r := e
    obtain ⟨v, h', _, h2⟩ := vhR_some hr e'
    exact opsE_norm h2 hr
  | .consG g w dst op rest, ρ, h, r, e, hr => by
    have e' : (@Bool.rec (fun _ => R) (opsE call rest (put ρ dst undefV) h) (@VH.rec (fun _ => R) .fail (fun v h' => opsE call rest (put ρ dst v) h') (opE call ρ h op)) (isB w (Tr.get g ρ))) = r := e
    cases hb : isB w (Tr.get g ρ) with
    | false => rw [hb] at e'; exact opsE_norm e' hr
    | true =>
      rw [hb] at e'
      obtain ⟨v, h', _, h2⟩ := vhR_some hr e'
      exact opsE_norm h2 hr
/-- The state of an activation. -/
structure Sim (base : Nat) (ι : Inj) (ρ : Env) (h : Heap) (a : Act) (w : World) (nt : Nat) (ds : List Deferred) : Prop where
  rel : Rel base ι h w
  env : EnvR ι ρ a
  size : a.tmps.size = nt
  defers : a.defers = ds
theorem Sim.put {base : Nat} {ι ι' : Inj} {ρ : Env} {h h' : Heap} {a : Act} {w w' : World} {nt : Nat} {ds : List Deferred} (s : Sim base ι ρ h a w nt ds) {dst : Option Tmp} {v v' : Value} (hd : ∀ d, dst = some d → d < nt) (hv : VR ι' v v') (hr : Rel base ι' h' w') (hx : Ext ι h w ι' h' w') :
    Sim base ι' (Ev.put ρ (dst.map pos) v) h' (a.put dst v') w' nt ds :=
  ⟨hr, (s.env.mono hx.le).put hv (fun d q => by rw [s.size]; exact hd d q), by rw [put_size]; exact s.size, by rw [put_defers]; exact s.defers⟩
theorem ops_wp {call : CallT} (hn : NamesOK P) (hcall : CallsOK P call) {base nt : Nat} {ds : List Deferred} {ops : Array Oper} {Q : Exit → Act → World → Prop} :
    ∀ (l : List Oper) (k : Nat) (ol : OpL) (ι : Inj) (ρ ρ' : Env) (h h' : Heap) (a : Act) (w : World), (∀ i o, l[i]? = some o → ops[k + i]? = some o) → compOps P nt ops l = some ol → opsE call ol ρ h = .norm ρ' h' → Sim base ι ρ h a w nt ds →
      (∀ ι' a' w', Sim base ι' ρ' h' a' w' nt ds → Ext ι h w ι' h' w' → Q .normal a' w') → wpOps P ops Q (List.range' k l.length) a w := by
  intro l
  induction l with
  | nil =>
    intro k ol ι ρ ρ' h h' a w hl hc he s hq
    cases hc
    have he' : R.norm ρ h = R.norm ρ' h' := he
    cases he'
    exact hq ι a w s (.refl _ _ _)
  | cons o l ih =>
    intro k ol ι ρ ρ' h h' a w hl hc he s hq
    obtain ⟨hd, op, rest, h1, h2, h3⟩ := compOps_cons hc
    have hk : ops[k]? = some o := hl 0 o rfl
    have hl' : ∀ i o, l[i]? = some o → ops[k + 1 + i]? = some o := fun i o' q => by
      have := hl (i + 1) o' (by simpa using q)
      rwa [show k + (i + 1) = k + 1 + i by omega] at this
    rw [List.length_cons, List.range'_succ, wpOps_cons]
    simp only [wpOp, hk]
    have go : opsE call (.cons (o.dst.map pos) op rest) ρ h = .norm ρ' h' → (o.wp P a w (wpOps P ops Q (List.range' (k + 1) l.length)) Q ∨ (o.asks P a w ∧ LetsOut Q)) := fun he => by
      have he' : (@VH.rec (fun _ => R) .fail (fun v h' => opsE call rest (put ρ (o.dst.map pos) v) h') (opE call ρ h op)) = .norm ρ' h' := he
      obtain ⟨v, h1', q1, q2⟩ := vhR_some (by simp) he'
      refine .inl (op_wp hn hcall (compOp_ok h1) s.rel (s.env.opd o) q1 fun ι1 v1 w1 g1 g2 g3 => ?_)
      exact ih (k + 1) rest ι1 _ _ _ _ _ _ hl' h2 q2 (s.put hd g1 g2 g3) fun ι' a' w' s' x' => hq ι' a' w' s' (g3.trans x')
    rcases h3 with ⟨hg, rfl⟩ | ⟨j, wt, oj, g, hg, hj, hjd, rfl⟩
    · have hw : Region.wanted o (yielded ops a.tmps) = true := by simp [Region.wanted, hg]
      rw [if_pos hw]
      exact go he
    · have he' : (@Bool.rec (fun _ => R) (opsE call rest (put ρ (o.dst.map pos) undefV) h) (opsE call (.cons (o.dst.map pos) op rest) ρ h) (isB wt (Tr.get (pos g) ρ))) = .norm ρ' h' := he
      have hw := wanted_eq s.env hg hj hjd
      cases hb : isB wt (Tr.get (pos g) ρ) with
      | true =>
        rw [hb] at he' hw
        rw [if_pos hw]
        exact go he'
      | false =>
        rw [hb] at he' hw
        rw [if_neg (by rw [hw]; simp)]
        exact ih (k + 1) rest ι _ _ _ _ _ _ hl' h2 he' (s.put hd .undef s.rel (.refl _ _ _)) hq

/-! ### code -/
/-- What an end of code leaves. -/
def ROK (base : Nat) (ι : Inj) (h : Heap) (w : World) (nt : Nat) (ds : List Deferred) (r : R) (e : Exit) (a' : Act) (w' : World) : Prop :=
  match r with
  | .fail => False
  | .norm ρ' h' => e = .normal ∧ ∃ ι', Sim base ι' ρ' h' a' w' nt ds ∧ Ext ι h w ι' h' w'
  | .exit id ρ' h' => e = .exit id ∧ ∃ ι', Sim base ι' ρ' h' a' w' nt ds ∧ Ext ι h w ι' h' w'
  | .ret ρ' h' => e = .ret ∧ ∃ ι', Sim base ι' ρ' h' a' w' nt ds ∧ Ext ι h w ι' h' w'
theorem ROK.of_ext {base : Nat} {ι ι1 : Inj} {h h1 : Heap} {w w1 : World} {nt : Nat} {ds : List Deferred} {r : R} {e : Exit} {a' : Act} {w' : World} (x : Ext ι h w ι1 h1 w1) (hr : ROK base ι1 h1 w1 nt ds r e a' w') : ROK base ι h w nt ds r e a' w' := by
  cases r with
  | fail => exact hr
  | norm ρ' h' => obtain ⟨q, ι', s, x'⟩ := hr; exact ⟨q, ι', s, x.trans x'⟩
  | exit id ρ' h' => obtain ⟨q, ι', s, x'⟩ := hr; exact ⟨q, ι', s, x.trans x'⟩
  | ret ρ' h' => obtain ⟨q, ι', s, x'⟩ := hr; exact ⟨q, ι', s, x.trans x'⟩
/-- What is to be shown of a piece of code. -/
def CodeOK (P : Program) (call : CallT) (K nt : Nat) (c : Code) (ac : ACode) : Prop :=
  ∀ (base : Nat) (ds : List Deferred) (ι : Inj) (ρ : Env) (h : Heap) (a : Act) (w : World), exec call K ac ρ h ≠ .fail → Sim base ι ρ h a w nt ds →
    c.wp P (ROK base ι h w nt ds (exec call K ac ρ h)) a w
theorem ok_skip {call : CallT} {K nt : Nat} : CodeOK P call K nt .skip .skip := fun base ds ι ρ h a w hr s => wp_skip ⟨rfl, ι, s, .refl _ _ _⟩
theorem ok_exit {call : CallT} {K nt id : Nat} : CodeOK P call K nt (.exit id) (.exit id) := fun base ds ι ρ h a w hr s => wp_exit ⟨rfl, ι, s, .refl _ _ _⟩
theorem ok_ret {call : CallT} {K nt : Nat} : CodeOK P call K nt .ret .ret := fun base ds ι ρ h a w hr s => wp_ret ⟨rfl, ι, s, .refl _ _ _⟩
theorem ok_reg {call : CallT} {K nt : Nat} (hn : NamesOK P) (hcall : CallsOK P call) {id : Nat} {ops : Array Oper} {ol : OpL} (hc : compOps P nt ops ops.toList = some ol) : CodeOK P call K nt (.region id ops false) (.reg ol) := fun base ds ι ρ h a w hr s => by
  have hr' : opsE call ol ρ h ≠ .fail := hr
  obtain ⟨ρ', h', q⟩ := opsE_norm rfl hr'
  have hx : exec call K (.reg ol) ρ h = .norm ρ' h' := q
  rw [hx]
  refine wp_region ?_
  have := ops_wp (Q := ROK base ι h w nt ds (.norm ρ' h')) hn hcall ops.toList 0 ol ι ρ ρ' h h' a w (fun i o q => by rw [Nat.zero_add]; simpa using q) hc q s (fun ι' a' w' s' x' => ⟨rfl, ι', s', x'⟩)
  rwa [Array.length_toList, ← List.range_eq_range'] at this
theorem ok_seq {call : CallT} {K nt : Nat} {c1 c2 : Code} {a1 a2 : ACode} (h1 : CodeOK P call K nt c1 a1) (h2 : CodeOK P call K nt c2 a2) : CodeOK P call K nt (.seq c1 c2) (.seq a1 a2) := fun base ds ι ρ h a w hr s => by
  have hx : exec call K (.seq a1 a2) ρ h = @R.rec (fun _ => R) .fail (fun ρ h => exec call K a2 ρ h) (fun id ρ h => .exit id ρ h) (fun ρ h => .ret ρ h) (exec call K a1 ρ h) := rfl
  rw [hx] at hr ⊢
  have hr1 : exec call K a1 ρ h ≠ .fail := fun q => by rw [q] at hr; exact hr rfl
  refine wp_seq (wp_mono (h1 base ds ι ρ h a w hr1 s) fun e a' w' hq => ?_)
  cases hq1 : exec call K a1 ρ h with
  | fail => exact absurd hq1 hr1
  | norm ρ' h' =>
    rw [hq1] at hq hr
    obtain ⟨rfl, ι', s', x'⟩ := hq
    exact wp_mono (h2 base ds ι' ρ' h' a' w' hr s') fun e a'' w'' q => q.of_ext x'
  | exit id ρ' h' =>
    rw [hq1] at hq
    obtain ⟨rfl, ι', s', x'⟩ := hq
    exact ⟨rfl, ι', s', x'⟩
  | ret ρ' h' =>
    rw [hq1] at hq
    obtain ⟨rfl, ι', s', x'⟩ := hq
    exact ⟨rfl, ι', s', x'⟩
theorem ok_cond {call : CallT} {K nt : Nat} {x : Operand} {x' : AO} {c1 c2 : Code} {a1 a2 : ACode} (hx : cO x = some x') (h1 : CodeOK P call K nt c1 a1) (h2 : CodeOK P call K nt c2 a2) : CodeOK P call K nt (.cond x c1 c2) (.cond x' a1 a2) := fun base ds ι ρ h a w hr s => by
  have he : exec call K (.cond x' a1 a2) ρ h = @Option.rec Bool (fun _ => R) .fail (fun b => @Bool.rec (fun _ => R) (exec call K a2 ρ h) (exec call K a1 ρ h) b) (boolOf (val ρ x')) := rfl
  rw [he] at hr ⊢
  cases hb : boolOf (val ρ x') with
  | none => rw [hb] at hr; exact absurd rfl hr
  | some b =>
    rw [hb] at hr
    have hv := boolOf_some hb
    have ex := s.env.val hx
    rw [hv] at ex
    generalize hq : a.eval x = q at ex
    cases ex
    cases b with
    | true => exact wp_cond_true hq (h1 base ds ι ρ h a w hr s)
    | false => exact wp_cond_false hq (h2 base ds ι ρ h a w hr s)
theorem ok_block {call : CallT} {K nt id : Nat} {c : Code} {ac : ACode} (h1 : CodeOK P call K nt c ac) : CodeOK P call K nt (.block id c) (.block id ac) := fun base ds ι ρ h a w hr s => by
  have he : exec call K (.block id ac) ρ h = @R.rec (fun _ => R) .fail (fun ρ h => .norm ρ h) (fun id' ρ h => @Bool.rec (fun _ => R) (.exit id' ρ h) (.norm ρ h) (Nat.beq id' id)) (fun ρ h => .ret ρ h) (exec call K ac ρ h) := rfl
  rw [he] at hr ⊢
  have hr1 : exec call K ac ρ h ≠ .fail := fun q => by rw [q] at hr; exact hr rfl
  refine wp_block (wp_mono (h1 base ds ι ρ h a w hr1 s) fun e a' w' hq => ?_)
  cases hq1 : exec call K ac ρ h with
  | fail => exact absurd hq1 hr1
  | norm ρ' h' =>
    rw [hq1] at hq
    obtain ⟨rfl, ι', s', x'⟩ := hq
    exact ⟨rfl, ι', s', x'⟩
  | exit id' ρ' h' =>
    rw [hq1] at hq
    obtain ⟨rfl, ι', s', x'⟩ := hq
    show if id' = id then _ else _
    by_cases q : id' = id
    · rw [if_pos q]
      have : Nat.beq id' id = true := by rw [beq_eq]; exact decide_eq_true q
      show ROK base ι h w nt ds (@Bool.rec (fun _ => R) (.exit id' ρ' h') (.norm ρ' h') (Nat.beq id' id)) .normal a' w'
      rw [this]
      exact ⟨rfl, ι', s', x'⟩
    · rw [if_neg q]
      have : Nat.beq id' id = false := by rw [beq_eq]; exact decide_eq_false q
      show ROK base ι h w nt ds (@Bool.rec (fun _ => R) (.exit id' ρ' h') (.norm ρ' h') (Nat.beq id' id)) (.exit id') a' w'
      rw [this]
      exact ⟨rfl, ι', s', x'⟩
  | ret ρ' h' =>
    rw [hq1] at hq
    obtain ⟨rfl, ι', s', x'⟩ := hq
    exact ⟨rfl, ι', s', x'⟩
end
end Go.Proofs.Ytgamhgeiceakeaa.Ev
/- The evaluator's soundness: regions that draw their order: what the evaluator's own run of one came by. -/
set_option linter.unusedVariables false
namespace Go.Proofs.Ytgamhgeiceakeaa.Ev
section
variable {P : Program}
theorem vhRD_some {x : VH} {f : Value → Heap → RD} {ρ : Env} {hs : Hs} (h : (@VH.rec (fun _ => RD) .fail f x) = .ok ρ hs) : ∃ v h', x = .ok v h' ∧ f v h' = .ok ρ hs := by
  cases x with
  | fail => cases h
  | ok v h' => exact ⟨v, h', rfl, h⟩
theorem rd_some {x : RD} {f : Env → Hs → RD} {ρ : Env} {hs : Hs} (h : (@RD.rec (fun _ => RD) .fail f x) = .ok ρ hs) : ∃ ρ' hs', x = .ok ρ' hs' ∧ f ρ' hs' = .ok ρ hs := by
  cases x with
  | fail => cases h
  | ok v h' => exact ⟨v, h', rfl, h⟩
/-- What the evaluator came by, operation by operation. -/
structure Canon (P : Program) (call : CallT) (nt : Nat) (ops : Array Oper) (l : List Oper) (al : List AOp) (E : Nat → Env) (H : Nat → Heap) (D : Nat → Nat) (V : Nat → Value) (W : Nat → Bool) : Prop where
  op : ∀ i o, l[i]? = some o → ∃ op, al[i]? = some op ∧ compOp P o.op = some op ∧ (∀ d, o.dst = some d → d < nt) ∧
    D (i + 1) = (if isNop op = true then D i + 1 else D i) ∧ E (i + 1) = put (E i) (o.dst.map pos) (V i) ∧
    (W i = true → opD call (E i) (H i) (D i) op = .ok (V i) (H (i + 1))) ∧ (W i = false → V i = undefV ∧ H (i + 1) = H i) ∧
    ((o.guard = none ∧ W i = true) ∨ ∃ j w oj g, o.guard = some (j, w) ∧ ops[j]? = some oj ∧ oj.dst = some g ∧ W i = isB w (Tr.get (pos g) (E i)))
def consF {α : Type} (a : α) (f : Nat → α) : Nat → α
  | 0 => a
  | i + 1 => f i
theorem Canon.cons {call : CallT} {nt : Nat} {ops : Array Oper} {o : Oper} {l : List Oper} {op : AOp} {al : List AOp} {E : Nat → Env} {H : Nat → Heap} {D : Nat → Nat} {V : Nat → Value} {W : Nat → Bool}
    (c : Canon P call nt ops l al E H D V W) {e0 : Env} {h0 : Heap} {d0 : Nat} {v0 : Value} {w0 : Bool}
    (h : compOp P o.op = some op ∧ (∀ d, o.dst = some d → d < nt) ∧
      D 0 = (if isNop op = true then d0 + 1 else d0) ∧ E 0 = put e0 (o.dst.map pos) v0 ∧
      (w0 = true → opD call e0 h0 d0 op = .ok v0 (H 0)) ∧ (w0 = false → v0 = undefV ∧ H 0 = h0) ∧
      ((o.guard = none ∧ w0 = true) ∨ ∃ j w oj g, o.guard = some (j, w) ∧ ops[j]? = some oj ∧ oj.dst = some g ∧ w0 = isB w (Tr.get (pos g) e0))) :
    Canon P call nt ops (o :: l) (op :: al) (consF e0 E) (consF h0 H) (consF d0 D) (consF v0 V) (consF w0 W) := ⟨fun i o' hi => by
  cases i with
  | zero =>
    simp only [List.getElem?_cons_zero, Option.some.injEq] at hi
    subst hi
    exact ⟨op, rfl, h⟩
  | succ i =>
    simp only [List.getElem?_cons_succ] at hi
    obtain ⟨op', q1, q2⟩ := c.op i o' hi
    exact ⟨op', by simpa using q1, q2⟩⟩
theorem opsD_canon {call : CallT} {nt : Nat} {ops : Array Oper} : ∀ (l : List Oper) (ol : OpL) (ρ ρ' : Env) (h : Heap) (id : Nat) (hs : Hs), compOps P nt ops l = some ol → opsD call ol ρ h id = .ok ρ' hs →
    (opList ol).length = l.length ∧ ∃ E H D V W, Canon P call nt ops l (opList ol) E H D V W ∧ E 0 = ρ ∧ H 0 = h ∧ D 0 = id ∧ E l.length = ρ' ∧ D l.length = id + countN ol ∧ Hs.last hs = H l.length ∧ ∀ i, i ≤ l.length → (Hs.drop i hs).head = H i := by
  intro l
  induction l with
  | nil =>
    intro ol ρ ρ' h id hs hc he
    cases hc
    have he' : RD.ok ρ (.nil h) = RD.ok ρ' hs := he
    cases he'
    refine ⟨rfl, fun _ => ρ, fun _ => h, fun _ => id, fun _ => undefV, fun _ => true, ⟨fun i o hi => by simp at hi⟩, rfl, rfl, rfl, rfl, rfl, rfl, fun i hi => ?_⟩
    have : i = 0 := by simpa using hi
    subst this; rfl
  | cons o l ih =>
    intro ol ρ ρ' h id hs hc he
    obtain ⟨hd, op, rest, h1, h2, h3⟩ := compOps_cons hc
    have nop : (@Bool.rec (fun _ => Nat) id (Nat.succ id) (isNop op)) = (if isNop op = true then id + 1 else id) := by cases isNop op <;> rfl
    have cnt : ∀ r, (@Bool.rec (fun _ => Nat) id (Nat.succ id) (isNop op)) + countN r = id + (@Bool.rec (fun _ => Nat) (countN r) (Nat.succ (countN r)) (isNop op)) := fun r => by
      cases isNop op
      · rfl
      · show id + 1 + countN r = id + (countN r + 1); omega
    have fin : ∀ (v : Value) (h' : Heap) (w : Bool) (hs' : Hs), opsD call rest (put ρ (o.dst.map pos) v) h' (@Bool.rec (fun _ => Nat) id (Nat.succ id) (isNop op)) = .ok ρ' hs' → hs = .cons h hs' → opList ol = op :: opList rest →
        countN ol = (@Bool.rec (fun _ => Nat) (countN rest) (Nat.succ (countN rest)) (isNop op)) → (w = true → opD call ρ h id op = .ok v h') → (w = false → v = undefV ∧ h' = h) →
        ((o.guard = none ∧ w = true) ∨ ∃ j w' oj g, o.guard = some (j, w') ∧ ops[j]? = some oj ∧ oj.dst = some g ∧ w = isB w' (Tr.get (pos g) ρ)) →
        (opList ol).length = (o :: l).length ∧ ∃ E H D V W, Canon P call nt ops (o :: l) (opList ol) E H D V W ∧ E 0 = ρ ∧ H 0 = h ∧ D 0 = id ∧ E (o :: l).length = ρ' ∧ D (o :: l).length = id + countN ol ∧ Hs.last hs = H (o :: l).length ∧ ∀ i, i ≤ (o :: l).length → (Hs.drop i hs).head = H i := fun v h' w hs' q hhs hol hcn g1 g2 g3 => by
      obtain ⟨hlen, E, H, D, V, W, c, e0, e1, e2, e3, e4, e5, e6⟩ := ih rest _ ρ' h' _ hs' h2 q
      rw [hol]
      refine ⟨by simp [hlen], consF ρ E, consF h H, consF id D, consF v V, consF w W, c.cons ⟨h1, hd, e2.trans nop, e0, fun q => by rw [e1]; exact g1 q, fun q => by rw [e1]; exact g2 q, g3⟩, rfl, rfl, rfl, e3, ?_, ?_, fun i hi => ?_⟩
      · show D l.length = _
        rw [e4, hcn, cnt]
      · subst hhs; exact e5
      · subst hhs
        cases i with
        | zero => rfl
        | succ i => exact e6 i (by simpa using hi)
    have go1 : ∀ v h', opD call ρ h id op = .ok v h' → ∀ r : RD, (@RD.rec (fun _ => RD) .fail (fun ρ' hs => .ok ρ' (.cons h hs)) (opsD call rest (put ρ (o.dst.map pos) v) h' (@Bool.rec (fun _ => Nat) id (Nat.succ id) (isNop op)))) = .ok ρ' hs → ∃ hs', opsD call rest (put ρ (o.dst.map pos) v) h' (@Bool.rec (fun _ => Nat) id (Nat.succ id) (isNop op)) = .ok ρ' hs' ∧ hs = .cons h hs' := fun v h' _ _ q => by
      obtain ⟨ρ1, hs1, q1, q2⟩ := rd_some q
      cases q2
      exact ⟨hs1, q1, rfl⟩
    rcases h3 with ⟨hg, rfl⟩ | ⟨j, wt, oj, g, hg, hj, hjd, rfl⟩
    · have he' : (@VH.rec (fun _ => RD) .fail (fun v h' => @RD.rec (fun _ => RD) .fail (fun ρ' hs => .ok ρ' (.cons h hs)) (opsD call rest (put ρ (o.dst.map pos) v) h' (@Bool.rec (fun _ => Nat) id (Nat.succ id) (isNop op)))) (opD call ρ h id op)) = .ok ρ' hs := he
      obtain ⟨v, h', q1, q2⟩ := vhRD_some he'
      obtain ⟨hs', q3, q4⟩ := go1 v h' q1 .fail q2
      exact fin v h' true hs' q3 q4 rfl rfl (fun _ => q1) (fun q => by cases q) (.inl ⟨hg, rfl⟩)
    · have he' : (@Bool.rec (fun _ => RD) (@RD.rec (fun _ => RD) .fail (fun ρ' hs => .ok ρ' (.cons h hs)) (opsD call rest (put ρ (o.dst.map pos) undefV) h (@Bool.rec (fun _ => Nat) id (Nat.succ id) (isNop op))))
          (@VH.rec (fun _ => RD) .fail (fun v h' => @RD.rec (fun _ => RD) .fail (fun ρ' hs => .ok ρ' (.cons h hs)) (opsD call rest (put ρ (o.dst.map pos) v) h' (@Bool.rec (fun _ => Nat) id (Nat.succ id) (isNop op)))) (opD call ρ h id op)) (isB wt (Tr.get (pos g) ρ))) = .ok ρ' hs := he
      cases hb : isB wt (Tr.get (pos g) ρ) with
      | false =>
        rw [hb] at he'
        obtain ⟨ρ1, hs1, q1, q2⟩ := rd_some he'
        cases q2
        exact fin undefV h false hs1 q1 rfl rfl rfl (fun q => by cases q) (fun _ => ⟨rfl, rfl⟩) (.inr ⟨j, wt, oj, g, hg, hj, hjd, hb.symm⟩)
      | true =>
        rw [hb] at he'
        obtain ⟨v, h', q1, q2⟩ := vhRD_some he'
        obtain ⟨hs', q3, q4⟩ := go1 v h' q1 .fail q2
        exact fin v h' true hs' q3 q4 rfl rfl (fun _ => q1) (fun q => by cases q) (.inr ⟨j, wt, oj, g, hg, hj, hjd, hb.symm⟩)
end
end Go.Proofs.Ytgamhgeiceakeaa.Ev
/- The evaluator's soundness: regions that draw their order: what the checks say. -/
set_option linter.unusedVariables false
namespace Go.Proofs.Ytgamhgeiceakeaa.Ev
section
/-- What has run, has run behind all that surely runs ahead of it. -/
def Closed (ops : Array Oper) (S : Nat → Prop) : Prop := ∀ i o, ops[i]? = some o → S i → ∀ e ∈ o.after, isBase e = true → S e.on
theorem maskE_bit {ms : List Nat} {j : Nat} : ∀ {l : List Edge}, (maskE ms l).testBit j = true → ∃ e ∈ l, isBase e = true ∧ (j = e.on ∨ ((ms[e.on]?).getD 0).testBit j = true)
  | [], h => by simp [maskE] at h
  | e :: l, h => by
    unfold maskE at h
    by_cases q : isBase e = true
    · rw [if_pos q, Nat.testBit_or, Nat.testBit_or] at h
      simp only [Bool.or_eq_true] at h
      rcases h with h | h | h
      · obtain ⟨e', q1, q2⟩ := maskE_bit h
        exact ⟨e', List.mem_cons_of_mem _ q1, q2⟩
      · exact ⟨e, List.mem_cons_self, q, .inr h⟩
      · refine ⟨e, List.mem_cons_self, q, .inl ?_⟩
        simp only [Nat.shiftLeft_eq, Nat.one_mul] at h
        rw [Nat.testBit_two_pow] at h
        exact (of_decide_eq_true h).symm
    · rw [if_neg q] at h
      obtain ⟨e', q1, q2⟩ := maskE_bit h
      exact ⟨e', List.mem_cons_of_mem _ q1, q2⟩
theorem masks_bit {ops : Array Oper} {S : Nat → Prop} (hS : Closed ops S) : ∀ (l : List Oper) (ms : List Nat), (∀ i o, l[i]? = some o → ops[ms.length + i]? = some o) → (∀ i j, bit ms i j = true → S i → S j) →
    ∀ i j, bit (masks l ms) i j = true → S i → S j
  | [], ms, _, h => h
  | o :: l, ms, hl, h => by
    unfold masks
    refine masks_bit hS l (ms ++ [maskE ms o.after.toList]) (fun i o' q => ?_) (fun i j hb hi => ?_)
    · have := hl (i + 1) o' (by simpa using q)
      rw [List.length_append, List.length_singleton, show ms.length + 1 + i = ms.length + (i + 1) by omega]
      exact this
    · unfold bit at hb
      by_cases q : i < ms.length
      · rw [List.getElem?_append_left q] at hb
        exact h i j hb hi
      · by_cases q2 : i = ms.length
        · subst q2
          rw [List.getElem?_append_right (Nat.le_refl _), Nat.sub_self] at hb
          simp only [List.getElem?_cons_zero, Option.getD_some] at hb
          obtain ⟨e, g1, g2, g3⟩ := maskE_bit hb
          have hSe := hS ms.length o (by simpa using hl 0 o rfl) hi e (Array.mem_toList_iff.1 g1) g2
          rcases g3 with rfl | g3
          · exact hSe
          · exact h e.on j g3 hSe
        · rw [List.getElem?_eq_none (by simp; omega)] at hb
          simp at hb
theorem masks_closed {ops : Array Oper} {S : Nat → Prop} (hS : Closed ops S) {i j : Nat} (h : bit (masks ops.toList []) i j = true) (hi : S i) : S j :=
  masks_bit hS ops.toList [] (fun i o q => by simpa using q) (fun i j h _ => by simp [bit] at h) i j h hi

theorem topo_ok {md : Region.Mode} {ops : Array Oper} {listed : Array Bool} (hsz : listed.size = ops.size) (hr : Region.ready md ops listed = []) : ∀ (L seen : List Nat), topoOk md ops L seen = true → (∀ i ∈ seen, listed.getD i false = true) → ∀ i, i < ops.size → listed.getD i false = true
  | [], seen, h, hs, i, hi => by
    unfold topoOk at h
    rw [List.all_eq_true] at h
    have := h i (by simpa using hi)
    exact hs i (by simpa using this)
  | k :: L, seen, h, hs, i, hi => by
    unfold topoOk at h
    rw [Bool.and_eq_true] at h
    obtain ⟨h1, h2⟩ := h
    refine topo_ok hsz hr L (k :: seen) h2 (fun j hj => ?_) i hi
    rcases List.mem_cons.1 hj with rfl | hj
    · cases ho : ops[j]? with
      | none => rw [ho] at h1; cases h1
      | some o =>
        rw [ho] at h1
        have hlt : j < ops.size := (Array.getElem?_eq_some_iff.1 ho).1
        cases hl : listed.getD j false with
        | true => rfl
        | false =>
          exfalso
          have hm : j ∈ Region.ready md ops listed := by
            unfold Region.ready
            rw [List.mem_filter]
            refine ⟨by simpa using hlt, ?_⟩
            have hl2 : listed.getD j true = false := by
              have hj' : j < listed.size := by omega
              simp only [Array.getD_eq_getD_getElem?, Array.getElem?_eq_getElem hj', Option.getD_some] at hl ⊢
              exact hl
            simp only [hl2, Bool.not_false, Bool.true_and, ho, Option.map_some, Option.getD_some]
            rw [← Array.all_toList, List.all_eq_true]
            intro e he
            have := List.all_eq_true.1 h1 e he
            simp only [Bool.or_eq_true] at this ⊢
            rcases this with q | q
            · exact .inl q
            · exact .inr (hs e.on (by simpa using q))
          rw [hr] at hm
          cases hm
    · exact hs j hj
theorem topo_any {ops : Array Oper} {L : List Nat} : ∀ {seen : List Nat}, topoOk .text ops L seen = true → topoOk .any ops L seen = true := by
  induction L with
  | nil => intro seen h; exact h
  | cons k L ih =>
    intro seen h
    unfold topoOk at h ⊢
    rw [Bool.and_eq_true] at h ⊢
    refine ⟨?_, ih h.2⟩
    cases ho : ops[k]? with
    | none => rw [ho] at h; exact h.1
    | some o =>
      rw [ho] at h
      refine List.all_eq_true.2 fun e he => ?_
      have := List.all_eq_true.1 h.1 e he
      simp only [Bool.or_eq_true] at this ⊢
      rcases this with q | q
      · refine .inl ?_
        unfold Region.binds at q ⊢
        cases hg : e.ground <;> rw [hg] at q <;> simp_all
      · exact .inr q
theorem ready_spec {md : Region.Mode} {ops : Array Oper} {listed : Array Bool} (hsz : listed.size = ops.size) {i : Nat} (h : i ∈ Region.ready md ops listed) :
    i < ops.size ∧ listed.getD i false = false ∧ ∃ o, ops[i]? = some o ∧ ∀ e ∈ o.after, isBase e = true → listed.getD e.on false = true := by
  unfold Region.ready at h
  rw [List.mem_filter] at h
  obtain ⟨h1, h2⟩ := h
  have hlt : i < ops.size := by simpa using h1
  have hj' : i < listed.size := by omega
  simp only [Bool.and_eq_true, Bool.not_eq_true'] at h2
  refine ⟨hlt, ?_, ops[i], Array.getElem?_eq_getElem hlt, fun e he hb => ?_⟩
  · have := h2.1
    simp only [Array.getD_eq_getD_getElem?, Array.getElem?_eq_getElem hj', Option.getD_some] at this ⊢
    exact this
  · have q := h2.2
    rw [Array.getElem?_eq_getElem hlt, Option.map_some, Option.getD_some, ← Array.all_toList] at q
    have := List.all_eq_true.1 q e (Array.mem_toList_iff.2 he)
    simp only [Bool.or_eq_true, Bool.not_eq_true'] at this
    rcases this with q | q
    · exfalso
      unfold isBase at hb
      unfold Region.binds at q
      cases hg : e.ground <;> rw [hg] at q hb <;> simp_all
    · exact q
theorem listed_set {listed : Array Bool} {i : Nat} (hi : i < listed.size) (j : Nat) : (listed.setIfInBounds i true).getD j false = true ↔ j = i ∨ listed.getD j false = true := by
  simp only [Array.getD_eq_getD_getElem?]
  by_cases q : j = i
  · subst q; simp [Array.getElem?_setIfInBounds_self_of_lt hi]
  · rw [Array.getElem?_setIfInBounds_ne (fun e => q e.symm)]; simp [q]

theorem dstsOf_cons (o : Oper) (l : List Oper) (k : Nat) : dstsOf (o :: l) k = match o.dst with
    | none => dstsOf l (k + 1)
    | some d => (d, k) :: dstsOf l (k + 1) := rfl
theorem dstsOf_mem : ∀ (l : List Oper) (k i : Nat) (o : Oper) (d : Tmp), l[i]? = some o → o.dst = some d → (d, k + i) ∈ dstsOf l k := by
  intro l
  induction l with
  | nil => intro k i o d h; simp at h
  | cons o' l ih =>
    intro k i o d h hd
    rw [dstsOf_cons]
    cases i with
    | zero =>
      simp only [List.getElem?_cons_zero, Option.some.injEq] at h
      subst h
      rw [hd]
      exact List.mem_cons_self
    | succ i =>
      have := ih (k + 1) i o d (by simpa using h) hd
      rw [show k + 1 + i = k + (i + 1) by omega] at this
      cases o'.dst with
      | none => exact this
      | some d' => exact List.mem_cons_of_mem _ this
theorem nodupT_spec : ∀ {l : List (Tmp × Nat)}, nodupT l = true → ∀ {d : Tmp} {i j : Nat}, (d, i) ∈ l → (d, j) ∈ l → i = j
  | [], _, d, i, j, h, _ => by cases h
  | (d', k) :: l, h, d, i, j, hi, hj => by
    unfold nodupT at h
    rw [Bool.and_eq_true] at h
    have key : ∀ m, (d', m) ∈ l → False := fun m hm => by
      have := List.all_eq_true.1 h.1 _ hm
      simp at this
    rcases List.mem_cons.1 hi with q1 | q1 <;> rcases List.mem_cons.1 hj with q2 | q2
    · cases q1; cases q2; rfl
    · cases q1; exact (key j q2).elim
    · cases q2; exact (key i q1).elim
    · exact nodupT_spec h.2 q1 q2
theorem effects_cons (o : AOp) (l : List AOp) (k : Nat) : effects (o :: l) k = if aopE o then k :: effects l (k + 1) else effects l (k + 1) := rfl
theorem effects_mem : ∀ (l : List AOp) (k i : Nat) (op : AOp), l[i]? = some op → aopE op = true → k + i ∈ effects l k := by
  intro l
  induction l with
  | nil => intro k i o h; simp at h
  | cons o' l ih =>
    intro k i o h hd
    rw [effects_cons]
    cases i with
    | zero =>
      simp only [List.getElem?_cons_zero, Option.some.injEq] at h
      subst h
      rw [if_pos hd]
      exact List.mem_cons_self
    | succ i =>
      have := ih (k + 1) i o (by simpa using h) hd
      rw [show k + 1 + i = k + (i + 1) by omega] at this
      split
      · exact List.mem_cons_of_mem _ this
      · exact this
/-- an operation looks at nothing that is told out of turn -/
def Sees (ops : Array Oper) (ms : List Nat) (i : Nat) (firm : Bool) (o : Oper) : Prop :=
  ∀ t ∈ o.looksAt ops, ∀ j oj, ops[j]? = some oj → oj.dst = some t → (j < i ∧ bit ms i j = true) ∨ (firm = false ∧ i < j ∧ bit ms j i = true)
theorem sees_ok {ops : Array Oper} {ms : List Nat} {i : Nat} {firm : Bool} {o : Oper} (h : seesOk ms (dstsOf ops.toList 0) i firm (o.looksAt ops) = true) : Sees ops ms i firm o := fun t ht j oj hj hd => by
  have h1 := List.all_eq_true.1 h t ht
  have hm := dstsOf_mem ops.toList 0 j oj t (by simpa using hj) hd
  rw [Nat.zero_add] at hm
  have h2 := List.all_eq_true.1 h1 _ hm
  simp only [bne_self_eq_false, Bool.false_or, Bool.or_eq_true, Bool.and_eq_true, Bool.not_eq_true'] at h2
  rcases h2 with ⟨q1, q2⟩ | ⟨⟨q0, q1⟩, q2⟩
  · exact .inl ⟨blt_lt q1, q2⟩
  · exact .inr ⟨q0, blt_lt q1, q2⟩
theorem drawOk_mk {ρ : Env} {hs : Hs} {x : AO} {n : Nat} {c : Checks} : ∀ {es : List Nat}, drawOk ρ hs (mkChecks x n es c) = true → (∀ e ∈ es, chk1 (Hs.drop e hs).head (Hs.drop e hs).tail.head n (val ρ x) = true) ∧ drawOk ρ hs c = true
  | [], h => ⟨(fun _ q => by cases q), h⟩
  | e :: es, h => by
    have h' : band (chk1 (Hs.drop e hs).head (Hs.drop e hs).tail.head n (val ρ x)) (drawOk ρ hs (mkChecks x n es c)) = true := h
    rw [band_eq, Bool.and_eq_true] at h'
    obtain ⟨h1, h2⟩ := drawOk_mk h'.2
    refine ⟨fun e' q => ?_, h2⟩
    rcases List.mem_cons.1 q with rfl | q
    · exact h'.1
    · exact h1 e' q
/-- What the checks say of one operation. -/
def CheckOf (ops : Array Oper) (es ms : List Nat) (ρ : Env) (hs : Hs) (i : Nat) (o : Oper) (op : AOp) : Prop :=
  match op with
  | .l looks _ => Sees ops ms i true o ∧ ∀ e ∈ es, (if e < i then bit ms i e else bit ms e i) = true ∨ ∃ x n, looks = some (x, n) ∧ chk1 (Hs.drop e hs).head (Hs.drop e hs).tail.head n (val ρ x) = true
  | _ => Sees ops ms i false o
theorem checks_ok {ops : Array Oper} {es ms : List Nat} {ρ : Env} {hs : Hs} : ∀ {ol : List Oper} {l : List AOp} {k : Nat} {c : Checks}, checksOf ops es ms (dstsOf ops.toList 0) ol l k = some c → drawOk ρ hs c = true →
    ∀ i o op, ol[i]? = some o → l[i]? = some op → CheckOf ops es ms ρ hs (k + i) o op
  | [], l, k, c, h, hc, i, o, op, ho, hop => by simp at ho
  | o' :: ol, [], k, c, h, hc, i, o, op, ho, hop => by simp at hop
  | o' :: ol, op' :: l, k, c, h, hc, i, o, op, ho, hop => by
    unfold checksOf at h
    obtain ⟨rest, h1, h⟩ := bind_some h
    have key : CheckOf ops es ms ρ hs k o' op' ∧ drawOk ρ hs rest = true := by
      cases op' with
      | l looks f =>
        obtain ⟨h2, h⟩ := guard_some h
        cases looks with
        | some xn =>
          obtain ⟨x, n⟩ := xn
          have := pure_some h
          subst this
          obtain ⟨g1, g2⟩ := drawOk_mk hc
          refine ⟨⟨sees_ok h2, fun e he => ?_⟩, g2⟩
          by_cases q : (if e < k then bit ms k e else bit ms e k) = true
          · exact .inl q
          · exact .inr ⟨x, n, rfl, g1 e (List.mem_filter.2 ⟨he, by simpa using q⟩)⟩
        | none =>
          obtain ⟨h3, h⟩ := guard_some h
          have := pure_some h
          subst this
          refine ⟨⟨sees_ok h2, fun e he => ?_⟩, hc⟩
          by_cases q : (if e < k then bit ms k e else bit ms e k) = true
          · exact .inl q
          · exfalso
            have : e ∈ es.filter fun e => !(if e < k then bit ms k e else bit ms e k) := List.mem_filter.2 ⟨he, by simpa using q⟩
            rw [List.isEmpty_iff.1 h3] at this
            cases this
      | _ =>
        obtain ⟨h2, h⟩ := guard_some h
        have := pure_some h
        subst this
        exact ⟨sees_ok h2, hc⟩
    cases i with
    | zero =>
      simp only [List.getElem?_cons_zero, Option.some.injEq] at ho hop
      subst ho hop
      exact key.1
    | succ i =>
      have := checks_ok h1 key.2 i o op (by simpa using ho) (by simpa using hop)
      rw [show k + 1 + i = k + (i + 1) by omega] at this
      exact this
end
end Go.Proofs.Ytgamhgeiceakeaa.Ev
/- The evaluator's soundness: regions that draw their order: what holds between the operations, in whatever order. -/
set_option linter.unusedVariables false
namespace Go.Proofs.Ytgamhgeiceakeaa.Ev
section
variable {P : Program}
def Chk (ops : Array Oper) (ms : List Nat) (al : List AOp) (H : Nat → Heap) (ρ : Env) (i : Nat) (o : Oper) (op : AOp) : Prop :=
  match op with
  | .l looks _ => Sees ops ms i true o ∧ ∀ e ope, al[e]? = some ope → aopE ope = true → (if e < i then bit ms i e else bit ms e i) = true ∨ ∃ x n, looks = some (x, n) ∧ SubAt (H e) (H (e + 1)) n (val ρ x) ∧ SubAt (H (e + 1)) (H e) n (val ρ x)
  | _ => Sees ops ms i false o
structure Ctx (P : Program) (call : CallT) (nt : Nat) (ops : Array Oper) (ms : List Nat) (al : List AOp) (E : Nat → Env) (H : Nat → Heap) (D : Nat → Nat) (V : Nat → Value) (W : Nat → Bool) : Prop where
  canon : Canon P call nt ops ops.toList al E H D V W
  len : al.length = ops.size
  dst : ∀ (i j : Nat) (oi oj : Oper) (t : Tmp), ops[i]? = some oi → ops[j]? = some oj → oi.dst = some t → oj.dst = some t → i = j
  tot : ∀ i j opi opj, al[i]? = some opi → al[j]? = some opj → aopE opi = true → aopE opj = true → i < j → bit ms j i = true
  chk : ∀ i o op, ops[i]? = some o → al[i]? = some op → Chk ops ms al H (E ops.size) i o op
  closed : ∀ S, Closed ops S → ∀ i j, bit ms i j = true → S i → S j
/-- Operation i makes the block k. -/
def Mk (al : List AOp) (E : Nat → Env) (D : Nat → Nat) (V : Nat → Value) (W : Nat → Bool) (i : Nat) (k : Blk) : Prop :=
  ∃ f, al[i]? = some (.n f) ∧ W i = true ∧ f (E i) (D i) = .ok (V i) k
variable {call : CallT} {nt : Nat} {ops : Array Oper} {ms : List Nat} {al : List AOp} {E : Nat → Env} {H : Nat → Heap} {D : Nat → Nat} {V : Nat → Value} {W : Nat → Bool}
theorem Mk.same {i : Nat} {k k' : Blk} (a : Mk al E D V W i k) (b : Mk al E D V W i k') : k = k' := by
  obtain ⟨f, h1, _, h2⟩ := a
  obtain ⟨f', h3, _, h4⟩ := b
  rw [h1] at h3
  cases h3
  rw [h2] at h4
  cases h4
  rfl
theorem Mk.lt {i : Nat} {k : Blk} (a : Mk al E D V W i k) : i < al.length := by
  obtain ⟨f, h1, _⟩ := a
  exact (List.getElem?_eq_some_iff.1 h1).1
theorem Ctx.get (C : Ctx P call nt ops ms al E H D V W) {i : Nat} (hi : i < ops.size) : ∃ o op, ops[i]? = some o ∧ al[i]? = some op :=
  ⟨ops[i], al[i]'(by rw [C.len]; exact hi), Array.getElem?_eq_getElem hi, List.getElem?_eq_getElem (by rw [C.len]; exact hi)⟩
theorem Ctx.step (C : Ctx P call nt ops ms al E H D V W) {i : Nat} {o : Oper} {op : AOp} (ho : ops[i]? = some o) (hop : al[i]? = some op) :
    compOp P o.op = some op ∧ (∀ d, o.dst = some d → d < nt) ∧
    D (i + 1) = (if isNop op = true then D i + 1 else D i) ∧ E (i + 1) = put (E i) (o.dst.map pos) (V i) ∧
    (W i = true → opD call (E i) (H i) (D i) op = .ok (V i) (H (i + 1))) ∧ (W i = false → V i = undefV ∧ H (i + 1) = H i) ∧
    ((o.guard = none ∧ W i = true) ∨ ∃ j w oj g, o.guard = some (j, w) ∧ ops[j]? = some oj ∧ oj.dst = some g ∧ W i = isB w (Tr.get (pos g) (E i))) := by
  obtain ⟨op', h1, h2⟩ := C.canon.op i o (by simpa using ho)
  rw [hop] at h1
  cases h1
  exact h2
theorem Ctx.dmono (C : Ctx P call nt ops ms al E H D V W) : ∀ {i j : Nat}, i ≤ j → j ≤ ops.size → D i ≤ D j := by
  intro i j hij
  induction hij with
  | refl => intro _; exact Nat.le_refl _
  | @step j _ ih =>
    intro hj
    obtain ⟨o, op, ho, hop⟩ := C.get (Nat.lt_of_succ_le hj)
    have := (C.step ho hop).2.2.1
    have := ih (by omega)
    show D i ≤ D (j + 1)
    split at * <;> omega
theorem Ctx.mk_lt (C : Ctx P call nt ops ms al E H D V W) {i : Nat} {k : Blk} (m : Mk al E D V W i k) : D i < D (i + 1) := by
  have hi := m.lt
  rw [C.len] at hi
  obtain ⟨o, op, ho, hop⟩ := C.get hi
  obtain ⟨f, h1, _⟩ := m
  rw [hop] at h1
  cases h1
  have := (C.step ho hop).2.2.1
  rw [if_pos (show isNop (AOp.n f) = true from rfl)] at this
  omega
theorem Ctx.mk_inj (C : Ctx P call nt ops ms al E H D V W) {i j : Nat} {k k' : Blk} (m : Mk al E D V W i k) (m' : Mk al E D V W j k') (h : D i = D j) : i = j := by
  have hi := m.lt
  have hj := m'.lt
  rw [C.len] at hi hj
  have h1 := C.mk_lt m
  have h2 := C.mk_lt m'
  rcases Nat.lt_trichotomy i j with q | q | q
  · have := C.dmono (show i + 1 ≤ j by omega) (by omega); omega
  · exact q
  · have := C.dmono (show j + 1 ≤ i by omega) (by omega); omega
theorem Ctx.mk_top (C : Ctx P call nt ops ms al E H D V W) {i : Nat} {k : Blk} (m : Mk al E D V W i k) : D 0 ≤ D i ∧ D i < D ops.size := by
  have hi := m.lt
  rw [C.len] at hi
  have := C.mk_lt m
  have := C.dmono (show i + 1 ≤ ops.size by omega) (Nat.le_refl _)
  exact ⟨C.dmono (Nat.zero_le _) (by omega), by omega⟩
/-- What no operation has told stays. -/
theorem Ctx.stays (C : Ctx P call nt ops ms al E H D V W) {t : Nat} {i : Nat} : ∀ {j : Nat}, i ≤ j → j ≤ ops.size → (∀ k o, i ≤ k → k < j → ops[k]? = some o → o.dst ≠ some t) → val (E j) (.t (pos t)) = val (E i) (.t (pos t)) := by
  intro j hij
  induction hij with
  | refl => intro _ _; rfl
  | @step j hij ih =>
    intro hj h
    obtain ⟨o, op, ho, hop⟩ := C.get (Nat.lt_of_succ_le hj)
    have he := (C.step ho hop).2.2.2.1
    show val (E (j + 1)) _ = _
    rw [he, val_put, if_neg, ih (by omega) fun k o h1 h2 h3 => h k o h1 (Nat.lt_succ_of_lt h2) h3]
    intro q
    cases hd : o.dst with
    | none => rw [hd] at q; cases q
    | some d =>
      rw [hd] at q
      have := pos_inj (Option.some.inj q)
      subst this
      exact h j o hij (Nat.lt_succ_self _) ho hd
theorem Ctx.told (C : Ctx P call nt ops ms al E H D V W) {t i j : Nat} {o : Oper} (ho : ops[i]? = some o) (hd : o.dst = some t) (hij : i < j) (hj : j ≤ ops.size) : val (E j) (.t (pos t)) = V i := by
  have hi : i < ops.size := (Array.getElem?_eq_some_iff.1 ho).1
  obtain ⟨_, op, _, hop⟩ := C.get hi
  rw [C.stays (show i + 1 ≤ j by omega) hj fun k o' h1 h2 h3 q => by have := C.dst i k o o' t ho h3 hd q; omega]
  rw [(C.step ho hop).2.2.2.1, val_put, if_pos (by rw [hd]; rfl)]
theorem Ctx.first (C : Ctx P call nt ops ms al E H D V W) {t j : Nat} (hj : j ≤ ops.size) (h : ∀ i o, i < j → ops[i]? = some o → o.dst ≠ some t) : val (E j) (.t (pos t)) = val (E 0) (.t (pos t)) :=
  C.stays (Nat.zero_le _) hj fun k o _ h2 h3 => h k o h2 h3
/-- The heap behind an operation without effects. -/
theorem Ctx.quiet (C : Ctx P call nt ops ms al E H D V W) {i : Nat} {op : AOp} (hop : al[i]? = some op) (he : aopE op = false) : (H (i + 1) = H i ∧ ∀ k, ¬ Mk al E D V W i k) ∨ ∃ k, Mk al E D V W i k ∧ H (i + 1) = (H i).put (D i) k := by
  have hi : i < al.length := (List.getElem?_eq_some_iff.1 hop).1
  rw [C.len] at hi
  obtain ⟨o, op', ho, hop'⟩ := C.get hi
  rw [hop] at hop'
  cases hop'
  obtain ⟨_, _, _, _, h1, h2, _⟩ := C.step ho hop
  cases hw : W i with
  | false => exact .inl ⟨(h2 hw).2, fun k m => by obtain ⟨f, _, q, _⟩ := m; rw [hw] at q; cases q⟩
  | true =>
    have h1 := h1 hw
    cases op with
    | p f => exact .inl ⟨(pv_some h1).2, fun k m => by obtain ⟨f, q, _⟩ := m; rw [hop] at q; cases q⟩
    | l x f => exact .inl ⟨(pv_some h1).2, fun k m => by obtain ⟨f, q, _⟩ := m; rw [hop] at q; cases q⟩
    | n f =>
      have h1' : (@VB.rec (fun _ => VH) .fail (fun v b => .ok v ((H i).put (D i) b)) (f (E i) (D i))) = VH.ok (V i) (H (i + 1)) := h1
      cases hb : f (E i) (D i) with
      | fail => rw [hb] at h1'; cases h1'
      | ok v b =>
        rw [hb] at h1'
        have h1'' : VH.ok v ((H i).put (D i) b) = VH.ok (V i) (H (i + 1)) := h1'
        injection h1'' with e1 e2
        exact .inr ⟨b, ⟨f, hop, hw, by rw [hb, e1]⟩, e2.symm⟩
    | e f => cases he
    | call f a => cases he
    | callv x a => cases he

/-- Between the operations: S have run; J is the stage of those with effects. -/
structure DInv (ops : Array Oper) (al : List AOp) (E : Nat → Env) (H : Nat → Heap) (D : Nat → Nat) (V : Nat → Value) (W : Nat → Bool) (nt base : Nat) (ds : List Deferred) (ι0 : Inj) (h0 : Heap) (w0 : World)
    (S : Nat → Prop) (J : Nat) (ι : Inj) (hS : Heap) (a : Act) (w : World) : Prop where
  le : J ≤ ops.size
  stage : ∀ e op, al[e]? = some op → aopE op = true → (S e ↔ e < J)
  rel : Rel base ι hS w
  ext : Ext ι0 h0 w0 ι hS w
  nx : hS.next = (H J).next
  big : D ops.size ≤ (H J).next
  blk : ∀ b, (∀ i k, J ≤ i → S i → Mk al E D V W i k → b ≠ D i) → hS.blk b = (H J).blk b
  early : ∀ i k, J ≤ i → S i → Mk al E D V W i k → hS.blk (D i) = some k ∧ ι (D i) ≠ none ∧ ownB (some k) = true
  late : ∀ i k, ¬ S i → Mk al E D V W i k → ι (D i) = none ∧ (i < J → (H J).blk (D i) = some k)
  cf : ∀ i k m, Mk al E D V W i k → m ≤ i → m ≤ J → (H m).blk (D i) = none
  env : ∀ t, (∀ i o, S i → ops[i]? = some o → o.dst ≠ some t) → VR ι (val (E 0) (.t (pos t))) (a.tmps.getD t undef)
  envS : ∀ i o t, S i → ops[i]? = some o → o.dst = some t → VR ι (V i) (a.tmps.getD t undef)
  size : a.tmps.size = nt
  defers : a.defers = ds
variable {base : Nat} {ds : List Deferred} {ι0 : Inj} {h0 : Heap} {w0 : World}
theorem Rel.congr {ι : Inj} {h h' : Heap} {w : World} (r : Rel base ι h w) (hb : ∀ b, h'.blk b = h.blk b) (hn : h'.next = h.next) : Rel base ι h' w :=
  ⟨fun b q => by rw [hb]; exact r.fresh b (by rw [← hn]; exact q), r.low, fun b B o S own n pat tr e hk => r.blk b B o S own n pat tr e (by rw [← hb]; exact hk), fun b b' B x x' e e' q q' => r.apart b b' B x x' e e' (by rw [← hb]; exact q) (by rw [← hb]; exact q')⟩
theorem Rel.less {ι : Inj} {h h' : Heap} {w : World} (r : Rel base ι h w) (hb : ∀ b, h'.blk b = h.blk b ∨ h'.blk b = none) (hn : h'.next = h.next) : Rel base ι h' w := by
  have key : ∀ b k, h'.blk b = some k → h.blk b = some k := fun b k q => by
    rcases hb b with g | g
    · rw [← g]; exact q
    · rw [g] at q; cases q
  have own : ∀ b, ownB (h'.blk b) = true → ownB (h.blk b) = true := fun b q => by
    rcases hb b with g | g
    · rw [← g]; exact q
    · rw [g] at q; cases q
  refine ⟨fun b q => ?_, r.low, fun b B o S own n pat tr e hk => r.blk b B o S own n pat tr e (key b _ hk), fun b b' B x x' e e' q q' => r.apart b b' B x x' e e' (own b q) (own b' q')⟩
  have := r.fresh b (by rw [← hn]; exact q)
  refine ⟨this.1, ?_⟩
  rcases hb b with g | g
  · rw [g]; exact this.2
  · exact g
/-- A block that nothing leads to yet. -/
theorem Rel.put_new {ι : Inj} {h : Heap} {w : World} (r : Rel base ι h w) {id : Nat} (k : Blk) (hi : ι id = none) (hlt : id < h.next) : Rel base ι (h.put id k) w := by
  have ne : ∀ b x, ι b = some x → b ≠ id := fun b x e q => by rw [q, hi] at e; cases e
  refine ⟨fun b q => ?_, r.low, fun b B o S own n pat tr e hk => r.blk b B o S own n pat tr e (by rw [blk_put, if_neg (ne b _ e)] at hk; exact hk), fun b b' B x x' e e' q q' => r.apart b b' B x x' e e' (by rw [blk_put, if_neg (ne b _ e)] at q; exact q) (by rw [blk_put, if_neg (ne b' _ e')] at q'; exact q')⟩
  rw [next_put] at q
  rw [blk_put, if_neg (by omega)]
  exact r.fresh b q
theorem Ext.put_new {ι : Inj} {h : Heap} {w : World} (x : Ext ι0 h0 w0 ι h w) {id : Nat} (k : Blk) (hi : ι id = none) (hlo : h0.next ≤ id) : Ext ι0 h0 w0 ι (h.put id k) w :=
  ⟨x.le, fun b q e => by rw [blk_put, if_neg (by omega)]; exact x.old b q e, fun b q e => by rw [blk_put, if_neg (by omega)]; exact x.gone b q e, by rw [next_put]; exact x.next, x.size, x.keep,
    fun B hB ⟨b, o, e, q⟩ => x.own B hB ⟨b, o, e, by rw [blk_put, if_neg (fun g => by rw [g, hi] at e; cases e)] at q; exact q⟩, x.os, x.tape, x.output⟩
variable {S : Nat → Prop} {J : Nat} {ι : Inj} {hS : Heap} {a : Act} {w : World}
theorem DInv.hsD (C : Ctx P call nt ops ms al E H D V W) (I : DInv ops al E H D V W nt base ds ι0 h0 w0 S J ι hS a w) {i : Nat} {k : Blk} (hns : ¬ S i) (m : Mk al E D V W i k) : hS.blk (D i) = (H J).blk (D i) :=
  I.blk _ fun j k' _ hs m' q => hns (by rw [C.mk_inj m m' q]; exact hs)
/-- The stage may be set past an operation without effects. -/
theorem DInv.adv (C : Ctx P call nt ops ms al E H D V W) (hd0 : D 0 = h0.next) (I : DInv ops al E H D V W nt base ds ι0 h0 w0 S J ι hS a w) {op : AOp} (hop : al[J]? = some op) (he : aopE op = false) :
    ∃ hS', DInv ops al E H D V W nt base ds ι0 h0 w0 S (J + 1) ι hS' a w := by
  have hJ : J < ops.size := by have := (List.getElem?_eq_some_iff.1 hop).1; rw [C.len] at this; exact this
  have stage : ∀ e op, al[e]? = some op → aopE op = true → (S e ↔ e < J + 1) := fun e op' h1 h2 => by
    rw [I.stage e op' h1 h2]
    have : e ≠ J := fun q => by subst q; rw [hop] at h1; cases h1; rw [he] at h2; cases h2
    omega
  rcases C.quiet hop he with ⟨hH, hno⟩ | ⟨k, m, hH⟩
  · have ge : ∀ i k, Mk al E D V W i k → J ≤ i → J + 1 ≤ i := fun i k m q => by
      rcases Nat.lt_or_ge J i with g | g
      · exact g
      · have : i = J := by omega
        subst this; exact (hno k m).elim
    refine ⟨hS, hJ, stage, I.rel, I.ext, by rw [hH]; exact I.nx, by rw [hH]; exact I.big, fun b hb => by rw [hH]; exact I.blk b fun i k h1 h2 h3 => hb i k (ge i k h3 h1) h2 h3, fun i k h1 => I.early i k (by omega), fun i k h1 h2 => ?_, fun i k n h1 h2 h3 => ?_, I.env, I.envS, I.size, I.defers⟩
    · refine ⟨(I.late i k h1 h2).1, fun q => ?_⟩
      rw [hH]
      refine (I.late i k h1 h2).2 ?_
      rcases Nat.lt_or_ge i J with g | g
      · exact g
      · have := ge i k h2 g; omega
    · by_cases q : n ≤ J
      · exact I.cf i k n h1 h2 q
      · have : n = J + 1 := by omega
        subst this
        rw [hH]
        exact I.cf i k J h1 (by omega) (Nat.le_refl _)
  · have hblk : ∀ b, (H (J + 1)).blk b = if b = D J then some k else (H J).blk b := fun b => by rw [hH, blk_put]
    have hnx : (H (J + 1)).next = (H J).next := by rw [hH, next_put]
    have cf : ∀ i k n, Mk al E D V W i k → n ≤ i → n ≤ J + 1 → (H n).blk (D i) = none := fun i k' n h1 h2 h3 => by
      by_cases q : n ≤ J
      · exact I.cf i k' n h1 h2 q
      · have : n = J + 1 := by omega
        subst this
        rw [hblk, if_neg (fun q => by have := C.mk_inj h1 m q; omega)]
        exact I.cf i k' J h1 (by omega) (Nat.le_refl _)
    by_cases hs : S J
    · obtain ⟨g1, g2⟩ := I.early J k (Nat.le_refl _) hs m
      refine ⟨hS, hJ, stage, I.rel, I.ext, by rw [hnx]; exact I.nx, by rw [hnx]; exact I.big, fun b hb => ?_, fun i k h1 => I.early i k (by omega), fun i k' h1 h2 => ?_, cf, I.env, I.envS, I.size, I.defers⟩
      · rw [hblk]
        by_cases q : b = D J
        · rw [if_pos q, q]; exact g1
        · rw [if_neg q]
          refine I.blk b fun i k' h1 h2 h3 => ?_
          by_cases q2 : i = J
          · subst q2; exact q
          · exact hb i k' (by omega) h2 h3
      · refine ⟨(I.late i k' h1 h2).1, fun q => ?_⟩
        have hne : i ≠ J := fun e => by subst e; exact h1 hs
        rw [hblk, if_neg (fun e => hne (C.mk_inj h2 m e))]
        exact (I.late i k' h1 h2).2 (by omega)
    · obtain ⟨g1, _⟩ := I.late J k hs m
      have hlt : D J < hS.next := by have := (C.mk_top m).2; have := I.big; have := I.nx; omega
      have hlo : h0.next ≤ D J := by rw [← hd0]; exact (C.mk_top m).1
      refine ⟨hS.put (D J) k, hJ, stage, I.rel.put_new k g1 hlt, I.ext.put_new k g1 hlo, by rw [hnx, next_put]; exact I.nx, by rw [hnx]; exact I.big, fun b hb => ?_, fun i k' h1 h2 h3 => ?_, fun i k' h1 h2 => ?_, cf, I.env, I.envS, I.size, I.defers⟩
      · rw [hblk, blk_put]
        by_cases q : b = D J
        · rw [if_pos q, if_pos q]
        · rw [if_neg q, if_neg q]
          refine I.blk b fun i k' h1 h2 h3 => ?_
          by_cases q2 : i = J
          · subst q2; exact q
          · exact hb i k' (by omega) h2 h3
      · have := I.early i k' (by omega) h2 h3
        rw [blk_put, if_neg (fun e => by have := C.mk_inj h3 m e; omega)]
        exact this
      · refine ⟨(I.late i k' h1 h2).1, fun q => ?_⟩
        rw [hblk]
        by_cases e : D i = D J
        · rw [if_pos e]
          have := C.mk_inj h2 m e
          subst this
          rw [h2.same m]
        · rw [if_neg e]
          refine (I.late i k' h1 h2).2 ?_
          have : i ≠ J := fun q => e (by rw [q])
          omega
/-- .. until one with effects is to come, or none. -/
theorem DInv.advs (C : Ctx P call nt ops ms al E H D V W) (hd0 : D 0 = h0.next) : ∀ (m J : Nat) (hS : Heap), ops.size - J ≤ m → DInv ops al E H D V W nt base ds ι0 h0 w0 S J ι hS a w →
    ∃ J' hS', DInv ops al E H D V W nt base ds ι0 h0 w0 S J' ι hS' a w ∧ (J' = ops.size ∨ ∃ op, al[J']? = some op ∧ aopE op = true)
  | m, J, hS, hm, I => by
    by_cases q : J = ops.size
    · exact ⟨J, hS, I, .inl q⟩
    · have hJ : J < ops.size := by have := I.le; omega
      obtain ⟨o, op, ho, hop⟩ := C.get hJ
      cases he : aopE op with
      | true => exact ⟨J, hS, I, .inr ⟨op, hop, he⟩⟩
      | false =>
        obtain ⟨hS', I'⟩ := I.adv C hd0 hop he
        cases m with
        | zero => omega
        | succ m => exact DInv.advs C hd0 m (J + 1) hS' (by omega) I'
end
end Go.Proofs.Ytgamhgeiceakeaa.Ev
/- The evaluator's soundness: regions that draw their order: one operation more. -/
set_option linter.unusedVariables false
namespace Go.Proofs.Ytgamhgeiceakeaa.Ev
section
variable {P : Program} {call : CallT} {nt : Nat} {ops : Array Oper} {ms : List Nat} {al : List AOp} {E : Nat → Env} {H : Nat → Heap} {D : Nat → Nat} {V : Nat → Value} {W : Nat → Bool}
variable {base : Nat} {ds : List Deferred} {ι0 : Inj} {h0 : Heap} {w0 : World}
variable {S : Nat → Prop} {J : Nat} {ι : Inj} {hS : Heap} {a : Act} {w : World}
theorem put_getD {a : Act} {dst : Option Tmp} {v : Value} (hd : ∀ d, dst = some d → d < a.tmps.size) (t : Tmp) : (a.put dst v).tmps.getD t undef = if dst = some t then v else a.tmps.getD t undef := by
  cases dst with
  | none => rw [if_neg (by simp)]; rfl
  | some d =>
    have hlt := hd d rfl
    by_cases q : d = t
    · subst q
      rw [if_pos rfl]
      simp only [Act.put, Array.getD_eq_getD_getElem?, Array.getElem?_setIfInBounds_self_of_lt hlt]
      rfl
    · rw [if_neg (fun h => q (Option.some.inj h))]
      simp only [Act.put, Array.getD_eq_getD_getElem?, Array.getElem?_setIfInBounds_ne q]
theorem closed_more {i : Nat} {o : Oper} (hcl : Closed ops S) (ho : ops[i]? = some o) (hb : ∀ e ∈ o.after, isBase e = true → S e.on) : Closed ops (fun j => j = i ∨ S j) := fun j o' h1 h2 e he hbe => by
  rcases h2 with rfl | h2
  · rw [ho] at h1; cases h1; exact .inr (hb e he hbe)
  · exact .inr (hcl j o' h1 h2 e he hbe)
theorem Ctx.anc (C : Ctx P call nt ops ms al E H D V W) {i j : Nat} {o : Oper} (hcl : Closed ops S) (ho : ops[i]? = some o) (hb : ∀ e ∈ o.after, isBase e = true → S e.on) (h : bit ms i j = true) (hne : j ≠ i) : S j := by
  rcases C.closed _ (closed_more hcl ho hb) i j h (.inl rfl) with q | q
  · exact absurd q hne
  · exact q
theorem DInv.seen (C : Ctx P call nt ops ms al E H D V W) (I : DInv ops al E H D V W nt base ds ι0 h0 w0 S J ι hS a w) {i : Nat} {o : Oper} {firm : Bool} (hcl : Closed ops S) (ho : ops[i]? = some o) (hns : ¬ S i)
    (hb : ∀ e ∈ o.after, isBase e = true → S e.on) (hs : Sees ops ms i firm o) {t : Tmp} (ht : t ∈ o.looksAt ops) : VR ι (val (E i) (.t (pos t))) (a.tmps.getD t undef) := by
  have hi : i < ops.size := (Array.getElem?_eq_some_iff.1 ho).1
  have key : ∀ (j : Nat) (oj : Oper), ops[j]? = some oj → oj.dst = some t → (j < i ∧ S j) ∨ (i < j ∧ ¬ S j) := fun j oj h1 h2 => by
    rcases hs t ht j oj h1 h2 with ⟨q1, q2⟩ | ⟨_, q1, q2⟩
    · exact .inl ⟨q1, C.anc hcl ho hb q2 (by omega)⟩
    · exact .inr ⟨q1, fun q => hns (C.closed S hcl j i q2 q)⟩
  by_cases q : ∃ (j : Nat) (oj : Oper), ops[j]? = some oj ∧ oj.dst = some t
  · obtain ⟨j, oj, h1, h2⟩ := q
    rcases key j oj h1 h2 with ⟨g1, g2⟩ | ⟨g1, g2⟩
    · rw [C.told h1 h2 g1 (by omega)]
      exact I.envS j oj t g2 h1 h2
    · rw [C.first (by omega) fun k o' h3 h4 h5 => by have := C.dst j k oj o' t h1 h4 h2 h5; omega]
      exact I.env t fun k o' h3 h4 h5 => by have := C.dst j k oj o' t h1 h4 h2 h5; subst this; exact g2 h3
  · rw [C.first (by omega) fun k o' _ h4 h5 => q ⟨k, o', h4, h5⟩]
    exact I.env t fun k o' _ h4 h5 => q ⟨k, o', h4, h5⟩
theorem opd_of {ρ : Env} {o : Oper} (h : ∀ t, t ∈ o.looksAt ops → VR ι (val ρ (.t (pos t))) (a.tmps.getD t undef)) : OpdR ι ρ a o := fun x hx y hy => by
  rcases cO_some hy with ⟨t, rfl, rfl⟩ | ⟨v, rfl, rfl, hg⟩ | ⟨f, rfl, rfl⟩
  · refine h t ?_
    unfold Oper.looksAt
    refine List.mem_append_left _ (List.mem_filterMap.2 ⟨.tmp t, Array.mem_toList_iff.2 ?_, rfl⟩)
    first | exact hx | simpa using hx
  · exact .ground v hg
  · exact .func f .nil .nil
/-- The temporaries behind one operation more. -/
theorem DInv.tmps (C : Ctx P call nt ops ms al E H D V W) (I : DInv ops al E H D V W nt base ds ι0 h0 w0 S J ι hS a w) {i : Nat} {o : Oper} (ho : ops[i]? = some o) (hns : ¬ S i) {ι' : Inj} (hle : ι.le ι') {v' : Value} (hv : VR ι' (V i) v') :
    (∀ t, (∀ (j : Nat) (oj : Oper), (j = i ∨ S j) → ops[j]? = some oj → oj.dst ≠ some t) → VR ι' (val (E 0) (.t (pos t))) ((a.put o.dst v').tmps.getD t undef)) ∧
    (∀ (j : Nat) (oj : Oper) (t : Tmp), (j = i ∨ S j) → ops[j]? = some oj → oj.dst = some t → VR ι' (V j) ((a.put o.dst v').tmps.getD t undef)) ∧
    (a.put o.dst v').tmps.size = nt ∧ (a.put o.dst v').defers = ds := by
  have hi : i < ops.size := (Array.getElem?_eq_some_iff.1 ho).1
  obtain ⟨_, op, _, hop⟩ := C.get hi
  have hd : ∀ d, o.dst = some d → d < a.tmps.size := fun d q => by rw [I.size]; exact (C.step ho hop).2.1 d q
  refine ⟨fun t h => ?_, fun j oj t h1 h2 h3 => ?_, by rw [put_size]; exact I.size, by rw [put_defers]; exact I.defers⟩
  · rw [put_getD hd, if_neg (h i o (.inl rfl) ho)]
    exact (I.env t fun j oj h1 h2 => h j oj (.inr h1) h2).mono hle
  · rw [put_getD hd]
    rcases h1 with rfl | h1
    · rw [ho] at h2; cases h2
      rw [if_pos h3]; exact hv
    · rw [if_neg fun q => by have := C.dst i j o oj t ho h2 q h3; subst this; exact hns h1]
      exact (I.envS j oj t h1 h2 h3).mono hle
/-- One operation more, that makes no block and has no effect. -/
theorem DInv.quiet (C : Ctx P call nt ops ms al E H D V W) (I : DInv ops al E H D V W nt base ds ι0 h0 w0 S J ι hS a w) {i : Nat} {o : Oper} {op : AOp} (ho : ops[i]? = some o) (hop : al[i]? = some op) (he : aopE op = false) (hns : ¬ S i)
    (hno : ∀ k, ¬ Mk al E D V W i k) {ι' : Inj} {w' : World} {v' : Value} (hv : VR ι' (V i) v') (hr : Rel base ι' hS w') (hx : Ext ι hS w ι' hS w') :
    DInv ops al E H D V W nt base ds ι0 h0 w0 (fun j => j = i ∨ S j) J ι' hS (a.put o.dst v') w' := by
  obtain ⟨t1, t2, t3, t4⟩ := I.tmps C ho hns hx.le hv
  have ne : ∀ j k, Mk al E D V W j k → j ≠ i := fun j k m q => by subst q; exact hno k m
  refine ⟨I.le, fun e ope h1 h2 => ?_, hr, I.ext.trans hx, I.nx, I.big, fun b hb => I.blk b fun j k h1 h2 h3 => hb j k h1 (.inr h2) h3, fun j k h1 h2 h3 => ?_, fun j k h1 h2 => ?_, I.cf, t1, t2, t3, t4⟩
  · rw [← I.stage e ope h1 h2]
    have : e ≠ i := fun q => by subst q; rw [hop] at h1; cases h1; rw [he] at h2; cases h2
    simp [this]
  · rcases h2 with h2 | h2
    · exact absurd h2 (ne j k h3)
    · obtain ⟨g1, g2, g3⟩ := I.early j k h1 h2 h3
      refine ⟨g1, fun q => ?_, g3⟩
      cases hq : ι (D j) with
      | none => exact g2 hq
      | some x => have := hx.le _ _ hq; rw [q] at this; cases this
  · have h1' : ¬ S j := fun q => h1 (.inr q)
    obtain ⟨g1, g2⟩ := I.late j k h1' h2
    exact ⟨(hx.old _ (by have := (C.mk_top h2).2; have := I.big; have := I.nx; omega) g1).1, g2⟩
/-- One operation more, that makes a block. -/
theorem DInv.make (C : Ctx P call nt ops ms al E H D V W) (hd0 : D 0 = h0.next) (I : DInv ops al E H D V W nt base ds ι0 h0 w0 S J ι hS a w) {i : Nat} {o : Oper} {op : AOp} (ho : ops[i]? = some o) (hop : al[i]? = some op) (he : aopE op = false) (hns : ¬ S i)
    {k : Blk} (m : Mk al E D V W i k) {w' : World} {v' : Value} {Z : Nat} (hv : VR (ι.up (D i) (w.heap.size, 0, Z)) (V i) v') (hm : Made ι w w' k Z) :
    DInv ops al E H D V W nt base ds ι0 h0 w0 (fun j => j = i ∨ S j) J (ι.up (D i) (w.heap.size, 0, Z)) (hS.put (D i) k) (a.put o.dst v') w' := by
  obtain ⟨g1, g2⟩ := I.late i k hns m
  have hle := Inj.le_up (w.heap.size, 0, Z) g1
  obtain ⟨t1, t2, t3, t4⟩ := I.tmps C ho hns hle hv
  have hlt : D i < hS.next := by have := (C.mk_top m).2; have := I.big; have := I.nx; omega
  have hlo : h0.next ≤ D i := by rw [← hd0]; exact (C.mk_top m).1
  have hsb : hS.blk (D i) = none ∨ hS.blk (D i) = some k := by
    rw [I.hsD C hns m]
    by_cases q : i < J
    · exact .inr (g2 q)
    · exact .inl (I.cf i k J m (by omega) (Nat.le_refl _))
  have hr := I.rel.made hm g1 hsb (fun b => blk_put hS (D i) k b) (by rw [next_put]; exact Nat.le_refl _) (by rw [next_put]; exact hlt)
  have x := I.ext
  obtain ⟨n, pat, tr, c, e, fr, hk, hp, _⟩ := hm.ex
  refine ⟨I.le, fun e ope h1 h2 => ?_, hr, ⟨Inj.le_trans x.le hle, fun b q e' => ?_, fun b q e' => ?_, by rw [next_put]; exact x.next, by rw [hp, Array.size_push]; exact Nat.le_succ_of_le x.size, fun B hB hno => ?_, fun B hB ho' => ?_, hm.os.trans x.os, hm.tape.trans x.tape, hm.output.trans x.output⟩,
    by rw [next_put]; exact I.nx, I.big, fun b hb => ?_, fun j k' h1 h2 h3 => ?_, fun j k' h1 h2 => ?_, I.cf, t1, t2, t3, t4⟩
  · rw [← I.stage e ope h1 h2]
    have : e ≠ i := fun q => by subst q; rw [hop] at h1; cases h1; rw [he] at h2; cases h2
    simp [this]
  · obtain ⟨q1, q2⟩ := x.old b q e'
    exact ⟨by rw [Inj.up_ne _ _ (by omega)]; exact q1, by rw [blk_put, if_neg (by omega)]; exact q2⟩
  · rw [blk_put, if_neg (by omega)]; exact x.gone b q e'
  · rw [push_old hp (Nat.lt_of_lt_of_le hB x.size)]; exact x.keep B hB hno
  · obtain ⟨b, o', q1, q2⟩ := ho'
    by_cases q : b = D i
    · subst q
      rw [Inj.up_self] at q1
      have : w.heap.size = B := congrArg Prod.fst (Option.some.inj q1)
      have := x.size
      omega
    · rw [Inj.up_ne _ _ q] at q1
      rw [blk_put, if_neg q] at q2
      exact x.own B hB ⟨b, o', q1, q2⟩
  · rw [blk_put]
    by_cases q : b = D i
    · rw [if_pos q]
      subst q
      by_cases q2 : J ≤ i
      · exact absurd rfl (hb i k q2 (.inl rfl) m)
      · exact (g2 (by omega)).symm
    · rw [if_neg q]
      exact I.blk b fun j k' h1 h2 h3 => hb j k' h1 (.inr h2) h3
  · by_cases q : j = i
    · subst q
      rw [blk_put, if_pos rfl, Inj.up_self, h3.same m]
      exact ⟨rfl, by simp, by rw [hk]; rfl⟩
    · have q' : D j ≠ D i := fun e => q (C.mk_inj h3 m e)
      rw [blk_put, if_neg q', Inj.up_ne _ _ q']
      exact I.early j k' h1 (h2.resolve_left q) h3
  · have h1' : ¬ S j := fun q => h1 (.inr q)
    have q' : D j ≠ D i := fun e => h1 (.inl (C.mk_inj h2 m e))
    rw [Inj.up_ne _ _ q']
    exact I.late j k' h1' h2
/-- The blocks that were made ahead of their turn, laid over a heap. -/
theorem overlay (C : Ctx P call nt ops ms al E H D V W) (S : Nat → Prop) (J : Nat) (h : Heap) : ∀ n, n ≤ ops.size → ∃ h' : Heap, h'.next = h.next ∧ (∀ i k, J ≤ i → i < n → S i → Mk al E D V W i k → h'.blk (D i) = some k) ∧
    ∀ b, (∀ i k, J ≤ i → i < n → S i → Mk al E D V W i k → b ≠ D i) → h'.blk b = h.blk b
  | 0, _ => ⟨h, rfl, fun i k _ q => by omega, fun b _ => rfl⟩
  | n + 1, hn => by
    obtain ⟨h', h1, h2, h3⟩ := overlay C S J h n (by omega)
    by_cases q : J ≤ n ∧ S n ∧ ∃ k, Mk al E D V W n k
    · obtain ⟨q1, q2, k, m⟩ := q
      refine ⟨h'.put (D n) k, by rw [next_put]; exact h1, fun i k' g1 g2 g3 g4 => ?_, fun b hb => ?_⟩
      · rw [blk_put]
        by_cases e : D i = D n
        · rw [if_pos e]
          have := C.mk_inj g4 m e
          subst this
          rw [g4.same m]
        · rw [if_neg e]
          exact h2 i k' g1 (by have : i ≠ n := fun q => e (by rw [q]); omega) g3 g4
      · rw [blk_put, if_neg (hb n k q1 (Nat.lt_succ_self _) q2 m)]
        exact h3 b fun i k' g1 g2 g3 g4 => hb i k' g1 (by omega) g3 g4
    · refine ⟨h', h1, fun i k' g1 g2 g3 g4 => ?_, fun b hb => h3 b fun i k' g1 g2 g3 g4 => hb i k' g1 (by omega) g3 g4⟩
      by_cases e : i = n
      · subst e; exact absurd ⟨g1, g3, k', g4⟩ q
      · exact h2 i k' g1 (by omega) g3 g4
/-- One operation more, that may have an effect: the next one of those. -/
theorem DInv.eff (C : Ctx P call nt ops ms al E H D V W) (hd0 : D 0 = h0.next) (I : DInv ops al E H D V W nt base ds ι0 h0 w0 S J ι hS a w) {o : Oper} {op : AOp} (ho : ops[J]? = some o) (hop : al[J]? = some op) (he : aopE op = true) (hns : ¬ S J)
    {ι' : Inj} {w' : World} {v' : Value} (hv : VR ι' (V J) v') (hr : Rel base ι' (H (J + 1)) w') (hx : Ext ι (H J) w ι' (H (J + 1)) w') :
    ∃ hS', DInv ops al E H D V W nt base ds ι0 h0 w0 (fun j => j = J ∨ S j) (J + 1) ι' hS' (a.put o.dst v') w' := by
  have hJ : J < ops.size := (Array.getElem?_eq_some_iff.1 ho).1
  obtain ⟨t1, t2, t3, t4⟩ := I.tmps C ho hns hx.le hv
  have hno : ∀ k, ¬ Mk al E D V W J k := fun k m => by obtain ⟨f, q, _⟩ := m; rw [hop] at q; cases q; cases he
  have ne : ∀ j k, Mk al E D V W j k → j ≠ J := fun j k m q => by subst q; exact hno k m
  obtain ⟨hS', n1, n2, n3⟩ := overlay C S (J + 1) (H (J + 1)) ops.size (Nat.le_refl _)
  have n2' : ∀ i k, J + 1 ≤ i → S i → Mk al E D V W i k → hS'.blk (D i) = some k := fun i k g1 g2 g3 => n2 i k g1 (by have := g3.lt; rw [C.len] at this; exact this) g2 g3
  have n3' : ∀ b, (∀ i k, J + 1 ≤ i → S i → Mk al E D V W i k → b ≠ D i) → hS'.blk b = (H (J + 1)).blk b := fun b hb => n3 b fun i k g1 _ g2 g3 => hb i k g1 g2 g3
  have sp : ∀ b, (∃ i k, J + 1 ≤ i ∧ S i ∧ Mk al E D V W i k ∧ b = D i) ∨ hS'.blk b = (H (J + 1)).blk b := fun b => by
    by_cases q : ∃ i k, J + 1 ≤ i ∧ S i ∧ Mk al E D V W i k ∧ b = D i
    · exact .inl q
    · exact .inr (n3' b fun i k g1 g2 g3 g4 => q ⟨i, k, g1, g2, g3, g4⟩)
  have big : D ops.size ≤ (H (J + 1)).next := Nat.le_trans I.big hx.next
  have low : ∀ B, Own ι (H J) B → Own ι hS B := fun B ⟨b, x, q1, q2⟩ => by
    refine ⟨b, x, q1, ?_⟩
    rw [I.blk b fun i k g1 g2 g3 g4 => by rw [g4, I.cf i k J g3 g1 (Nat.le_refl _)] at q2; cases q2]
    exact q2
  have sep : ∀ i k B x, J + 1 ≤ i → S i → Mk al E D V W i k → ι (D i) = some (B, x) → ¬ Own ι (H J) B := fun i k B x g1 g2 g3 e' ⟨b, y, q1, q2⟩ => by
    have hb : hS.blk b = (H J).blk b := I.blk b fun i k g1 g2 g3 g4 => by rw [g4, I.cf i k J g3 g1 (Nat.le_refl _)] at q2; cases q2
    obtain ⟨e1, e2, e3⟩ := I.early i k (by omega) g2 g3
    have := I.rel.apart (D i) b B x y e' q1 (by rw [e1]; exact e3) (by rw [hb]; exact q2)
    subst this
    rw [I.cf i k J g3 (by omega) (Nat.le_refl _)] at q2
    cases q2
  have wh : ∀ i k B x, J + 1 ≤ i → S i → Mk al E D V W i k → ι (D i) = some (B, x) → B < w.heap.size := fun i k B x g1 g2 g3 e' => by
    obtain ⟨e1, e2, e3⟩ := I.early i k (by omega) g2 g3
    obtain ⟨n, pat, tr, hk⟩ := ownB_ex e3
    obtain ⟨o, Z⟩ := x
    exact blk_lt I.rel e' (e1.trans hk)
  have back : ∀ i k B x, J + 1 ≤ i → S i → Mk al E D V W i k → ι' (D i) = some (B, x) → ι (D i) = some (B, x) := fun i k B x g1 g2 g3 e' => by
    obtain ⟨e1, e2, e3⟩ := I.early i k (by omega) g2 g3
    cases hq : ι (D i) with
    | none => exact absurd hq e2
    | some y => rw [hx.le _ _ hq] at e'; exact e'
  have mix : ∀ i k B x b y, J + 1 ≤ i → S i → Mk al E D V W i k → ι' (D i) = some (B, x) → ι' b = some (B, y) → ownB ((H (J + 1)).blk b) = true → False := fun i k B x b y g1 g2 g3 e' e2 e3 =>
    sep i k B x g1 g2 g3 (back i k B x g1 g2 g3 e') (hx.own B (wh i k B x g1 g2 g3 (back i k B x g1 g2 g3 e')) ⟨b, y, e2, e3⟩)
  have hrel : Rel base ι' hS' w' := by
    refine ⟨fun b q => ?_, hr.low, fun b B o' Z own n pat tr e' hk => ?_, fun b1 b2 B x1 x2 e1 e2 q1 q2 => ?_⟩
    · rw [n1] at q
      refine ⟨(hr.fresh b q).1, ?_⟩
      rcases sp b with ⟨i, k, g1, g2, g3, rfl⟩ | g
      · have := (C.mk_top g3).2; omega
      · rw [g]; exact (hr.fresh b q).2
    · rcases sp b with ⟨i, k, g1, g2, g3, rfl⟩ | g
      · have e1 := back i k B (o', Z) g1 g2 g3 e'
        obtain ⟨f1, f2, f3⟩ := I.early i k (by omega) g2 g3
        rw [n2' i k g1 g2 g3] at hk
        obtain ⟨c, t, fr, p1, p2, p3, p4⟩ := I.rel.blk (D i) B o' Z own n pat tr e1 (f1.trans hk)
        refine ⟨c, t, fr, by rw [hx.keep B (wh i k B (o', Z) g1 g2 g3 e1) (sep i k B (o', Z) g1 g2 g3 e1)]; exact p1, p2, fun m v hm => ?_, p4⟩
        obtain ⟨r1, v', r2, r3⟩ := p3 m v hm
        exact ⟨r1, v', r2, r3.mono hx.le⟩
      · exact hr.blk b B o' Z own n pat tr e' (by rw [← g]; exact hk)
    · rcases sp b1 with ⟨i, k, g1, g2, g3, rfl⟩ | g <;> rcases sp b2 with ⟨j, k', g1', g2', g3', rfl⟩ | g'
      · obtain ⟨f1, f2, f3⟩ := I.early i k (by omega) g2 g3
        obtain ⟨f1', f2', f3'⟩ := I.early j k' (by omega) g2' g3'
        exact I.rel.apart _ _ B x1 x2 (back i k B x1 g1 g2 g3 e1) (back j k' B x2 g1' g2' g3' e2) (by rw [f1]; exact f3) (by rw [f1']; exact f3')
      · exact (mix i k B x1 b2 x2 g1 g2 g3 e1 e2 (by rw [← g']; exact q2)).elim
      · exact (mix j k' B x2 b1 x1 g1' g2' g3' e2 e1 (by rw [← g]; exact q1)).elim
      · exact hr.apart b1 b2 B x1 x2 e1 e2 (by rw [← g]; exact q1) (by rw [← g']; exact q2)
  have x := I.ext
  have notE : ∀ b, b < h0.next → hS.blk b = (H J).blk b ∧ hS'.blk b = (H (J + 1)).blk b := fun b hb =>
    ⟨I.blk b fun i k _ _ m q => by have := (C.mk_top m).1; omega, n3' b fun i k _ _ m q => by have := (C.mk_top m).1; omega⟩
  have hnx : h0.next ≤ (H J).next := by rw [← I.nx]; exact x.next
  refine ⟨hS', hJ, fun e ope h1 h2 => ?_, hrel, ⟨Inj.le_trans x.le hx.le, fun b q e' => ?_, fun b q e' => ?_, by rw [n1]; exact Nat.le_trans hnx hx.next, Nat.le_trans x.size hx.size, fun B hB hno' => ?_, fun B hB ho' => ?_, hx.os.trans x.os, hx.tape.trans x.tape, hx.output.trans x.output⟩,
    n1, big, fun b hb => n3' b fun i k g1 g2 g3 => hb i k g1 (.inr g2) g3, fun j k h1 h2 h3 => ?_, fun j k h1 h2 => ?_, fun j k m h1 h2 h3 => ?_, t1, t2, t3, t4⟩
  · rw [I.stage e ope h1 h2]; omega
  · obtain ⟨q1, q2⟩ := x.old b q e'
    obtain ⟨q3, q4⟩ := notE b q
    obtain ⟨q5, q6⟩ := hx.old b (Nat.lt_of_lt_of_le q hnx) q1
    exact ⟨q5, by rw [q4, q6, ← q3]; exact q2⟩
  · obtain ⟨q3, q4⟩ := notE b q
    rw [q4]
    exact hx.gone b (Nat.lt_of_lt_of_le q hnx) (by rw [← q3]; exact x.gone b q e')
  · rw [hx.keep B (Nat.lt_of_lt_of_le hB x.size) fun q => hno' (x.own B hB (low B q))]
    exact x.keep B hB hno'
  · obtain ⟨b, y, q1, q2⟩ := ho'
    rcases sp b with ⟨i, k, g1, g2, g3, rfl⟩ | g
    · obtain ⟨f1, f2, f3⟩ := I.early i k (by omega) g2 g3
      exact x.own B hB ⟨D i, y, back i k B y g1 g2 g3 q1, by rw [f1]; exact f3⟩
    · exact x.own B hB (low B (hx.own B (Nat.lt_of_lt_of_le hB x.size) ⟨b, y, q1, by rw [← g]; exact q2⟩))
  · have h2' : S j := h2.resolve_left (ne j k h3)
    obtain ⟨f1, f2, f3⟩ := I.early j k (by omega) h2' h3
    refine ⟨n2' j k h1 h2' h3, fun q => ?_, f3⟩
    cases hq : ι (D j) with
    | none => exact f2 hq
    | some y => have := hx.le _ _ hq; rw [q] at this; cases this
  · have h1' : ¬ S j := fun q => h1 (.inr q)
    obtain ⟨f1, f2⟩ := I.late j k h1' h2
    have hlt : D j < (H J).next := by have := (C.mk_top h2).2; have := I.big; omega
    obtain ⟨q1, q2⟩ := hx.old (D j) hlt f1
    refine ⟨q1, fun q => ?_⟩
    rw [q2]
    exact f2 (by have := ne j k h2; omega)
  · by_cases q : m ≤ J
    · exact I.cf j k m h1 h2 q
    · have : m = J + 1 := by omega
      subst this
      exact hx.gone (D j) (by have := (C.mk_top h1).2; have := I.big; omega) (I.cf j k J h1 (by omega) (Nat.le_refl _))
end
end Go.Proofs.Ytgamhgeiceakeaa.Ev
/- The evaluator's soundness: loops; functions; calls. -/
set_option linter.unusedVariables false
namespace Go.Proofs.Ytgamhgeiceakeaa.Ev
section
variable {P : Program}
theorem loop_rounds {call : CallT} {K nt : Nat} {c : Code} {ac : ACode} (h1 : CodeOK P call K nt c ac) (base : Nat) (ds : List Deferred) : ∀ (n : Nat) (ι : Inj) (ρ : Env) (h : Heap) (a : Act) (w : World) (r : R), loopE (exec call K ac) n ρ h = r → r ≠ .fail → Sim base ι ρ h a w nt ds →
    ∀ Q : Exit → Act → World → Prop, (∀ e a' w', ROK base ι h w nt ds r e a' w' → Q e a' w') → Code.rounds P c Q n a w
  | 0, ι, ρ, h, a, w, r, hr, hf, s, Q, hq => absurd hr.symm hf
  | n + 1, ι, ρ, h, a, w, r, hr, hf, s, Q, hq => by
    have he : (@R.rec (fun _ => R) .fail (fun ρ h => loopE (exec call K ac) n ρ h) (fun id ρ h => .exit id ρ h) (fun ρ h => .ret ρ h) (exec call K ac ρ h)) = r := hr
    rw [rounds_succ]
    have hr1 : exec call K ac ρ h ≠ .fail := fun q => by rw [q] at he; exact hf he.symm
    refine wp_mono (h1 base ds ι ρ h a w hr1 s) fun e a' w' hx => ?_
    cases hq1 : exec call K ac ρ h with
    | fail => exact absurd hq1 hr1
    | norm ρ' h' =>
      rw [hq1] at hx he
      obtain ⟨rfl, ι', s', x'⟩ := hx
      exact loop_rounds h1 base ds n ι' ρ' h' a' w' r he hf s' Q fun e a'' w'' q => hq e a'' w'' (q.of_ext x')
    | exit id ρ' h' =>
      rw [hq1] at hx he
      obtain ⟨rfl, ι', s', x'⟩ := hx
      have he' : R.exit id ρ' h' = r := he
      subst he'
      exact hq _ _ _ ⟨rfl, ι', s', x'⟩
    | ret ρ' h' =>
      rw [hq1] at hx he
      obtain ⟨rfl, ι', s', x'⟩ := hx
      have he' : R.ret ρ' h' = r := he
      subst he'
      exact hq _ _ _ ⟨rfl, ι', s', x'⟩
theorem ok_loop {call : CallT} {K nt : Nat} {c : Code} {ac : ACode} (h1 : CodeOK P call K nt c ac) : CodeOK P call K nt (.loop c) (.loop ac) := fun base ds ι ρ h a w hr s =>
  wp_loop_rounds K (loop_rounds h1 base ds K ι ρ h a w _ rfl hr s _ fun _ _ _ q => q)

/-- What is to be shown of regions that draw their order. -/
def DrawOK (P : Program) (call : CallT) (K : Nat) : Prop :=
  ∀ (nt id : Nat) (ops : Array Oper) (l : OpL) (ch : Checks), compOps P nt ops ops.toList = some l → drawChecks ops l = some ch → CodeOK P call K nt (.region id ops true) (.dreg l ch)
theorem comp_ok {call : CallT} {K nt : Nat} (hn : NamesOK P) (hcall : CallsOK P call) (hd : DrawOK P call K) : ∀ (c : Code) (ac : ACode), comp P nt c = some ac → CodeOK P call K nt c ac := by
  intro c
  induction c with
  | skip => intro ac h; cases h; exact ok_skip
  | region id ops dr =>
    intro ac h
    cases dr with
    | false =>
      obtain ⟨l, h1, h⟩ := bind_some h
      have := pure_some h; subst this
      exact ok_reg hn hcall h1
    | true =>
      obtain ⟨l, h1, h⟩ := bind_some h
      obtain ⟨ch, h2, h⟩ := bind_some h
      have := pure_some h; subst this
      exact hd nt id ops l ch h1 h2
  | seq a b iha ihb =>
    intro ac h
    obtain ⟨x, h1, h⟩ := bind_some h
    obtain ⟨y, h2, h⟩ := bind_some h
    have := pure_some h; subst this
    exact ok_seq (iha _ h1) (ihb _ h2)
  | cond x a b iha ihb =>
    intro ac h
    obtain ⟨x', h0, h⟩ := bind_some h
    obtain ⟨a', h1, h⟩ := bind_some h
    obtain ⟨b', h2, h⟩ := bind_some h
    have := pure_some h; subst this
    exact ok_cond h0 (iha _ h1) (ihb _ h2)
  | block id a ih =>
    intro ac h
    obtain ⟨a', h1, h⟩ := bind_some h
    have := pure_some h; subst this
    exact ok_block (ih _ h1)
  | loop a ih =>
    intro ac h
    obtain ⟨a', h1, h⟩ := bind_some h
    have := pure_some h; subst this
    exact ok_loop (ih _ h1)
  | exit id => intro ac h; cases h; exact ok_exit
  | ret => intro ac h; cases h; exact ok_ret
  | rangeFunc f ps a b _ _ => intro ac h; cases h
  | scope a _ => intro ac h; cases h
  | label l => intro ac h; cases h
  | goto l => intro ac h; cases h
  | refuse w => intro ac h; cases h

/-! ### functions -/
theorem val_init : ∀ (l : List Value) (n : Nat) (ρ : Env) (t : Nat), val (initEnv l n ρ) (.t (pos t)) = if n ≤ t ∧ t < n + l.length then (l[t - n]?).getD undefV else val ρ (.t (pos t))
  | [], n, ρ, t => by
    show val ρ (.t (pos t)) = _
    rw [if_neg (by simp)]
  | v :: l, n, ρ, t => by
    show val (initEnv l (n + 1) (put ρ (some (pos n)) v)) (.t (pos t)) = _
    rw [val_init l (n + 1), val_put]
    simp only [List.length_cons]
    by_cases h1 : n + 1 ≤ t ∧ t < n + 1 + l.length
    · rw [if_pos h1, if_pos (by omega), show t - n = (t - (n + 1)) + 1 by omega]
      simp
    · rw [if_neg h1]
      by_cases h2 : t = n
      · subst h2; rw [if_pos rfl, if_pos (by omega)]; simp
      · rw [if_neg (fun q => h2 (pos_inj (Option.some.inj q)).symm), if_neg (by omega)]
theorem env_init {ι : Inj} {args args' : List Value} (h : VRL ι args args') (m : Nat) : EnvR ι (initEnv args 0 .nil) { tmps := ⟨args'⟩ ++ Array.replicate m Go.undef, defers := [] } := fun t => by
  rw [val_init]
  have hl := h.length
  show VR ι _ ((⟨args'⟩ ++ Array.replicate m Go.undef : Array Value).getD t Go.undef)
  rw [Array.getD_eq_getD_getElem?]
  by_cases q : 0 ≤ t ∧ t < 0 + args.length
  · rw [if_pos q]
    obtain ⟨v, hv⟩ : ∃ v, args[t]? = some v := ⟨_, List.getElem?_eq_getElem (by omega)⟩
    obtain ⟨v', hv', hr⟩ := h.get _ _ hv
    rw [Nat.sub_zero, hv, Array.getElem?_append_left (by simp; omega)]
    have : (⟨args'⟩ : Array Value)[t]? = some v' := by simpa using hv'
    rw [this]
    exact hr
  · rw [if_neg q]
    have : val (.nil : Env) (.t (pos t)) = undefV := by
      show (@Option.rec Value (fun _ => Value) undefV (fun v => v) (Tr.get (pos t) (.nil : Tr Value))) = _
      rw [get_nil]
    rw [this, Array.getElem?_append_right (by simp; omega), Array.getElem?_replicate]
    split <;> exact .undef
theorem load_res {base : Nat} {ι : Inj} {h : Heap} {w : World} {ρ : Env} {a : Act} {t : TypeId} {d n : Nat} {f : Heap → Env → Option Value} {v : Value} (r : Rel base ι h w) (e : EnvR ι ρ a) (hf : loadT P t (.t (pos d)) = some (n, f)) (hv : f h ρ = some v) :
    ∃ v', VR ι v v' ∧ (do loadVar t (← asAddr (a.tmps.getD d Go.undef)) : Sem Value).run P w = .ok v' w := by
  obtain ⟨b, hb, hf⟩ := bind_some hf
  cases b with
  | true =>
    obtain ⟨m, hm, hf⟩ := bind_some hf
    obtain ⟨h0, hf⟩ := guard_some hf
    have := pure_some hf
    cases this
    obtain ⟨A, l, l', hq, rfl, g1, g2, g3, g4⟩ := lLoads_at r hv (e d)
    exact ⟨.agg ⟨l'⟩, .agg g1 g2, by rw [hq]; simp [asAddr, loadVar, isAggT_true hb, run_sizeT hm, run_loadN (P := P) g3 g4]⟩
  | false =>
    have := pure_some hf
    cases this
    obtain ⟨_, A, v', hq, h2, h3⟩ := lLoad_at r hv (e d)
    exact ⟨v', h3, by rw [hq]; simp [asAddr, loadVar, isAggT_false hb, h2]⟩
def resSem (tmps : Array Value) : ResultVar → Sem Value
  | .tmp t => pure (tmps.getD t Go.undef)
  | .cell d t => do loadVar t (← asAddr (tmps.getD d Go.undef))
theorem results_eq (fn : Func) (tmps : Array Value) : results fn tmps = (do
    let vs ← fn.results.mapM (resSem tmps)
    pure (if h : vs.size = 1 then vs[0] else .tuple vs)) := by
  unfold results
  have : (fun x : ResultVar => (match x with | .tmp t => pure (tmps.getD t Go.undef) | .cell a t => do loadVar t (← asAddr (tmps.getD a Go.undef)) : Sem Value)) = resSem tmps := by
    funext x
    cases x <;> rfl
  rw [← this]
  rfl
theorem results_run {base : Nat} {ι : Inj} {h : Heap} {w : World} {ρ : Env} {a : Act} (r : Rel base ι h w) (e : EnvR ι ρ a) : ∀ (rv : List ResultVar) (rs : Ress) (l : List Value), compRes P rv = some rs → resOf h ρ rs = some l →
    ∃ l', VRL ι l l' ∧ (rv.mapM (resSem a.tmps)).run P w = .ok l' w
  | [], rs, l, hc, hr => by
    cases hc
    cases hr
    exact ⟨[], .nil, rfl⟩
  | .tmp t :: rv, rs, l, hc, hr => by
    unfold compRes at hc
    obtain ⟨p, hp, hc⟩ := bind_some hc
    obtain ⟨rest, h1, hc⟩ := bind_some hc
    have := pure_some hc; subst this
    rw [posC_eq] at hp
    cases hp
    have hr' : (@Option.rec (List Value) (fun _ => Option (List Value)) none (fun r => some (val ρ (.t (pos t)) :: r)) (resOf h ρ rest)) = some l := hr
    obtain ⟨l0, h2, h3⟩ := optN_some hr'
    cases h3
    obtain ⟨l', g1, g2⟩ := results_run r e rv rest l0 h1 h2
    refine ⟨_ :: l', .cons (e t) g1, ?_⟩
    rw [List.mapM_cons]
    simp only [resSem, Sem.run_bind, Sem.run_pure, Result.andThen_ok]
    rw [g2]
    rfl
  | .cell d t :: rv, rs, l, hc, hr => by
    unfold compRes at hc
    obtain ⟨p, hp, hc⟩ := bind_some hc
    obtain ⟨⟨n, f⟩, h1, hc⟩ := bind_some hc
    obtain ⟨rest, h2, hc⟩ := bind_some hc
    have := pure_some hc; subst this
    rw [posC_eq] at hp
    cases hp
    have hr' : (@Option.rec Value (fun _ => Option (List Value)) none (fun v => @Option.rec (List Value) (fun _ => Option (List Value)) none (fun r => some (v :: r)) (resOf h ρ rest)) (f h ρ)) = some l := hr
    obtain ⟨v, h3, h4⟩ := optN_some hr'
    obtain ⟨l0, h5, h6⟩ := optN_some h4
    cases h6
    obtain ⟨v', g3, g4⟩ := load_res (P := P) r e h1 h3
    obtain ⟨l', g1, g2⟩ := results_run r e rv rest l0 h2 h5
    refine ⟨v' :: l', .cons g3 g1, ?_⟩
    rw [List.mapM_cons]
    simp only [resSem, Sem.run_bind] at g4 ⊢
    rw [g4]
    simp only [Result.andThen_ok]
    rw [g2]
    rfl
theorem resV_VR {ι : Inj} {l l' : List Value} (h : VRL ι l l') : VR ι (resV l) (if h : (⟨l'⟩ : Array Value).size = 1 then (⟨l'⟩ : Array Value)[0] else .tuple ⟨l'⟩) := by
  cases h with
  | nil => exact .tuple .nil
  | cons e r =>
    cases r with
    | nil => exact e
    | cons e2 r2 =>
      rw [dif_neg (by simp)]
      exact .tuple (.cons e (.cons e2 r2))
theorem finish_ok {base : Nat} {ι : Inj} {h h' : Heap} {w : World} {ρ : Env} {a : Act} {fn : Func} {rs : Ress} {v : Value} (r : Rel base ι h w) (e : EnvR ι ρ a) (hc : compRes P fn.results.toList = some rs) (hf : finish ρ h rs = .ok v h') :
    h' = h ∧ ∃ v', VR ι v v' ∧ (results fn a.tmps).run P w = .ok v' w := by
  have hf' : (@Option.rec (List Value) (fun _ => VH) .fail (fun l => .ok (resV l) h) (resOf h ρ rs)) = .ok v h' := hf
  cases hr : resOf h ρ rs with
  | none => rw [hr] at hf'; cases hf'
  | some l =>
    rw [hr] at hf'
    cases hf'
    obtain ⟨l', g1, g2⟩ := results_run (P := P) r e _ _ _ hc hr
    refine ⟨rfl, _, resV_VR g1, ?_⟩
    rw [results_eq, Array.mapM_eq_mapM_toList]
    simp only [Sem.run_bind, Sem.run_map, g2, Result.andThen_ok, Sem.run_pure]
theorem compFunc_some {fn : Func} {af : AFunc} (h : compFunc P fn = some af) : ∃ b c rs, fn.body = some b ∧ comp P fn.ntmps b = some c ∧ compRes P fn.results.toList = some rs ∧ af = .mk fn.ntmps c rs := by
  unfold compFunc at h
  obtain ⟨b, h1, h⟩ := bind_some h
  obtain ⟨c, h2, h⟩ := bind_some h
  obtain ⟨rs, h3, h⟩ := bind_some h
  exact ⟨b, c, rs, h1, h2, h3, pure_some h⟩
theorem tab_some {f : FuncId} {af : AFunc} (h : tab P f = some af) : ∃ fn, P.funcs[f]? = some fn ∧ compFunc P fn = some af := by
  have h' : (@Option.rec Func (fun _ => Option AFunc) none (fun fn => compFunc P fn) (nth P.funcs.toList f)) = some af := h
  obtain ⟨fn, h1, h2⟩ := optN_some h'
  rw [nth_eq] at h1
  exact ⟨fn, by simpa using h1, h2⟩
theorem callF_ok {K : Nat} (hn : NamesOK P) (hd : ∀ call, CallsOK P call → DrawOK P call K) : ∀ n, CallsOK P (callF (tab P) K n)
  | 0 => fun f args h v h' e => by cases e
  | n + 1 => fun f args h v h' e => by
    have ih := callF_ok hn hd n
    have e1 : (@Option.rec AFunc (fun _ => VH) .fail (fun af => AFunc.rec (fun ntmps body results =>
      Bool.rec .fail (R.rec .fail (fun ρ h => finish ρ h results) (fun _ _ _ => .fail) (fun ρ h => finish ρ h results) (exec (callF (tab P) K n) K body (initEnv args 0 .nil) h)) (Nat.ble (len args) ntmps)) af) (tab P f)) = .ok v h' := e
    obtain ⟨af, hta, e2⟩ := optH_some e1
    obtain ⟨fn, hf, hc⟩ := tab_some hta
    obtain ⟨b, c, rs, hb, hcb, hrs, rfl⟩ := compFunc_some hc
    refine ⟨⟨fn, hf, by rw [hb]; rfl⟩, fun base ι w args' r ha => ?_⟩
    obtain ⟨hle, e3⟩ := ifH_some e2
    have hle := ble_le hle
    rw [len_eq, ha.length] at hle
    have hok := comp_ok (K := K) hn ih (hd _ ih) b c hcb
    have hr1 : exec (callF (tab P) K n) K c (initEnv args 0 .nil) h ≠ .fail := fun q => by rw [q] at e3; cases e3
    refine calls_of_wp hf hb ?_
    have hs : Sim base ι (initEnv args 0 .nil) h { tmps := ⟨args'⟩ ++ Array.replicate (fn.ntmps - args'.length) Go.undef, defers := [] } w fn.ntmps [] :=
      ⟨r, env_init ha _, by simp; omega, rfl⟩
    have hsz : (⟨args'⟩ : Array Value).size = args'.length := rfl
    rw [hsz]
    refine wp_mono (hok base [] ι _ h _ w hr1 hs) fun ex a' w' hq => ?_
    cases hx : exec (callF (tab P) K n) K c (initEnv args 0 .nil) h with
    | fail => exact absurd hx hr1
    | norm ρ' h1 =>
      rw [hx] at hq e3
      obtain ⟨rfl, ι', s', x'⟩ := hq
      obtain ⟨rfl, v', g1, g2⟩ := finish_ok (P := P) (fn := fn) s'.rel s'.env hrs e3
      exact ⟨s'.defers, v', g2, ι', v', rfl, g1, s'.rel, x'⟩
    | exit id ρ' h1 => rw [hx] at e3; cases e3
    | ret ρ' h1 =>
      rw [hx] at hq e3
      obtain ⟨rfl, ι', s', x'⟩ := hq
      obtain ⟨rfl, v', g1, g2⟩ := finish_ok (P := P) (fn := fn) s'.rel s'.env hrs e3
      exact ⟨s'.defers, v', g2, ι', v', rfl, g1, s'.rel, x'⟩
end
end Go.Proofs.Ytgamhgeiceakeaa.Ev
/- The evaluator's soundness: regions that draw their order. -/
set_option linter.unusedVariables false
namespace Go.Proofs.Ytgamhgeiceakeaa.Ev
section
variable {P : Program} {call : CallT} {nt : Nat} {ops : Array Oper} {ms : List Nat} {al : List AOp} {E : Nat → Env} {H : Nat → Heap} {D : Nat → Nat} {V : Nat → Value} {W : Nat → Bool}
variable {base : Nat} {ds : List Deferred} {ι0 : Inj} {h0 : Heap} {w0 : World}
variable {S : Nat → Prop} {J : Nat} {ι : Inj} {hS : Heap} {a : Act} {w : World}
theorem SubH.at {h h' : Heap} (s : SubH h h') (n : Nat) (v : Value) : SubAt h h' n v := .of_blk fun b _ k e => s b k e
theorem DInv.top (I : DInv ops al E H D V W nt base ds ι0 h0 w0 S J ι hS a w) : SubH (H J) hS := fun b k e => by
  rw [I.blk b fun i k' g1 g2 g3 g4 => by rw [g4, I.cf i k' J g3 g1 (Nat.le_refl _)] at e; cases e]
  exact e
/-- What leads to a block leads to one that is there. -/
theorem VR.there {v v' : Value} (hv : VR ι v v') {b : Nat} (h : ∃ a : Addr, a.block = b ∧ (v = .pointer (some a) ∨ ∃ m c, v = .slice (some a) m c)) : ι b ≠ none := by
  obtain ⟨a, rfl, rfl | ⟨m, c, rfl⟩⟩ := h
  · cases hv with | ptr e => rw [e]; simp
  · cases hv with | slc e _ _ _ _ => rw [e]; simp
theorem DInv.load (C : Ctx P call nt ops ms al E H D V W) (I : DInv ops al E H D V W nt base ds ι0 h0 w0 S J ι hS a w) {i : Nat} {o : Oper} {looks : Option (AO × Nat)} {f : Heap → Env → Option Value} (hcl : Closed ops S)
    (ho : ops[i]? = some o) (hop : al[i]? = some (.l looks f)) (hns : ¬ S i) (hb : ∀ e ∈ o.after, isBase e = true → S e.on) (hopd : OpdR ι (E i) a o) (hmax : J = ops.size ∨ ∃ op, al[J]? = some op ∧ aopE op = true)
    (hL : LooksOK looks f) (hy : ∀ x n, looks = some (x, n) → ∃ y, y ∈ o.op.operands ∧ cO y = some x) (hf : f (H i) (E i) = some (V i)) : f hS (E i) = some (V i) := by
  have hi : i < ops.size := (Array.getElem?_eq_some_iff.1 ho).1
  obtain ⟨hsee, hchk⟩ : Sees ops ms i true o ∧ ∀ e ope, al[e]? = some ope → aopE ope = true → (if e < i then bit ms i e else bit ms e i) = true ∨ ∃ x n, looks = some (x, n) ∧ SubAt (H e) (H (e + 1)) n (val (E ops.size) x) ∧ SubAt (H (e + 1)) (H e) n (val (E ops.size) x) := C.chk i o _ ho hop
  refine hL (H i) hS (E i) (V i) hf (fun x n hx => ?_) (fun hx => ?_)
  · obtain ⟨y, hy1, hy2⟩ := hy x n hx
    have hvr := hopd y hy1 x hy2
    have hfin : val (E ops.size) x = val (E i) x := by
      rcases cO_some hy2 with ⟨t, rfl, rfl⟩ | ⟨v, rfl, rfl, hg⟩ | ⟨g, rfl, rfl⟩
      · refine C.stays (by omega) (Nat.le_refl _) fun k ok h1 h2 h3 h4 => ?_
        have ht : t ∈ o.looksAt ops := by
          unfold Oper.looksAt
          refine List.mem_append_left _ (List.mem_filterMap.2 ⟨.tmp t, Array.mem_toList_iff.2 ?_, rfl⟩)
          first | exact hy1 | simpa using hy1
        rcases hsee t ht k ok h3 h4 with ⟨q1, _⟩ | ⟨q0, _⟩
        · omega
        · cases q0
      · rfl
      · rfl
    have hE : ∀ e ope, al[e]? = some ope → aopE ope = true → (if e < i then bit ms i e else bit ms e i) ≠ true → SubAt (H e) (H (e + 1)) n (val (E i) x) ∧ SubAt (H (e + 1)) (H e) n (val (E i) x) := fun e ope h1 h2 h3 => by
      rcases hchk e ope h1 h2 with q | ⟨x', n', q1, q2⟩
      · exact absurd q h3
      · rw [hx] at q1; cases q1
        rw [hfin] at q2
        exact q2
    by_cases hij : i ≤ J
    · -- the stage is behind: ahead through those that have run
      have up : ∀ m, i ≤ m → m ≤ J → SubAt (H i) (H m) n (val (E i) x) := by
        intro m him
        induction him with
        | refl => intro _; exact .refl _ _ _
        | @step m him ih =>
          intro hm
          have him' : _ ≤ m := him
          have hm' : m < ops.size := by have := I.le; omega
          obtain ⟨om, opm, hom, hopm⟩ := C.get hm'
          refine (ih (by omega)).trans ?_
          cases hem : aopE opm with
          | true =>
            have hsm : S m := (I.stage m opm hopm hem).2 (by omega)
            refine (hE m opm hopm hem fun q => ?_).1
            rw [if_neg (by omega)] at q
            exact hns (C.closed S hcl m i q hsm)
          | false =>
            rcases C.quiet hopm hem with ⟨hH, _⟩ | ⟨k, mk, hH⟩
            · rw [hH]; exact .refl _ _ _
            · rw [hH]
              refine SubH.at (fun b k' e => ?_) _ _
              rw [blk_put, if_neg (fun q => by rw [q, I.cf m k m mk (Nat.le_refl _) (by omega)] at e; cases e)]
              exact e
      exact (up J hij (Nat.le_refl _)).trans (I.top.at _ _)
    · have down : ∀ m, J ≤ m → m ≤ i → SubAt (H m) hS n (val (E i) x) := by
        intro m him
        induction him with
        | refl => intro _; exact I.top.at _ _
        | @step m him ih =>
          intro hm
          have him' : _ ≤ m := him
          have hm' : m < ops.size := by omega
          obtain ⟨om, opm, hom, hopm⟩ := C.get hm'
          have ih := ih (by omega)
          cases hem : aopE opm with
          | true =>
            have hsm : ¬ S m := fun q => by have := (I.stage m opm hopm hem).1 q; omega
            refine SubAt.trans (hE m opm hopm hem fun q => ?_).2 ih
            rw [if_pos (by omega)] at q
            exact hsm (C.anc hcl ho hb q (by omega))
          | false =>
            rcases C.quiet hopm hem with ⟨hH, _⟩ | ⟨k, mk, hH⟩
            · show SubAt (H (m + 1)) hS n _
              rw [hH]; exact ih
            · show SubAt (H (m + 1)) hS n _
              by_cases q : ∃ a : Addr, a.block = D m ∧ (val (E i) x = .pointer (some a) ∨ ∃ m c, val (E i) x = .slice (some a) m c)
              · have hin := hvr.there q
                have hsm : S m := Classical.byContradiction fun g => hin (I.late m k g mk).1
                refine .of_blk fun b hbb k' e => ?_
                have hbe : b = D m := by
                  obtain ⟨a1, r1, r2⟩ := q
                  obtain ⟨a2, r3, r4⟩ := hbb
                  rcases r2 with r2 | ⟨_, _, r2⟩ <;> rcases r4 with r4 | ⟨_, _, r4⟩ <;> rw [r2] at r4 <;> cases r4 <;> exact r3.symm.trans r1
                subst hbe
                rw [hH, blk_put, if_pos rfl] at e
                cases e
                exact (I.early m k him hsm mk).1
              · refine SubAt.trans (.of_blk fun b hbb k' e => ?_) ih
                rw [hH, blk_put, if_neg (show ¬ b = D m from fun g => q (by rw [← g]; exact hbb))] at e
                exact e
      exact down i (by omega) (Nat.le_refl _)
  · -- all with effects stand in an order to it
    have hord : ∀ e ope, al[e]? = some ope → aopE ope = true → (e < i → S e) ∧ (i < e → ¬ S e) := fun e ope h1 h2 => by
      rcases hchk e ope h1 h2 with q | ⟨x', n', q1, _⟩
      · refine ⟨fun g => ?_, fun g g' => ?_⟩
        · rw [if_pos g] at q; exact C.anc hcl ho hb q (by omega)
        · rw [if_neg (by omega)] at q; exact hns (C.closed S hcl e i q g')
      · rw [hx] at q1; cases q1
    have hij : i ≤ J := by
      rcases hmax with q | ⟨op, h1, h2⟩
      · omega
      · rcases Nat.lt_or_ge J i with g | g
        · have := (I.stage J op h1 h2).1 ((hord J op h1 h2).1 g); omega
        · exact g
    have up : ∀ m, i ≤ m → m ≤ J → SubH (H i) (H m) := by
      intro m him
      induction him with
      | refl => intro _; exact .refl _
      | @step m him ih =>
        intro hm
        have him' : _ ≤ m := him
        have hm' : m < ops.size := by have := I.le; omega
        obtain ⟨om, opm, hom, hopm⟩ := C.get hm'
        refine (ih (by omega)).trans ?_
        cases hem : aopE opm with
        | true =>
          have hsm : S m := (I.stage m opm hopm hem).2 (by omega)
          have hne : m ≠ i := fun q => hns (q ▸ hsm)
          exact absurd hsm ((hord m opm hopm hem).2 (by omega))
        | false =>
          rcases C.quiet hopm hem with ⟨hH, _⟩ | ⟨k, mk, hH⟩
          · show SubH (H m) (H (m + 1)); rw [hH]; exact .refl _
          · show SubH (H m) (H (m + 1)); rw [hH]
            intro b k' e
            rw [blk_put, if_neg (fun q => by rw [q, I.cf m k m mk (Nat.le_refl _) (by omega)] at e; cases e)]
            exact e
    exact (up J hij (Nat.le_refl _)).trans I.top
/-- One operation more, in whatever order. -/
theorem DInv.step (hn : NamesOK P) (hcall : CallsOK P call) (C : Ctx P call nt ops ms al E H D V W) (hd0 : D 0 = h0.next) (I : DInv ops al E H D V W nt base ds ι0 h0 w0 S J ι hS a w) {i : Nat} {o : Oper} (hcl : Closed ops S)
    (ho : ops[i]? = some o) (hns : ¬ S i) (hb : ∀ e ∈ o.after, isBase e = true → S e.on) (hmax : J = ops.size ∨ ∃ op, al[J]? = some op ∧ aopE op = true) {Q : Exit → Act → World → Prop} {K : Act → World → Prop}
    (hK : ∀ J' ι' hS' a' w', DInv ops al E H D V W nt base ds ι0 h0 w0 (fun j => j = i ∨ S j) J' ι' hS' a' w' → K a' w') : wpOp P ops Q i K a w := by
  have hi : i < ops.size := (Array.getElem?_eq_some_iff.1 ho).1
  obtain ⟨_, op, _, hop⟩ := C.get hi
  obtain ⟨hc, hdst, _, _, hW, hU, hG⟩ := C.step ho hop
  have hsee : ∀ t, t ∈ o.looksAt ops → VR ι (val (E i) (.t (pos t))) (a.tmps.getD t undef) := fun t ht => by
    have hk := C.chk i o op ho hop
    cases op with
    | l looks f => exact I.seen C hcl ho hns hb hk.1 ht
    | p f => exact I.seen (firm := false) C hcl ho hns hb hk ht
    | n f => exact I.seen (firm := false) C hcl ho hns hb hk ht
    | e f => exact I.seen (firm := false) C hcl ho hns hb hk ht
    | call f x => exact I.seen (firm := false) C hcl ho hns hb hk ht
    | callv x y => exact I.seen (firm := false) C hcl ho hns hb hk ht
  have hopd := opd_of hsee
  have hwant : Region.wanted o (yielded ops a.tmps) = W i := by
    rcases hG with ⟨hg, hw⟩ | ⟨j, w, oj, g, hg, hj, hjd, hw⟩
    · rw [hw]; simp [Region.wanted, hg]
    · rw [hw]
      refine wanted_of (hsee g ?_) hg hj hjd
      unfold Oper.looksAt
      refine List.mem_append_right _ ?_
      simp [hg, hj, hjd]
  have hstage : aopE op = true → J = i := fun he => by
    have h1 : ¬ i < J := fun q => hns ((I.stage i op hop he).2 q)
    rcases Nat.lt_or_ge J i with g | g
    · rcases hmax with q | ⟨opJ, g1, g2⟩
      · omega
      · have := C.tot J i opJ op g1 hop g2 he g
        have := (I.stage J opJ g1 g2).1 (C.anc hcl ho hb this (by omega))
        omega
    · omega
  unfold wpOp
  rw [ho]
  simp only [hwant]
  cases hw : W i with
  | false =>
    obtain ⟨hv, hH⟩ := hU hw
    rw [if_neg (by simp)]
    have hvr : VR ι (V i) undef := by rw [hv]; exact VR.undef
    cases he : aopE op with
    | false =>
      exact hK _ _ _ _ _ (I.quiet C ho hop he hns (fun k m => by obtain ⟨f, _, q, _⟩ := m; rw [hw] at q; cases q) hvr I.rel (.refl _ _ _))
    | true =>
      have := hstage he
      subst this
      have hr : Rel base ι (H J) w := I.rel.less (fun b => by
        cases hq : (H J).blk b with
        | none => exact .inr rfl
        | some k => exact .inl (by rw [I.top b k hq])) I.nx.symm
      obtain ⟨hS', I'⟩ := I.eff C hd0 ho hop he hns hvr (by rw [hH]; exact hr) (by rw [hH]; exact .refl _ _ _)
      exact hK _ _ _ _ _ I'
  | true =>
    rw [if_pos rfl]
    have hD := hW hw
    have hOp := compOp_ok hc
    refine .inl ?_
    cases he : aopE op with
    | true =>
      have := hstage he
      subst this
      have hr : Rel base ι (H J) w := I.rel.less (fun b => by
        cases hq : (H J).blk b with
        | none => exact .inr rfl
        | some k => exact .inl (by rw [I.top b k hq])) I.nx.symm
      have hE : opE call (E J) (H J) op = .ok (V J) (H (J + 1)) := by
        cases op with
        | e f => exact hD
        | call f x => exact hD
        | callv x y => exact hD
        | p f => cases he
        | l x f => cases he
        | n f => cases he
      refine op_wp hn hcall hOp hr hopd hE fun ι' v' w' g1 g2 g3 => ?_
      obtain ⟨hS', I'⟩ := I.eff C hd0 ho hop he hns g1 g2 g3
      exact hK _ _ _ _ _ I'
    | false =>
      cases op with
      | p f =>
        have hE : opE call (E i) hS (.p f) = .ok (V i) hS := by
          have := (pv_some hD).1
          show pv hS (f (E i)) = _
          rw [this]; rfl
        refine op_wp hn hcall hOp I.rel hopd hE fun ι' v' w' g1 g2 g3 => ?_
        exact hK _ _ _ _ _ (I.quiet C ho hop he hns (fun k m => by obtain ⟨f, q, _⟩ := m; rw [hop] at q; cases q) g1 g2 g3)
      | l looks f =>
        have hE : opE call (E i) hS (.l looks f) = .ok (V i) hS := by
          have := I.load C hcl ho hop hns hb hopd hmax hOp.2.1 hOp.2.2 (pv_some hD).1
          show pv hS (f hS (E i)) = _
          rw [this]; rfl
        refine op_wp hn hcall hOp I.rel hopd hE fun ι' v' w' g1 g2 g3 => ?_
        exact hK _ _ _ _ _ (I.quiet C ho hop he hns (fun k m => by obtain ⟨f, q, _⟩ := m; rw [hop] at q; cases q) g1 g2 g3)
      | n f =>
        have h1' : (@VB.rec (fun _ => VH) .fail (fun v b => .ok v ((H i).put (D i) b)) (f (E i) (D i))) = VH.ok (V i) (H (i + 1)) := hD
        cases hb : f (E i) (D i) with
        | fail => rw [hb] at h1'; cases h1'
        | ok v k =>
          rw [hb] at h1'
          have h1'' : VH.ok v ((H i).put (D i) k) = VH.ok (V i) (H (i + 1)) := h1'
          injection h1'' with e1 e2
          subst e1
          have m : Mk al E D V W i k := ⟨f, hop, hw, hb⟩
          obtain ⟨v', w', Z, g1, g2, g3⟩ := hOp ι (E i) a w (D i) (V i) k hopd (I.late i k hns m).1 hb
          unfold Oper.wp
          rw [g2]
          exact hK _ _ _ _ _ (I.make C hd0 ho hop he hns m g1 g3)
      | e f => cases he
      | call f x => cases he
      | callv x y => cases he
end
end Go.Proofs.Ytgamhgeiceakeaa.Ev
/- The evaluator's soundness: regions that draw their order, whole; the evaluator is sound. -/
set_option linter.unusedVariables false
namespace Go.Proofs.Ytgamhgeiceakeaa.Ev
section
variable {P : Program} {call : CallT} {nt : Nat} {ops : Array Oper} {ms : List Nat} {al : List AOp} {E : Nat → Env} {H : Nat → Heap} {D : Nat → Nat} {V : Nat → Value} {W : Nat → Bool}
variable {base : Nat} {ds : List Deferred} {ι0 : Inj} {h0 : Heap} {w0 : World}
theorem Ext.congr {ι : Inj} {h h' : Heap} {w : World} (x : Ext ι0 h0 w0 ι h w) (hb : ∀ b, h'.blk b = h.blk b) (hn : h'.next = h.next) : Ext ι0 h0 w0 ι h' w :=
  ⟨x.le, fun b q e => by rw [hb]; exact x.old b q e, fun b q e => by rw [hb]; exact x.gone b q e, by rw [hn]; exact x.next, x.size, x.keep, fun B hB ⟨b, o, e, q⟩ => x.own B hB ⟨b, o, e, by rw [← hb]; exact q⟩, x.os, x.tape, x.output⟩
/-- All have run: the state is the evaluator's. -/
theorem DInv.done (C : Ctx P call nt ops ms al E H D V W) (hd0 : D 0 = h0.next) {S : Nat → Prop} {J : Nat} {ι : Inj} {hS : Heap} {a : Act} {w : World} (I : DInv ops al E H D V W nt base ds ι0 h0 w0 S J ι hS a w) (hall : ∀ i, i < ops.size → S i) :
    Sim base ι (E ops.size) (H ops.size) a w nt ds ∧ Ext ι0 h0 w0 ι (H ops.size) w := by
  obtain ⟨J', hS', I', hmax⟩ := I.advs C hd0 (ops.size - J) J hS (Nat.le_refl _)
  have hJ : J' = ops.size := by
    rcases hmax with q | ⟨op, h1, h2⟩
    · exact q
    · have hlt : J' < ops.size := by have := (List.getElem?_eq_some_iff.1 h1).1; rw [C.len] at this; exact this
      have := (I'.stage J' op h1 h2).1 (hall J' hlt)
      omega
  subst hJ
  have hb : ∀ b, (H ops.size).blk b = hS'.blk b := fun b => (I'.blk b fun i k g1 _ g3 _ => by have := g3.lt; rw [C.len] at this; omega).symm
  refine ⟨⟨I'.rel.congr hb I'.nx.symm, fun t => ?_, I'.size, I'.defers⟩, I'.ext.congr hb I'.nx.symm⟩
  by_cases q : ∃ (j : Nat) (oj : Oper), ops[j]? = some oj ∧ oj.dst = some t
  · obtain ⟨j, oj, h1, h2⟩ := q
    have hj : j < ops.size := (Array.getElem?_eq_some_iff.1 h1).1
    rw [C.told h1 h2 hj (Nat.le_refl _)]
    exact I'.envS j oj t (hall j hj) h1 h2
  · rw [C.first (Nat.le_refl _) fun k o' _ h4 h5 => q ⟨k, o', h4, h5⟩]
    exact I'.env t fun k o' _ h4 h5 => q ⟨k, o', h4, h5⟩
theorem any_wp (hn : NamesOK P) (hcall : CallsOK P call) (C : Ctx P call nt ops ms al E H D V W) (hd0 : D 0 = h0.next) {md : Region.Mode} {L : List Nat} (htopo : topoOk md ops L [] = true) {Q : Exit → Act → World → Prop}
    (hQ : ∀ ι a w, Sim base ι (E ops.size) (H ops.size) a w nt ds → Ext ι0 h0 w0 ι (H ops.size) w → Q .normal a w) :
    ∀ (fuel : Nat) (listed : Array Bool) (a : Act) (w : World) (J : Nat) (ι : Inj) (hS : Heap), listed.size = ops.size → listed.toList.count false ≤ fuel → Closed ops (fun i => listed.getD i false = true) →
      DInv ops al E H D V W nt base ds ι0 h0 w0 (fun i => listed.getD i false = true) J ι hS a w → wpAny P md ops Q fuel listed a w := by
  have hall0 : ∀ (listed : Array Bool), listed.size = ops.size → Region.ready md ops listed = [] → ∀ i, i < ops.size → listed.getD i false = true := fun listed hsz hr =>
    topo_ok hsz hr L [] htopo (fun i hi => by cases hi)
  intro fuel
  induction fuel with
  | zero =>
    intro listed a w J ι hS hsz hc hcl I
    have hall : ∀ i, i < ops.size → listed.getD i false = true := fun i hi => by
      have hi' : i < listed.size := by omega
      rw [Array.getD_eq_getD_getElem?, Array.getElem?_eq_getElem hi', Option.getD_some]
      cases hq : listed[i] with
      | true => rfl
      | false =>
        have : false ∈ listed.toList := by rw [← hq]; exact Array.mem_toList_iff.2 (Array.getElem_mem hi')
        have := List.count_pos_iff.2 this
        omega
    obtain ⟨s, x⟩ := I.done C hd0 hall
    refine ⟨?_, hQ ι a w s x⟩
    unfold Region.ready
    refine List.filter_eq_nil_iff.2 fun i hi => ?_
    have hi2 : i < ops.size := by simpa using hi
    have h1 := hall i hi2
    have hi' : i < listed.size := by omega
    rw [Array.getD_eq_getD_getElem?, Array.getElem?_eq_getElem hi', Option.getD_some] at h1
    rw [Array.getD_eq_getD_getElem?, Array.getElem?_eq_getElem hi', Option.getD_some, h1]
    simp
  | succ fuel ih =>
    intro listed a w J ι hS hsz hc hcl I
    refine ⟨fun hr => ?_, fun i hi => ?_⟩
    · obtain ⟨s, x⟩ := I.done C hd0 (hall0 listed hsz hr)
      exact hQ ι a w s x
    · obtain ⟨h1, h2, o, ho, hb⟩ := ready_spec hsz hi
      have hi' : i < listed.size := by omega
      obtain ⟨J', hS', I', hmax⟩ := I.advs C hd0 (ops.size - J) J hS (Nat.le_refl _)
      refine I'.step hn hcall C hd0 hcl ho (by rw [h2]; simp) hb hmax fun J2 ι2 hS2 a2 w2 I2 => ?_
      have hset : (fun j => (listed.setIfInBounds i true).getD j false = true) = (fun j => j = i ∨ listed.getD j false = true) := by
        funext j
        exact propext (listed_set hi' j)
      refine ih (listed.setIfInBounds i true) a2 w2 J2 ι2 hS2 (by simpa using hsz) ?_ ?_ (by rw [hset]; exact I2)
      · have hl : listed.toList[i]'(by simpa using hi') = false := by
          rw [Array.getD_eq_getD_getElem?, Array.getElem?_eq_getElem hi', Option.getD_some] at h2
          simpa using h2
        rw [Array.toList_setIfInBounds, List.count_set (by simpa using hi'), hl]
        simp
        have : 0 < listed.toList.count false := List.count_pos_iff.2 (by rw [← hl]; exact List.getElem_mem _)
        simp at this hc
        omega
      · rw [hset]
        exact closed_more hcl ho hb
theorem drop_succ (e : Nat) : ∀ hs : Hs, Hs.drop (e + 1) hs = (Hs.drop e hs).tail := by
  induction e with
  | zero => intro hs; cases hs <;> rfl
  | succ e ih =>
    intro hs
    cases hs with
    | nil h => 
      show Hs.nil h = (Hs.nil h).tail
      rfl
    | cons h r =>
      show Hs.drop (e + 1) r = (Hs.drop e r).tail
      exact ih r
theorem draw_ok (hn : NamesOK P) (hcall : CallsOK P call) (K : Nat) : DrawOK P call K := fun nt id ops l ch hc hk base ds ι ρ h a w hr s => by
  unfold drawChecks at hk
  obtain ⟨k1, hk⟩ := guard_some hk
  obtain ⟨k2, hk⟩ := guard_some hk
  obtain ⟨k3, hk⟩ := guard_some hk
  obtain ⟨k4, hk⟩ := guard_some hk
  have hr' : (@RD.rec (fun _ => R) .fail (fun ρ' hs => @Bool.rec (fun _ => R) .fail (.norm ρ' hs.last) (drawOk ρ' hs ch)) (opsD call l ρ (h.keep (countN l)) h.next)) ≠ .fail := hr
  cases hq : opsD call l ρ (h.keep (countN l)) h.next with
  | fail => rw [hq] at hr'; exact absurd rfl hr'
  | ok ρ' hs =>
    rw [hq] at hr'
    cases hd : drawOk ρ' hs ch with
    | false =>
      have hr2 : (@Bool.rec (fun _ => R) .fail (.norm ρ' hs.last) (drawOk ρ' hs ch)) ≠ .fail := hr'
      rw [hd] at hr2; exact absurd rfl hr2
    | true =>
      have hres : exec call K (.dreg l ch) ρ h = .norm ρ' hs.last := by
        show (@RD.rec (fun _ => R) .fail (fun ρ' hs => @Bool.rec (fun _ => R) .fail (.norm ρ' hs.last) (drawOk ρ' hs ch)) (opsD call l ρ (h.keep (countN l)) h.next)) = _
        rw [hq]
        show (@Bool.rec (fun _ => R) .fail (.norm ρ' hs.last) (drawOk ρ' hs ch)) = _
        rw [hd]
      rw [hres]
      obtain ⟨hlen, E, H, D, V, W, cn, e0, e1, e2, e3, e4, e5, e6⟩ := opsD_canon ops.toList l ρ ρ' _ _ hs hc hq
      rw [Array.length_toList (xs := ops)] at hlen e3 e4 e5 e6
      have C : Ctx P call nt ops (masks ops.toList []) (opList l) E H D V W := by
        refine ⟨cn, hlen, fun i j oi oj t h1 h2 h3 h4 => ?_, fun i j oi oj h1 h2 h3 h4 h5 => ?_, fun i o op h1 h2 => ?_, fun S hS i j hb hi => masks_closed hS hb hi⟩
        · refine nodupT_spec k2 (d := t) ?_ ?_
          · have := dstsOf_mem ops.toList 0 i oi t (by simpa using h1) h3
            rwa [Nat.zero_add] at this
          · have := dstsOf_mem ops.toList 0 j oj t (by simpa using h2) h4
            rwa [Nat.zero_add] at this
        · have m1 := effects_mem (opList l) 0 i oi h1 h3
          have m2 := effects_mem (opList l) 0 j oj h2 h4
          rw [Nat.zero_add] at m1 m2
          have := List.all_eq_true.1 (List.all_eq_true.1 k1 j m2) i m1
          simp only [Bool.or_eq_true, decide_eq_true_eq] at this
          rcases this with q | q
          · omega
          · exact q
        · have := checks_ok hk hd i o op (by simpa using h1) h2
          rw [Nat.zero_add] at this
          cases op with
          | l looks f =>
            refine ⟨this.1, fun e ope g1 g2 => ?_⟩
            have m := effects_mem (opList l) 0 e ope g1 g2
            rw [Nat.zero_add] at m
            rcases this.2 e m with q | ⟨x, n, q1, q2⟩
            · exact .inl q
            · refine .inr ⟨x, n, q1, ?_⟩
              have he : e < ops.size := by have := (List.getElem?_eq_some_iff.1 g1).1; rw [hlen] at this; exact this
              rw [← drop_succ, e6 e (by omega), e6 (e + 1) (by omega)] at q2
              rw [e3]
              exact chk1_sub q2
          | p f => exact this
          | n f => exact this
          | e f => exact this
          | call f x => exact this
          | callv x y => exact this
      have hd0 : D 0 = h.next := e2
      have hI : DInv ops (opList l) E H D V W nt base ds ι h w (fun i => (Array.replicate ops.size false).getD i false = true) 0 ι (h.keep (countN l)) a { w with drawn := w.drawn + 1 } := by
        have hno : ∀ i, ¬ ((Array.replicate ops.size false).getD i false = true) := fun i q => by
          rw [Array.getD_eq_getD_getElem?, Array.getElem?_replicate] at q
          split at q <;> cases q
        have hbk := blk_keep h (countN l)
        refine ⟨Nat.zero_le _, fun e op _ _ => ⟨fun q => absurd q (hno e), fun q => absurd q (Nat.not_lt_zero _)⟩, ?_, ?_, by rw [e1], by rw [e1, next_keep, e4]; exact Nat.le_refl _, fun b _ => by rw [e1], fun i k _ q => absurd q (hno i), fun i k _ m => ?_, fun i k m mk _ hm => ?_, fun t _ => by rw [e0]; exact s.env t, fun i o t q => absurd q (hno i), s.size, s.defers⟩
        · refine Rel.drew ?_ _
          exact ⟨fun b q => by rw [hbk]; rw [next_keep] at q; exact s.rel.fresh b (by omega), s.rel.low, fun b B o S own n pat tr e q => s.rel.blk b B o S own n pat tr e (by rw [← hbk]; exact q), fun b b' B x x' g1 g2 g3 g4 => s.rel.apart b b' B x x' g1 g2 (by rw [← hbk]; exact g3) (by rw [← hbk]; exact g4)⟩
        · refine Ext.trans (Ext.drew ι h w (w.drawn + 1)) ?_
          exact ⟨Inj.le_refl _, fun b q e => ⟨e, hbk b⟩, fun b q e => by rw [hbk]; exact e, by rw [next_keep]; omega, Nat.le_refl _, fun _ _ _ => rfl, fun B _ ⟨b, o, q1, q2⟩ => ⟨b, o, q1, by rw [← hbk]; exact q2⟩, rfl, rfl, rfl⟩
        · refine ⟨(s.rel.fresh (D i) ?_).1, fun q => absurd q (Nat.not_lt_zero _)⟩
          rw [← hd0]; exact (C.mk_top m).1
        · have : m = 0 := by omega
          subst this
          rw [e1, hbk]
          refine (s.rel.fresh (D i) ?_).2
          rw [← hd0]; exact (C.mk_top mk).1
      have hcl0 : Closed ops (fun i => (Array.replicate ops.size false).getD i false = true) := fun i o _ q => by
        have q : (Array.replicate ops.size false).getD i false = true := q
        rw [Array.getD_eq_getD_getElem?, Array.getElem?_replicate] at q
        split at q <;> cases q
      have go : ∀ (md : Region.Mode) (L : List Nat), topoOk md ops L [] = true → ∀ t, wpOps P ops (ROK base ι h w nt ds (.norm ρ' hs.last)) (Region.linearise md ops t) a { w with drawn := w.drawn + 1 } := fun md L ht t => by
        unfold Region.linearise
        refine wpAny_sound ops.size t _ a _ ?_
        refine any_wp (ι0 := ι) (h0 := h) (w0 := w) (base := base) (ds := ds) hn hcall C hd0 ht (fun ι' a' w' s' x' => ?_) ops.size (Array.replicate ops.size false) a _ 0 ι (h.keep (countN l)) (by simp) (by simp) hcl0 hI
        rw [e3] at s'
        rw [← e5] at s' x'
        exact ⟨rfl, ι', s', x'⟩
      refine wp_region_draw fun t => ?_
      unfold Region.schedule
      split
      · exact go .any _ (topo_any k3) t
      · rename_i hm
        simp only [Bool.or_eq_true, not_or, Bool.not_eq_true', Bool.not_eq_false] at hm
        rw [if_pos (by simpa using hm.2)] at k4
        split
        · exact go .text _ k3 _
        · exact go .gc _ k4 _
def namesOK (P : Program) : Bool := P.funcs.toList.all fun fn => !(fn.name == "runtime.NumGoroutine")
theorem names_ok (h : namesOK P = true) : NamesOK P := fun f fn hf => by
  have := List.all_eq_true.1 h fn (Array.mem_toList_iff.2 (Array.mem_of_getElem? hf))
  simpa using this
/-- THE EVALUATOR IS SOUND. -/
theorem sound (h : namesOK P = true) (K : Nat) (n : Nat) : CallsOK P (callF (tab P) K n) :=
  callF_ok (names_ok h) (fun call hc => draw_ok (names_ok h) hc K) n
end
end Go.Proofs.Ytgamhgeiceakeaa.Ev
/- The evaluator and the rows: a call that hands back true and leaves what was there. -/
set_option linter.unusedVariables false
namespace Go.Proofs.Ytgamhgeiceakeaa.Ev
open Go.RowKit
/-- has the evaluator come to true? -/
noncomputable def isTrue (x : VH) : Bool := VH.rec false (fun v _ => Option.rec false (fun b => b) (boolOf v)) x
/-- the heap of a call that is to make its own blocks alone: the first n numbers are the arguments' -/
def bare (n : Nat) : Heap := ⟨n, .nil⟩
theorem isTrue_eq {x : VH} (h : isTrue x = true) : ∃ h', x = .ok (.bool true) h' := by
  cases x with
  | fail => cases h
  | ok v h' =>
    cases v with
    | bool b => cases b with
      | false => cases h
      | true => exact ⟨h', rfl⟩
    | _ => cases h
theorem bare_blk (n b : Nat) : (bare n).blk b = none := get_nil _
theorem run_true {P : Program} (hn : namesOK P = true) {K n m f : Nat} {args args' : List Value} {ι : Inj} (hι : ∀ b, m ≤ b → ι b = none) (ha : VRL ι args args') (he : isTrue (callF (tab P) K n f args (bare m)) = true) (w : World) :
    Calls P f ⟨args'⟩ w fun e w' => e = .returned (.bool true) ∧ Below w.heap.size w w' := by
  obtain ⟨h', hq⟩ := isTrue_eq he
  have r : Rel w.heap.size ι (bare m) w :=
    ⟨fun b hb => ⟨hι b hb, bare_blk m b⟩, Nat.le_refl _, fun b B o S own n' pat tr _ hk => (by rw [bare_blk] at hk; cases hk), fun b b' B x x' _ _ hk => (by rw [bare_blk] at hk; cases hk)⟩
  refine ((sound hn K n f args _ _ _ hq).2 w.heap.size ι w args' r ha).mono fun e w' ⟨ι', v', g1, g2, g3, g4⟩ => ?_
  refine ⟨by cases g2; exact g1, g4.os, g4.tape, g4.output, g4.size, fun k hk => g4.keep k hk fun ⟨b, x, _, q⟩ => ?_⟩
  rw [bare_blk] at q
  cases q
end Go.Proofs.Ytgamhgeiceakeaa.Ev
namespace Go.Proofs.Ytgamhgeiceakeaa.Ev
open Go.ChangeShapes Go.WideShapes Go.RowKit
/-- 'post' of a call behind which all that was there is as it was. -/
theorem post_of_below {H : Type} {enc : TypeId × Value → H} {P : Program} {f : Func} {s : ChangeSpec} {apart fresh handsOn again : Bool} {W W' : World} {args : Array Value} {v : Value} {ds gs : List (DataW H)} {before pa pv : List MemPlace}
    (hW : DataW.Whole enc P f.params.toList s.vars apart W args.toList ds gs before)
    (hres : ∀ (b : Nat) (sp : Nat → Bool) (hd : Bool), DataW.TrodAll enc P W' b sp hd f.resultTypes.toList (v.resultList f.resultTypes.size) (s.fn H (ds ++ gs)).results [])
    (hargs : ∀ sp : Nat → Bool, (∀ p ∈ before, sp p.block = true) → DataW.TrodAll enc P W' 0 sp true f.params.toList args.toList (s.fn H (ds ++ gs)).args pa)
    (hvars : ∀ sp : Nat → Bool, (∀ p ∈ before, sp p.block = true) → DataW.TrodVars enc P W' sp s.vars (s.fn H (ds ++ gs)).vars pv)
    (hps : before = pa ++ pv) (hb : Below W.heap.size W W')
    (hok : ∀ (j : Nat) (t : TypeId) (r : Value), f.resultTypes[j]? = some t → (v.resultList f.resultTypes.size)[j]? = some r → Value.okWide P W' .any 0 t r) :
    s.post enc P f apart fresh handsOn again W args v W' := by
  have hlt := hW.lt
  have hold : ∀ p ∈ before, (fun b => decide (b < W.heap.size)) p.block = true := fun p hp => by simpa using hlt p hp
  refine ⟨ds, gs, before, [], pa, pv, hW, hres _ _ _, hargs _ hold, hvars _ hold, World.keptBut_mono (fun p hp => ⟨hp, ?_⟩) (hb.frame (· ∈ before)), fun _ => ?_⟩
  · rw [hps, List.mem_append] at hp
    exact Or.inr hp
  · obtain ⟨_, _, _, _, _, hz, hn⟩ := hW
    refine ⟨hok, _, _, ([] ++ pa) ++ pv, ⟨[] ++ pa, pv, trodAll_append (hargs _ (fun _ _ => rfl)) (hres _ _ _), hvars _ (fun _ _ => rfl), rfl, ?_, ?_⟩, ?_⟩
    · intro b off hp
      have hm : MemPlace.cell b off ∈ before := by rw [hps]; simpa using hp
      have hq := hlt _ hm
      rw [hb.frozen (p := ⟨b, off, none⟩) hq]
      exact hz b off hm
    · intro ha
      have := hn ha
      rw [hps] at this
      simpa using this
    · intro p hp _
      rw [hps]
      simpa using hp
end Go.Proofs.Ytgamhgeiceakeaa.Ev
