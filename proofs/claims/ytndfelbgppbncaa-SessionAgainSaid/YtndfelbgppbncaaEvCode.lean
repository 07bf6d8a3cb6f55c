/- The evaluator's soundness: operations one behind the other. -/
import Derived.Test.YtndfelbgppbncaaEvComp2
set_option linter.unusedVariables false
namespace Go.Proofs.Ytndfelbgppbncaa.Ev
/-- No function of the program is one that the machine answers otherwise. -/
def NamesOK (P : Program) : Prop := ∀ (f : Nat) (fn : Func), P.funcs[f]? = some fn → (fn.name == "runtime.NumGoroutine") = false
/-- What 'call' answers is what the program's calls come to. -/
def CallsOK (P : Program) (call : CallT) : Prop :=
  ∀ f args h v h', call f args h = .ok v h' → (∃ fn : Func, P.funcs[f]? = some fn ∧ fn.body.isSome = true) ∧
    ∀ base ι w args', Rel base ι h w → VRL ι args args' →
      Calls P f ⟨args'⟩ w fun e w' => ∃ ι' v', e = .returned v' ∧ VR ι' v v' ∧ Rel base ι' h' w' ∧ Ext ι h w ι' h' w'
section
variable {P : Program}
theorem val_put {ρ : Env} {d : Option Pos} {v : Value} (t : Nat) : val (put ρ d v) (.t (pos t)) = if d = some (pos t) then v else val ρ (.t (pos t)) := by
  cases d with
  | none => rfl
  | some p =>
    show (@Option.rec Value (fun _ => Value) undefV (fun v => v) (Tr.get (pos t) (Tr.set v p ρ))) = _
    rw [get_set]
    by_cases q : pos t = p
    · subst q; rw [if_pos rfl, if_pos rfl]
    · rw [if_neg q, if_neg (fun e => q (Option.some.inj e).symm)]; rfl
theorem EnvR.put {ι : Inj} {ρ : Env} {a : Act} (e : EnvR ι ρ a) {dst : Option Tmp} {v v' : Value} (hv : VR ι v v') (hd : ∀ d, dst = some d → d < a.tmps.size) : EnvR ι (Ev.put ρ (dst.map pos) v) (a.put dst v') := fun t => by
  rw [val_put]
  cases dst with
  | none => rw [if_neg (by simp)]; exact e t
  | some d =>
    have hlt := hd d rfl
    rw [Option.map_some]
    by_cases q : d = t
    · subst q
      rw [if_pos rfl]
      simp only [Act.put, Array.getD_eq_getD_getElem?, Array.getElem?_setIfInBounds_self_of_lt hlt]
      exact hv
    · rw [if_neg (fun h => q (pos_inj (Option.some.inj h)))]
      simp only [Act.put, Array.getD_eq_getD_getElem?, Array.getElem?_setIfInBounds_ne q]
      have := e t
      simpa [Array.getD_eq_getD_getElem?] using this
theorem put_size (a : Act) (dst : Option Tmp) (v : Value) : (a.put dst v).tmps.size = a.tmps.size := by
  cases dst <;> simp [Act.put]
theorem put_defers (a : Act) (dst : Option Tmp) (v : Value) : (a.put dst v).defers = a.defers := by
  cases dst <;> rfl
theorem isB_eq (w : Bool) (x : Option Value) : isB w x = match x with | some (.bool b) => (b == w) | _ => false := by
  cases x with
  | none => rfl
  | some v => cases v with
    | bool b => cases w <;> cases b <;> rfl
    | _ => rfl
theorem wanted_of {ι : Inj} {ρ : Env} {a : Act} {ops : Array Oper} {o oj : Oper} {j d : Nat} {w : Bool} (hv : VR ι (val ρ (.t (pos d))) (a.tmps.getD d undef)) (hg : o.guard = some (j, w)) (hj : ops[j]? = some oj) (hd : oj.dst = some d) :
    Region.wanted o (yielded ops a.tmps) = isB w (Tr.get (pos d) ρ) := by
  rw [isB_eq]
  simp only [Region.wanted, hg, yielded, hj, Option.bind_some, hd]
  have hval : val ρ (.t (pos d)) = (Tr.get (pos d) ρ).getD undefV := by
    show (@Option.rec Value (fun _ => Value) undefV (fun v => v) (Tr.get (pos d) ρ)) = _
    cases Tr.get (pos d) ρ <;> rfl
  rw [hval] at hv
  rw [Array.getD_eq_getD_getElem?] at hv
  cases hx : Tr.get (pos d) ρ with
  | none =>
    rw [hx] at hv
    simp only [Option.getD_none] at hv
    cases ht : a.tmps[d]? with
    | none => rfl
    | some u =>
      rw [ht] at hv
      simp only [Option.getD_some] at hv
      cases hv
      rfl
  | some x =>
    rw [hx] at hv
    simp only [Option.getD_some] at hv
    cases ht : a.tmps[d]? with
    | none =>
      rw [ht] at hv
      simp only [Option.getD_none] at hv
      have hun : Go.undef = .tuple ⟨[]⟩ := rfl
      rw [hun] at hv
      cases hv
      rfl
    | some u =>
      rw [ht] at hv
      simp only [Option.getD_some] at hv
      cases hv <;> first | rfl | skip
      all_goals (rename_i b; cases b <;> cases w <;> rfl)
theorem wanted_eq {ι : Inj} {ρ : Env} {a : Act} (e : EnvR ι ρ a) {ops : Array Oper} {o oj : Oper} {j d : Nat} {w : Bool} (hg : o.guard = some (j, w)) (hj : ops[j]? = some oj) (hd : oj.dst = some d) :
    Region.wanted o (yielded ops a.tmps) = isB w (Tr.get (pos d) ρ) := wanted_of (e d) hg hj hd
theorem run_enter {w : World} {f : FuncId} {fn : Func} {args : Array Value} (hn : NamesOK P) (hf : P.funcs[f]? = some fn) (hb : fn.body.isSome = true) : (callFunc f args).run P w = .ok (.enter f args) w := by
  have h1 := hn f fn hf
  have h2 : fn.body.isNone = false := by cases h : fn.body <;> simp_all
  unfold callFunc
  simp only [Sem.run_bind, run_program, Result.andThen_ok, hf, h1, h2, Bool.false_eq_true, if_false, Sem.run_pure]
theorem pv_some {h h' : Heap} {x : Option Value} {v : Value} (e : pv h x = .ok v h') : x = some v ∧ h' = h := by
  cases x with
  | none => cases e
  | some u => cases e; exact ⟨rfl, rfl⟩
theorem vFuncH_some {f : Fn → Array Value → Array Value → VH} {x v : Value} {h : Heap} (e : vFuncH f x = .ok v h) : ∃ fn a b, x = .func fn a b ∧ f fn a b = .ok v h := by
  cases x <;> first | exact ⟨_, _, _, rfl, e⟩ | cases e
theorem op_wp {call : CallT} (hn : NamesOK P) (hcall : CallsOK P call) {o : Oper} {op : AOp} (hop : OpS P o op) {base : Nat} {ι : Inj} {h h' : Heap} {w : World} {ρ : Env} {a : Act} {v : Value}
    (r : Rel base ι h w) (e : OpdR ι ρ a o) (hv : opE call ρ h op = .ok v h') {next : Act → World → Prop} {Q : Exit → Act → World → Prop}
    (hk : ∀ ι' v' w', VR ι' v v' → Rel base ι' h' w' → Ext ι h w ι' h' w' → next (a.put o.dst v') w') : o.wp P a w next Q := by
  cases op with
  | p f =>
    obtain ⟨h1, rfl⟩ := pv_some hv
    obtain ⟨v', g1, g2⟩ := hop ι ρ a v e h1
    unfold Oper.wp
    rw [g2]
    exact hk ι v' w g1 r (.refl _ _ _)
  | l looks f =>
    obtain ⟨h1, rfl⟩ := pv_some hv
    obtain ⟨v', w', g1, g2, g3, g4⟩ := hop.1 base ι _ w ρ a v r e h1
    unfold Oper.wp
    rw [g2]
    exact hk ι v' w' g1 g3 g4
  | n f =>
    have hv' : (@VB.rec (fun _ => VH) .fail (fun v b => .ok v (h.new b)) (f ρ h.next)) = VH.ok v h' := hv
    cases hb : f ρ h.next with
    | fail => rw [hb] at hv'; cases hv'
    | ok v0 b =>
      rw [hb] at hv'
      cases hv'
      obtain ⟨v', w', S, g1, g2, g3⟩ := hop ι ρ a w h.next v b e (r.fresh h.next (Nat.le_refl _)).1 hb
      unfold Oper.wp
      rw [g2]
      exact hk _ v' w' g1 (r.new g3) (.made r g3)
  | e f =>
    obtain ⟨ι', v', w', g1, g2, g3, g4⟩ := hop base ι h w ρ a v h' r e hv
    unfold Oper.wp
    rcases g1 with g1 | ⟨g1, rfl⟩
    · rw [g1]; exact hk ι' v' w' g2 g3 g4
    · rw [g1]; exact hk ι' _ w' g2 g3 g4
  | call f args =>
    obtain ⟨c, ho, hc, ha⟩ := hop
    have hv' : call f (vals ρ args) h = .ok v h' := hv
    obtain ⟨⟨fn, hf, hb⟩, hcl⟩ := hcall _ _ _ _ _ hv'
    have hargs := e.vals ha (by intro z hz; simp [ho, Op.operands, Call.operands, hc]; exact .inr (Array.mem_toList_iff.1 hz))
    have hrun : (execOp a.eval o).run P w = .ok (.enter f ⟨c.args.toList.map a.eval⟩) w := by
      have hmap : c.args.map a.eval = ⟨c.args.toList.map a.eval⟩ := by apply Array.ext'; simp
      have hev : a.eval (.func f) = .func (.func f) #[] #[] := rfl
      simp only [execOp, ho, resolve, hc, hev, Deferred.ofValue, Sem.run_bind, Sem.run_pure, Result.andThen_ok, invoke, Array.append_empty, Array.empty_append, hmap, run_enter hn hf hb]
    unfold Oper.wp
    rw [hrun, Oper.upon_enter]
    refine (hcl base ι w _ r hargs).mono fun e' w' ⟨ι', v', he, g1, g2, g3⟩ => ?_
    subst he
    exact hk ι' v' w' g1 g2 g3
  | callv x args =>
    obtain ⟨c, y, ho, hc, hy, ha⟩ := hop
    have hv' : vFuncH (fun fn first captured => Fn.rec (fun f => call f (app first.toList (app (vals ρ args) captured.toList)) h) (fun _ => .fail) (fun _ _ => .fail) (fun _ _ _ _ => .fail) (fun _ => .fail) fn) (val ρ x) = .ok v h' := hv
    obtain ⟨fn0, fst, cap, hx, hv''⟩ := vFuncH_some hv'
    cases fn0 with
    | func f =>
      have hv3 : call f (app fst.toList (app (vals ρ args) cap.toList)) h = .ok v h' := hv''
      obtain ⟨⟨fn, hf, hb⟩, hcl⟩ := hcall _ _ _ _ _ hv3
      have hargs := e.vals ha (by intro z hz; simp [ho, Op.operands, Call.operands, hc]; exact .inr (Array.mem_toList_iff.1 hz))
      have ex := e.val hy (by simp [ho, Op.operands, Call.operands, hc])
      rw [hx] at ex
      generalize hq : a.eval y = q at ex
      cases ex with
      | @func f xs xs' ys ys' h1 h2 =>
        rw [app_eq, app_eq] at hcl
        have hall := h1.app (hargs.app h2)
        have hrun : (execOp a.eval o).run P w = .ok (.enter f ⟨xs' ++ (c.args.toList.map a.eval ++ ys')⟩) w := by
          have hmap : c.args.map a.eval = ⟨c.args.toList.map a.eval⟩ := by apply Array.ext'; simp
          simp only [execOp, ho, resolve, hc, hq, Deferred.ofValue, Sem.run_bind, Sem.run_pure, Result.andThen_ok, invoke, hmap]
          rw [run_enter hn hf hb]
          congr 2
          apply Array.ext'
          simp
        unfold Oper.wp
        rw [hrun, Oper.upon_enter]
        refine (hcl base ι w _ r hall).mono fun e' w' ⟨ι', v', he, g1, g2, g3⟩ => ?_
        subst he
        exact hk ι' v' w' g1 g2 g3
    | _ => cases hv''
end
end Go.Proofs.Ytndfelbgppbncaa.Ev
