/- The evaluator's soundness: places, parts, pieces. -/
import Derived.Test.YtndfelbgppbncaaEvPure2
set_option linter.unusedVariables false
namespace Go.Proofs.Ytndfelbgppbncaa.Ev
section
variable {P : Program} {o : Oper}
/-! ### addresses -/
theorem addA_plain (b i n : Nat) : addA ⟨b, i, none⟩ n = ⟨b, i + n, none⟩ := by
  show (@Bool.rec (fun _ => Addr) ⟨b, i + n, none⟩ ⟨b, i, none⟩ (Nat.beq n 0)) = _
  rw [beq_eq]
  by_cases h : n = 0
  · subst h; rfl
  · rw [decide_eq_false h]
theorem sizeT_some {t : TypeId} {n : Nat} (h : sizeT P t = some n) : ∃ i, P.info? t = some i ∧ i.size = n := by
  simp only [sizeT, Option.bind_eq_bind, Option.bind_eq_some_iff, Option.pure_def, Option.some.injEq] at h
  exact h
theorem run_sizeT {t : TypeId} {n : Nat} (h : sizeT P t = some n) (w : World) : (sizeOf t).run P w = .ok n w := by
  obtain ⟨i, hi, rfl⟩ := sizeT_some h
  simp [sizeOf, typeInfo, hi]
theorem isAggT_true {t : TypeId} (h : isAggT P t = some true) (w : World) : (isAgg t).run P w = .ok true w := by
  unfold isAggT at h
  split at h
  · rename_i hu; simp [isAgg, run_underlying hu]
  · rename_i hu; simp [isAgg, run_underlying hu]
  · cases h
  · cases h
theorem isAggT_false {t : TypeId} (h : isAggT P t = some false) (w : World) : (isAgg t).run P w = .ok false w := by
  unfold isAggT at h
  split at h
  · cases h
  · cases h
  · rename_i d h1 h2 hu
    simp only [isAgg, Sem.run_bind, run_underlying hu, Result.andThen_ok]
    cases d <;> first | rfl | exact absurd hu (h1 _) | exact absurd hu (h2 _ _)
  · cases h
theorem ps_faddr {s : TypeId} {x : Operand} {x' : AO} {fields : Array Field} {f : Nat} {fd : Field} {n : Nat} (hs : P.underlying s = some (.struct fields)) (hf : fields[f]? = some fd) (hn : sizeT P fd.type = some n) (h0 : 0 < n)
    (ho : o.op = .fieldAddr s x f) (hx : cO x = some x') : PS P o (pFaddr fd.offset x') := fun ι ρ a v e h => by
  obtain ⟨ad, hb, hv⟩ := vPtr_some h
  have ex := e.val hx (by simp [ho, Op.operands])
  rw [hb] at ex
  generalize hq : a.eval x = q at ex
  cases hv
  cases ex with
  | ptr eb =>
    rw [addA_plain]
    refine ⟨_, .ptr eb, fun w => ?_⟩
    have hne : ¬ n = 0 := by omega
    simp [execOp, ho, hq, Instr.fieldAt, run_underlying hs, hf, Instr.sureAddr, fieldPlace, run_sizeT hn, hne, add_plain, Nat.add_assoc]
theorem part_plain {t : TypeId} (h : isAggT P t = some false) {l : List Value} {off : Nat} {v : Value} (hv : l[off]? = some v) (w : World) : (part t ⟨l⟩ off).run P w = .ok v w := by
  simp [part, isAggT_false h, hv]
theorem part_agg {t : TypeId} {n : Nat} (h : isAggT P t = some true) (hn : sizeT P t = some n) (cs : Array Value) (off : Nat) (w : World) : (part t cs off).run P w = .ok (.agg ⟨(cs.toList.drop off).take n⟩) w := by
  simp only [part, Sem.run_bind, isAggT_true h, Result.andThen_ok, if_true, run_sizeT hn, Sem.run_pure]
  congr 2
  apply Array.ext'
  simp [Array.toList_extract, List.extract_eq_take_drop]
theorem ps_fld {s : TypeId} {x : Operand} {x' : AO} {fields : Array Field} {f : Nat} {fd : Field} (hs : P.underlying s = some (.struct fields)) (hf : fields[f]? = some fd) (hn : isAggT P fd.type = some false)
    (ho : o.op = .field s x f) (hx : cO x = some x') : PS P o (pFld fd.offset x') := fun ι ρ a v e h => by
  obtain ⟨cs, hb, hv⟩ := vAgg_some h
  have ex := e.val hx (by simp [ho, Op.operands])
  rw [hb] at ex
  generalize hq : a.eval x = q at ex
  cases ex with
  | agg hx ha =>
    rw [nth_eq] at hv
    obtain ⟨v', h1, h2⟩ := hx.get _ _ hv
    refine ⟨v', h2, fun w => ?_⟩
    have := part_plain hn h1 w
    simp [execOp, ho, hq, Instr.field, run_underlying hs, hf, asAgg, this]
theorem all_drop_take {l : List Value} (h : l.all isCell = true) (a b : Nat) : ((l.drop a).take b).all isCell = true :=
  List.all_eq_true.2 fun v hv => List.all_eq_true.1 h v (List.mem_of_mem_drop (List.mem_of_mem_take hv))
theorem ps_fldA {s : TypeId} {x : Operand} {x' : AO} {fields : Array Field} {f n : Nat} {fd : Field} (hs : P.underlying s = some (.struct fields)) (hf : fields[f]? = some fd) (hn : isAggT P fd.type = some true) (hz : sizeT P fd.type = some n)
    (ho : o.op = .field s x f) (hx : cO x = some x') : PS P o (pFldA fd.offset n x') := fun ι ρ a v e h => by
  obtain ⟨cs, hb, hv⟩ := vAgg_some h
  have ex := e.val hx (by simp [ho, Op.operands])
  rw [hb] at ex
  generalize hq : a.eval x = q at ex
  cases ex with
  | agg hx ha =>
    rw [takeL_eq, dropL_eq] at hv
    cases hv
    refine ⟨_, .agg ((hx.drop _).take _) (all_drop_take ha _ _), fun w => ?_⟩
    simp [execOp, ho, hq, Instr.field, run_underlying hs, hf, asAgg, part_agg hn hz]
theorem nat_ok {ι : Inj} {ρ : Env} {a : Act} {x : Operand} {x' : AO} (ex : VR ι (val ρ x') (a.eval x)) {m : Nat} (h : natOf (val ρ x') = some m) : ∃ k, a.eval x = .int k (Int.ofNat m) := by
  obtain ⟨k, hk⟩ := natOf_some h
  rw [hk] at ex
  generalize a.eval x = q at ex
  cases ex
  exact ⟨k, rfl⟩
theorem optn_some {α : Type} {o : Option α} {f : α → Option Value} {r : Value} (h : (@Option.rec α (fun _ => Option Value) none f o) = some r) : ∃ a, o = some a ∧ f a = some r := opt_some h
theorem ps_idxS {t e' : TypeId} {n : Nat} {x i : Operand} {x' i' : AO} (ht : P.underlying t = some (.slice e')) (hn : sizeT P e' = some n) (ho : o.op = .indexAddr t x i) (hx : cO x = some x') (hi : cO i = some i') :
    PS P o (pIdxS n x' i') := fun ι ρ a v e h => by
  obtain ⟨m, hm, h⟩ := opt_some h
  obtain ⟨k, hk⟩ := nat_ok (e.val hi (by simp [ho, Op.operands])) hm
  obtain ⟨ad, l, c, hb, hv⟩ := vSlc_some h
  obtain ⟨ad, rfl, hv⟩ := opt_some hv
  obtain ⟨hlt, hv⟩ := if_some hv
  rw [blt_eq] at hlt
  have hlt := of_decide_eq_true hlt
  have ex := e.val hx (by simp [ho, Op.operands])
  rw [hb] at ex
  generalize hq : a.eval x = q at ex
  cases hv
  cases ex with
  | slc eb hc hl hj hS =>
    rcases hj with rfl | ⟨rfl, _⟩
    · rw [addA_plain]
      refine ⟨_, .ptr eb, fun w => ?_⟩
      simp [execOp, ho, hq, hk, Instr.indexAt, asIntOf, run_underlying ht, run_sizeT hn, hlt, add_plain, Nat.add_assoc]
    · omega
theorem ps_idxA {t e' : TypeId} {len n : Nat} {x i : Operand} {x' i' : AO} (ht : P.underlying t = some (.array len e')) (hn : sizeT P e' = some n) (ho : o.op = .indexAddr t x i) (hx : cO x = some x') (hi : cO i = some i') :
    PS P o (pIdxA len n x' i') := fun ι ρ a v e h => by
  obtain ⟨m, hm, h⟩ := opt_some h
  obtain ⟨k, hk⟩ := nat_ok (e.val hi (by simp [ho, Op.operands])) hm
  obtain ⟨ad, hb, hv⟩ := vPtr_some h
  obtain ⟨hlt, hv⟩ := if_some hv
  rw [blt_eq] at hlt
  have hlt := of_decide_eq_true hlt
  have ex := e.val hx (by simp [ho, Op.operands])
  rw [hb] at ex
  generalize hq : a.eval x = q at ex
  cases hv
  cases ex with
  | ptr eb =>
    rw [addA_plain]
    refine ⟨_, .ptr eb, fun w => ?_⟩
    simp [execOp, ho, hq, hk, Instr.indexAt, asIntOf, run_underlying ht, run_sizeT hn, hlt, add_plain, Nat.add_assoc, Instr.sureAddr]
theorem ps_idxStr {t : TypeId} {x i : Operand} {x' i' : AO} (ht : P.underlying t = some .string) (ho : o.op = .index t x i) (hx : cO x = some x') (hi : cO i = some i') :
    PS P o (pIdxStr x' i') := fun ι ρ a v e h => by
  obtain ⟨m, hm, h⟩ := opt_some h
  obtain ⟨k, hk⟩ := nat_ok (e.val hi (by simp [ho, Op.operands])) hm
  obtain ⟨s, hb, hv⟩ := vStr_some h
  obtain ⟨c, hc, hv⟩ := opt_some hv
  rw [nth_eq, strL_eq] at hc
  have ex := e.val hx (by simp [ho, Op.operands])
  rw [hb] at ex
  generalize hq : a.eval x = q at ex
  cases hv
  cases ex
  refine ⟨_, .int _ _, fun w => ?_⟩
  have hs : s[m]? = some c := by
    obtain ⟨hlt, he⟩ := List.getElem?_eq_some_iff.1 hc
    have : m < s.size := hlt
    rw [getElem?_pos s m this]
    congr 1
  simp [execOp, ho, hq, hk, Instr.index, asIntOf, run_underlying ht, hs]
theorem ps_idxV {t e' : TypeId} {len n : Nat} {x i : Operand} {x' i' : AO} (ht : P.underlying t = some (.array len e')) (hn : sizeT P e' = some n) (hagg : isAggT P e' = some false) (ho : o.op = .index t x i) (hx : cO x = some x') (hi : cO i = some i') :
    PS P o (pIdxV len n x' i') := fun ι ρ a v e h => by
  obtain ⟨m, hm, h⟩ := opt_some h
  obtain ⟨k, hk⟩ := nat_ok (e.val hi (by simp [ho, Op.operands])) hm
  obtain ⟨cs, hb, hv⟩ := vAgg_some h
  obtain ⟨hlt, hv⟩ := if_some hv
  rw [blt_eq] at hlt
  have hlt := of_decide_eq_true hlt
  rw [nth_eq] at hv
  have ex := e.val hx (by simp [ho, Op.operands])
  rw [hb] at ex
  generalize hq : a.eval x = q at ex
  cases ex with
  | agg hx ha =>
    obtain ⟨v', h1, h2⟩ := hx.get _ _ hv
    refine ⟨v', h2, fun w => ?_⟩
    have := part_plain hagg h1 w
    simp [execOp, ho, hq, hk, Instr.index, asIntOf, run_underlying ht, run_sizeT hn, hlt]
    have this' : (part e' { toList := _ } (m * n)).run P w = .ok v' w := this
    rw [this']
    rfl
theorem ps_idxVA {t e' : TypeId} {len n : Nat} {x i : Operand} {x' i' : AO} (ht : P.underlying t = some (.array len e')) (hn : sizeT P e' = some n) (hagg : isAggT P e' = some true) (ho : o.op = .index t x i) (hx : cO x = some x') (hi : cO i = some i') :
    PS P o (pIdxVA len n x' i') := fun ι ρ a v e h => by
  obtain ⟨m, hm, h⟩ := opt_some h
  obtain ⟨k, hk⟩ := nat_ok (e.val hi (by simp [ho, Op.operands])) hm
  obtain ⟨cs, hb, hv⟩ := vAgg_some h
  obtain ⟨hlt, hv⟩ := if_some hv
  rw [blt_eq] at hlt
  have hlt := of_decide_eq_true hlt
  rw [takeL_eq, dropL_eq] at hv
  have ex := e.val hx (by simp [ho, Op.operands])
  rw [hb] at ex
  generalize hq : a.eval x = q at ex
  cases hv
  cases ex with
  | agg hx ha =>
    refine ⟨_, .agg ((hx.drop _).take _) (all_drop_take ha _ _), fun w => ?_⟩
    simp [execOp, ho, hq, hk, Instr.index, asIntOf, run_underlying ht, run_sizeT hn, hlt, part_agg hagg hn]
theorem ps_ext {i : Nat} {x : Operand} {x' : AO} (ho : o.op = .extract x i) (hx : cO x = some x') : PS P o (pExt i x') := fun ι ρ a v e h => by
  obtain ⟨cs, hb, hv⟩ := vTup_some h
  rw [nth_eq] at hv
  have ex := e.val hx (by simp [ho, Op.operands])
  rw [hb] at ex
  generalize hq : a.eval x = q at ex
  cases ex with
  | tuple hx =>
    obtain ⟨v', h1, h2⟩ := hx.get _ _ hv
    have h1' : ∀ l : List Value, l[i]? = some v' → (⟨l⟩ : Array Value)[i]? = some v' := fun l h => by simpa using h
    exact ⟨v', h2, fun w => by simp only [execOp, ho, hq, Instr.extract]; rw [h1' _ h1]; rfl⟩
theorem ps_func {f : FuncId} {first captured : Array Operand} {fs cs : List AO} (ho : o.op = .makeFunc (.func f) first captured) (h1 : cOs first.toList = some fs) (h2 : cOs captured.toList = some cs) : PS P o (pFunc f fs cs) := fun ι ρ a v e h => by
  cases h
  refine ⟨_, .func f (e.vals h1 (by intro z hz; simp [ho, Op.operands]; exact .inl (Array.mem_toList_iff.1 hz))) (e.vals h2 (by intro z hz; simp [ho, Op.operands]; exact .inr (Array.mem_toList_iff.1 hz))), fun w => ?_⟩
  simp only [execOp, ho, Instr.makeFunc, Sem.run_bind, Sem.run_pure, Result.andThen_ok]
  congr 3 <;> (apply Array.ext'; simp)
theorem ps_iface {t : TypeId} {d : TypeDesc} {x : Operand} {x' : AO} (ht : P.underlying t = some d) (hd : ∀ ms, d ≠ .interface ms) (ho : o.op = .makeInterface t x) (hx : cO x = some x') : PS P o (pIface t x') := fun ι ρ a v e h => by
  cases h
  refine ⟨_, .iface t (e.val hx (by simp [ho, Op.operands])), fun w => ?_⟩
  simp only [execOp, ho, Instr.makeInterface, Sem.run_bind, run_underlying ht, Result.andThen_ok]
  cases d <;> first | rfl | exact absurd rfl (hd _)
theorem ps_len {c : Call} {t e' : TypeId} {x : Operand} {x' : AO} (ho : o.op = .call c) (hc : c.callee = .builtin .len) (ha : c.args = #[x]) (hty : c.argTypes[0]? = some t) (ht : P.underlying t = some (.slice e')) (hx : cO x = some x') :
    PS P o (pLen x') := fun ι ρ a v e h => by
  obtain ⟨ad, l, cp, hb, hv⟩ := vSlc_some h
  have ex := e.val hx (by simp [ho, Op.operands, Call.operands, hc, ha])
  rw [hb] at ex
  generalize hq : a.eval x = q at ex
  cases hv
  refine ⟨_, .int _ _, fun w => ?_⟩
  have : ∃ ad' cp', q = .slice ad' l cp' := by cases ex <;> exact ⟨_, _, rfl⟩
  obtain ⟨ad', cp', rfl⟩ := this
  simp [execOp, ho, hc, ha, hq, resolve, invoke, builtin, Builtin.len_, hty, run_underlying ht, goInt]
theorem ps_lenS {c : Call} {t : TypeId} {x : Operand} {x' : AO} (ho : o.op = .call c) (hc : c.callee = .builtin .len) (ha : c.args = #[x]) (hty : c.argTypes[0]? = some t) (ht : P.underlying t = some .string) (hx : cO x = some x') :
    PS P o (pLenS x') := fun ι ρ a v e h => by
  obtain ⟨s, hb, hv⟩ := vStr_some h
  have ex := e.val hx (by simp [ho, Op.operands, Call.operands, hc, ha])
  rw [hb] at ex
  generalize hq : a.eval x = q at ex
  cases hv
  cases ex
  refine ⟨_, .int _ _, fun w => ?_⟩
  rw [len_eq, strL_eq]
  simp [execOp, ho, hc, ha, hq, resolve, invoke, builtin, Builtin.len_, hty, run_underlying ht, goInt]
theorem ps_lenA {c : Call} {t e' : TypeId} {n : Nat} {x : Operand} (ho : o.op = .call c) (hc : c.callee = .builtin .len) (ha : c.args = #[x]) (hty : c.argTypes[0]? = some t) (ht : P.underlying t = some (.array n e')) :
    PS P o (pMv (.c (.int .i64 n))) := fun ι ρ a v e h => by
  cases h
  refine ⟨_, .int _ _, fun w => ?_⟩
  simp [execOp, ho, hc, ha, resolve, invoke, builtin, Builtin.len_, hty, run_underlying ht, goInt]
/-! ### min, max -/
theorem ilt_max (a b : Int) : (@Bool.rec (fun _ => Int) a b (ilt a b)) = if b > a then b else a := by
  rw [ilt_eq]
  by_cases h : a < b
  · rw [decide_eq_true h, if_pos h]
  · rw [decide_eq_false h, if_neg h]
theorem evMax_ok {ι : Inj} {k : IntKind} : ∀ {l l' : List Value} {n : Int} {v : Value}, VRL ι l l' → evMax k l n = some v → (∃ m, v = .int k m) ∧ ∀ w, (l'.foldlM Builtin.max2 (.int k n)).run P w = .ok v w
  | [], _, n, v, .nil, h => by
    have h' : some (Value.int k n) = some v := h
    cases h'
    exact ⟨⟨_, rfl⟩, fun w => rfl⟩
  | x :: l, _, n, v, .cons e r, h => by
    obtain ⟨k', b, hx, h⟩ := vInt_some h
    subst hx
    cases e
    have h' : evMax k l (@Bool.rec (fun _ => Int) n b (ilt n b)) = some v := h
    rw [ilt_max] at h'
    obtain ⟨h1, h2⟩ := evMax_ok r h'
    refine ⟨h1, fun w => ?_⟩
    rw [List.foldlM_cons]
    simp only [Builtin.max2, Sem.run_bind, Sem.run_pure, Result.andThen_ok]
    exact h2 w
theorem evMin_ok {ι : Inj} {k : IntKind} : ∀ {l l' : List Value} {n : Int} {v : Value}, VRL ι l l' → evMin k l n = some v → (∃ m, v = .int k m) ∧ ∀ w, (l'.foldlM Builtin.min2 (.int k n)).run P w = .ok v w
  | [], _, n, v, .nil, h => by
    have h' : some (Value.int k n) = some v := h
    cases h'
    exact ⟨⟨_, rfl⟩, fun w => rfl⟩
  | x :: l, _, n, v, .cons e r, h => by
    obtain ⟨k', b, hx, h⟩ := vInt_some h
    subst hx
    cases e
    have h' : evMin k l (@Bool.rec (fun _ => Int) n b (ilt b n)) = some v := h
    have e' : (@Bool.rec (fun _ => Int) n b (ilt b n)) = if b < n then b else n := by
      rw [ilt_eq]
      by_cases q : b < n
      · rw [decide_eq_true q, if_pos q]
      · rw [decide_eq_false q, if_neg q]
    rw [e'] at h'
    obtain ⟨h1, h2⟩ := evMin_ok r h'
    refine ⟨h1, fun w => ?_⟩
    rw [List.foldlM_cons]
    simp only [Builtin.min2, Sem.run_bind, Sem.run_pure, Result.andThen_ok]
    exact h2 w
theorem ps_max {c : Call} {x : Operand} {xs : List Operand} {x' : AO} {xs' : List AO} (ho : o.op = .call c) (hc : c.callee = .builtin .max) (ha : c.args.toList = x :: xs) (hx : cO x = some x') (hxs : cOs xs = some xs') :
    PS P o (pMax x' xs') := fun ι ρ a v e h => by
  obtain ⟨k, n, hb, hv⟩ := vInt_some h
  have ex := e.val hx (by simp [ho, Op.operands, Call.operands, hc]; rw [← Array.mem_toList_iff, ha]; simp)
  rw [hb] at ex
  generalize hq : a.eval x = q at ex
  cases ex
  obtain ⟨⟨m, rfl⟩, h2⟩ := evMax_ok (P := P) (e.vals hxs (by intro z hz; simp [ho, Op.operands, Call.operands, hc]; rw [← Array.mem_toList_iff, ha]; simp [hz])) hv
  refine ⟨_, .int _ _, fun w => ?_⟩
  have hl : (c.args.map a.eval).toList = .int k n :: xs.map a.eval := by simp [ha, hq]
  simp only [execOp, ho, hc, resolve, invoke, builtin, Builtin.max_, Sem.run_bind, Sem.run_pure, Result.andThen_ok, hl, h2]
theorem ps_min {c : Call} {x : Operand} {xs : List Operand} {x' : AO} {xs' : List AO} (ho : o.op = .call c) (hc : c.callee = .builtin .min) (ha : c.args.toList = x :: xs) (hx : cO x = some x') (hxs : cOs xs = some xs') :
    PS P o (pMin x' xs') := fun ι ρ a v e h => by
  obtain ⟨k, n, hb, hv⟩ := vInt_some h
  have ex := e.val hx (by simp [ho, Op.operands, Call.operands, hc]; rw [← Array.mem_toList_iff, ha]; simp)
  rw [hb] at ex
  generalize hq : a.eval x = q at ex
  cases ex
  obtain ⟨⟨m, rfl⟩, h2⟩ := evMin_ok (P := P) (e.vals hxs (by intro z hz; simp [ho, Op.operands, Call.operands, hc]; rw [← Array.mem_toList_iff, ha]; simp [hz])) hv
  refine ⟨_, .int _ _, fun w => ?_⟩
  have hl : (c.args.map a.eval).toList = .int k n :: xs.map a.eval := by simp [ha, hq]
  simp only [execOp, ho, hc, resolve, invoke, builtin, Builtin.min_, Sem.run_bind, Sem.run_pure, Result.andThen_ok, hl, h2]

/-! ### slices -/
theorem capLow_eq (c : Nat) : capLow c = c % FZ := rfl
theorem CapR.low {c c' : Nat} (h : CapR c c') : capLow c ≤ c' := by
  rw [capLow_eq]
  unfold CapR at h
  split at h
  · rename_i q; rw [Nat.mod_eq_of_lt q]; omega
  · exact h
theorem bound_some {x : Value} {y m : Nat} (h : bound x y = some m) : m ≤ y ∧ natOf x = some m := by
  have h' : (@Option.rec Nat (fun _ => Option Nat) none (fun n => @Bool.rec (fun _ => Option Nat) none (some n) (Nat.ble n y)) (natOf x)) = some m := h
  cases hn : natOf x with
  | none => rw [hn] at h'; cases h'
  | some n =>
    rw [hn] at h'
    have h'' : (@Bool.rec (fun _ => Option Nat) none (some n) (Nat.ble n y)) = some m := h'
    rw [ble_eq] at h''
    by_cases q : n ≤ y
    · rw [decide_eq_true q] at h''
      cases h''
      exact ⟨q, rfl⟩
    · rw [decide_eq_false q] at h''; cases h''
theorem run_bound {ι : Inj} {ρ : Env} {a : Act} {x : Operand} {x' : AO} (ex : VR ι (val ρ x') (a.eval x)) {y m : Nat} (h : bound (val ρ x') y = some m) {y' : Nat} (hy : m ≤ y') (code : BoundsCode) (w : World) :
    (Instr.sliceBound (a.eval x) y' code).run P w = .ok m w := by
  obtain ⟨_, hn⟩ := bound_some h
  obtain ⟨k, hk⟩ := nat_ok ex hn
  rw [hk]
  simp [Instr.sliceBound, asIntOf, hy]
theorem cOo_some {x : Option Operand} {y : Option AO} (h : cOo x = some y) : (x = none ∧ y = none) ∨ ∃ a b, x = some a ∧ y = some b ∧ cO a = some b := by
  cases x with
  | none => cases h; exact .inl ⟨rfl, rfl⟩
  | some a =>
    simp only [cOo, Option.bind_eq_bind, Option.bind_eq_some_iff, Option.pure_def, Option.some.injEq] at h
    obtain ⟨b, hb, rfl⟩ := h
    exact .inr ⟨a, b, rfl, rfl, hb⟩
theorem optN_some {α β : Type} {o : Option α} {f : α → Option β} {r : β} (h : (@Option.rec α (fun _ => Option β) none f o) = some r) : ∃ a, o = some a ∧ f a = some r := by
  cases o with
  | none => cases h
  | some a => exact ⟨a, rfl, h⟩
/-- The bounds of a piece, as the machine reckons them. -/
theorem run_bounds2 {ι : Inj} {ρ : Env} {a : Act} {lo hi : Option Operand} (e : ∀ x y, (lo = some x ∨ hi = some x) → cO x = some y → VR ι (val ρ y) (a.eval x)) {lo' hi' : Option AO} (hlo : cOo lo = some lo') (hhi : cOo hi = some hi') {n c h l : Nat}
    (h1 : boundO ρ hi' n c = some h) (h2 : boundO ρ lo' 0 h = some l) {c' : Nat} (hc : c ≤ c') (isS : Bool) (w : World) :
    (Instr.sliceBounds isS n c' (lo.map a.eval) (hi.map a.eval) none).run P w = .ok (l, h, c') w ∧ l ≤ h ∧ (h ≤ c ∨ (hi = none ∧ h = n)) := by
  have key : ∀ code1 code2, (do
      let h ← (match hi.map a.eval with | some v => Instr.sliceBound v c' code1 | none => (pure n : Sem Nat))
      let l ← (match lo.map a.eval with | some v => Instr.sliceBound v h code2 | none => (pure 0 : Sem Nat))
      pure (l, h, c') : Sem (Nat × Nat × Nat)).run P w = .ok (l, h, c') w ∧ l ≤ h ∧ (h ≤ c ∨ (hi = none ∧ h = n)) := fun code1 code2 => by
    have hl2 : ∀ h, boundO ρ lo' 0 h = some l → (match lo.map a.eval with | some v => Instr.sliceBound v h code2 | none => (pure 0 : Sem Nat)).run P w = .ok l w ∧ l ≤ h := fun h h2 => by
      rcases cOo_some hlo with ⟨rfl, rfl⟩ | ⟨x, y, rfl, rfl, hxy⟩
      · cases h2; exact ⟨rfl, Nat.zero_le _⟩
      · have h2' : bound (val ρ y) h = some l := h2
        exact ⟨run_bound (e _ _ (.inl rfl) hxy) h2' (bound_some h2').1 _ w, (bound_some h2').1⟩
    obtain ⟨r2, q2⟩ := hl2 h h2
    rcases cOo_some hhi with ⟨rfl, rfl⟩ | ⟨x, y, rfl, rfl, hxy⟩
    · have h1' : some n = some h := h1
      cases h1'
      refine ⟨?_, q2, .inr ⟨rfl, rfl⟩⟩
      simp only [Option.map_none, Sem.run_bind, Sem.run_pure, Result.andThen_ok]
      rw [r2]; rfl
    · have h1' : bound (val ρ y) c = some h := h1
      have hb := bound_some h1'
      refine ⟨?_, q2, .inl hb.1⟩
      simp only [Option.map_some, Sem.run_bind, run_bound (e _ _ (.inr rfl) hxy) h1' (Nat.le_trans hb.1 hc), Result.andThen_ok]
      rw [r2]; rfl
  have := key (if isS then .sliceAcap else .sliceAlen) .sliceB
  refine ⟨?_, this.2⟩
  rw [← this.1]
  unfold Instr.sliceBounds
  cases hi <;> cases lo <;> simp
theorem ps_slc {t e' : TypeId} {n : Nat} {x : Operand} {lo hi : Option Operand} {x' : AO} {lo' hi' : Option AO} (ht : P.underlying t = some (.slice e')) (hn : sizeT P e' = some n) (ho : o.op = .slice t x lo hi none)
    (hx : cO x = some x') (hlo : cOo lo = some lo') (hhi : cOo hi = some hi') : PS P o (pSlc n x' lo' hi') := fun ι ρ a v e hp => by
  obtain ⟨ad, len, c, hb, hv⟩ := vSlc_some hp
  clear hp
  obtain ⟨h, h1, hv⟩ := opt_some hv
  obtain ⟨l, h2, hv⟩ := opt_some hv
  have ex := e.val hx (by simp [ho, Op.operands])
  rw [hb] at ex
  generalize hq : a.eval x = q at ex
  have run : ∀ ad' c', q = .slice ad' len c' → capLow c ≤ c' → ∀ w, (execOp a.eval o).run P w = .ok (.value (.slice (if c' = l then ad' else ad'.map (·.add (l * n))) (h - l) (c' - l))) w := fun ad' c' hq' hc w => by
    obtain ⟨r, _⟩ := run_bounds2 (P := P) (fun z y q hz => e.val hz (by rcases q with q | q <;> simp [ho, Op.operands, q])) hlo hhi h1 h2 hc true w
    simp [execOp, ho, hq, hq', Instr.sliceAt, Instr.slice, run_underlying ht, r, run_sizeT hn]
  obtain ⟨_, hlh, hhc⟩ := run_bounds2 (P := P) (fun z y q hz => e.val hz (by rcases q with q | q <;> simp [ho, Op.operands, q])) hlo hhi h1 h2 (Nat.le_refl (capLow c)) true default
  rw [blt_eq] at hv
  cases ex with
  | slcN =>
    have e0 : capLow 0 = 0 := by rw [capLow_eq]; rfl
    rw [e0] at hhc
    have hh0 : h = 0 := by omega
    have hl0 : l = 0 := by omega
    subst hh0 hl0
    have hv' : some (Value.slice none 0 0) = some v := hv
    cases hv'
    exact ⟨_, .slcN, fun w => by rw [run none 0 rfl (by rw [e0]; exact Nat.le_refl 0) w]; rfl⟩
  | @slc b B o0 S i j _ _ c' eb hc hl hj hS =>
    have hlow := hc.low
    have hhc' : h ≤ capLow c := by rcases hhc with q | ⟨_, q⟩ <;> omega
    refine ⟨_, ?_, run _ _ rfl hlow⟩
    rw [capLow_eq] at hl hlow hhc'
    by_cases hf : c < FZ
    · rw [decide_eq_true hf] at hv
      have hcl : c % FZ = c := Nat.mod_eq_of_lt hf
      have hcc : c' = c := by unfold CapR at hc; rw [if_pos hf] at hc; exact hc
      subst hcc
      have hv' : some (Value.slice (@Bool.rec (fun _ => Option Addr) (addO (some ⟨b, i, none⟩) (l * n)) (some ⟨b, i, none⟩) (Nat.beq c' l)) (h - l) (c' - l)) = some v := hv
      rw [beq_eq] at hv'
      have hlow' : h - l ≤ capLow (c' - l) := by rw [capLow_eq, Nat.mod_eq_of_lt (by omega)]; omega
      have hcr : CapR (c' - l) (c' - l) := by unfold CapR; rw [if_pos (by omega)]
      by_cases hcl' : c' = l
      · rw [decide_eq_true hcl'] at hv'
        cases hv'
        rw [if_pos hcl']
        exact .slc eb hcr hlow' (.inr (by omega)) (fun q => by omega)
      · rw [decide_eq_false hcl'] at hv'
        cases hv'
        rw [if_neg hcl']
        show VR ι (.slice (some (addA ⟨b, i, none⟩ (l * n))) (h - l) (c' - l)) (.slice (some ((⟨B, j, none⟩ : Addr).add (l * n))) (h - l) (c' - l))
        rw [addA_plain, add_plain]
        refine .slc eb hcr hlow' ?_ (fun q => by omega)
        rcases hj with rfl | ⟨rfl, hc0⟩
        · exact .inl (by omega)
        · omega
    · rw [decide_eq_false hf] at hv
      have hv0 : (@Bool.rec (fun _ => Option Value) none (some (Value.slice (addO (some ⟨b, i, none⟩) (l * n)) (h - l) (c - l))) (Nat.beq (c / FZ) n)) = some v := hv
      obtain ⟨hE, hv'⟩ := if_some hv0
      clear hv0
      have hE := Nat.eq_of_beq_eq_true hE
      cases hv'
      show VR ι (.slice (some (addA ⟨b, i, none⟩ (l * n))) (h - l) (c - l)) _
      rw [addA_plain]
      have hS := hS (by omega)
      have hdiv : (c - l) / FZ = c / FZ := by unfold FZ at *; omega
      have hmod : (c - l) % FZ = c % FZ - l := by unfold FZ at *; omega
      have hge : FZ ≤ c - l := by unfold FZ at *; omega
      have hcr : CapR (c - l) (c' - l) := by unfold CapR; rw [if_neg (by omega), hmod]; omega
      have hle : h - l ≤ capLow (c - l) := by rw [capLow_eq, hmod]; omega
      by_cases hcl' : c' = l
      · rw [if_pos hcl']
        refine .slc eb hcr hle (.inr (by omega)) (fun _ => ?_)
        rw [show c' - l = 0 by omega, Nat.zero_mul]
        omega
      · rw [if_neg hcl']
        show VR ι _ (.slice (some ((⟨B, j, none⟩ : Addr).add (l * n))) (h - l) (c' - l))
        rw [add_plain]
        refine .slc eb hcr hle ?_ (fun _ => ?_)
        · rcases hj with rfl | ⟨rfl, hc0⟩
          · exact .inl (by omega)
          · omega
        · rw [hdiv, ← hE, Nat.sub_mul]
          have : l * (c / FZ) ≤ c' * (c / FZ) := Nat.mul_le_mul_right _ (by omega)
          omega
theorem ps_slcStr {t : TypeId} {x : Operand} {lo hi : Option Operand} {x' : AO} {lo' hi' : Option AO} (ht : P.underlying t = some .string) (ho : o.op = .slice t x lo hi none)
    (hx : cO x = some x') (hlo : cOo lo = some lo') (hhi : cOo hi = some hi') : PS P o (pSlcStr x' lo' hi') := fun ι ρ a v e hp => by
  obtain ⟨s, hb, hv⟩ := vStr_some hp
  clear hp
  obtain ⟨h, h1, hv⟩ := opt_some hv
  obtain ⟨l, h2, hv⟩ := opt_some hv
  have ex := e.val hx (by simp [ho, Op.operands])
  rw [hb] at ex
  generalize hq : a.eval x = q at ex
  cases ex
  cases hv
  rw [len_eq, strL_eq] at h1
  have hs : s.data.toList.length = s.size := rfl
  rw [hs] at h1
  refine ⟨_, .string _, fun w => ?_⟩
  obtain ⟨r, _⟩ := run_bounds2 (P := P) (fun z y q hz => e.val hz (by rcases q with q | q <;> simp [ho, Op.operands, q])) hlo hhi h1 h2 (Nat.le_refl s.size) false w
  simp [execOp, ho, hq, Instr.sliceAt, Instr.slice, run_underlying ht, r]
theorem ps_slcA {t e' : TypeId} {len n : Nat} {x : Operand} {lo hi : Option Operand} {x' : AO} {lo' hi' : Option AO} (ht : P.underlying t = some (.array len e')) (hn : sizeT P e' = some n) (hf : len < FZ) (ho : o.op = .slice t x lo hi none)
    (hx : cO x = some x') (hlo : cOo lo = some lo') (hhi : cOo hi = some hi') : PS P o (pSlcA len n x' lo' hi') := fun ι ρ a v e hp => by
  obtain ⟨ad, hb, hv⟩ := vPtr_some hp
  clear hp
  obtain ⟨h, h1, hv⟩ := opt_some hv
  obtain ⟨l, h2, hv⟩ := opt_some hv
  have ex := e.val hx (by simp [ho, Op.operands])
  rw [hb] at ex
  generalize hq : a.eval x = q at ex
  cases ex with
  | @ptr b B o0 S i eb =>
    have hv' : some (Value.slice (some (@Bool.rec (fun _ => Addr) (addA ⟨b, i, none⟩ (l * n)) ⟨b, i, none⟩ (Nat.beq len l))) (h - l) (len - l)) = some v := hv
    rw [beq_eq, addA_plain] at hv'
    obtain ⟨_, hlh, hhc⟩ := run_bounds2 (P := P) (fun z y q hz => e.val hz (by rcases q with q | q <;> simp [ho, Op.operands, q])) hlo hhi h1 h2 (Nat.le_refl len) false default
    have hh : h ≤ len := by rcases hhc with q | ⟨_, q⟩ <;> omega
    refine ⟨.slice (some (if len = l then ⟨B, o0 + i, none⟩ else ⟨B, o0 + i + l * n, none⟩)) (h - l) (len - l), ?_, fun w => ?_⟩
    · have hcr : CapR (len - l) (len - l) := by unfold CapR; rw [if_pos (by omega)]
      have hle : h - l ≤ capLow (len - l) := by rw [capLow_eq, Nat.mod_eq_of_lt (by omega)]; omega
      by_cases q : len = l
      · rw [decide_eq_true q] at hv'
        cases hv'
        rw [if_pos q]
        exact .slc eb hcr hle (.inl rfl) (fun q => by omega)
      · rw [decide_eq_false q] at hv'
        cases hv'
        rw [if_neg q]
        exact .slc eb hcr hle (.inl (by omega)) (fun q => by omega)
    · obtain ⟨r, _⟩ := run_bounds2 (P := P) (fun z y q hz => e.val hz (by rcases q with q | q <;> simp [ho, Op.operands, q])) hlo hhi h1 h2 (Nat.le_refl len) false w
      simp only [execOp, ho, hq, Instr.sliceAt, Sem.run_bind, run_underlying ht, Result.andThen_ok, Instr.sureAddr, Sem.run_pure, Option.map_none, r, run_sizeT hn, add_plain]
theorem ps_slc3 {t e' : TypeId} {n : Nat} {x m : Operand} {lo hi : Option Operand} {x' m' : AO} {lo' hi' : Option AO} (ht : P.underlying t = some (.slice e')) (hn : sizeT P e' = some n) (ho : o.op = .slice t x lo hi (some m))
    (hx : cO x = some x') (hlo : cOo lo = some lo') (hhi : cOo hi = some hi') (hm : cO m = some m') : PS P o (pSlc3 n x' lo' hi' m') := fun ι ρ a v e hp => by
  obtain ⟨ad, len, c, hb, hv⟩ := vSlc_some hp
  clear hp
  obtain ⟨mm, h0, hv1⟩ := opt_some hv
  obtain ⟨h, h1, hv2⟩ := opt_some hv1
  obtain ⟨l, h2, hv3⟩ := opt_some hv2
  clear hv hv1 hv2
  obtain ⟨y, rfl, h1⟩ := optN_some h1
  have hb0 := bound_some h0
  have hb1 := bound_some h1
  obtain ⟨hi, rfl, hyc⟩ : ∃ x, hi = some x ∧ cO x = some y := by
    rcases cOo_some hhi with ⟨_, q⟩ | ⟨p, q, r1, r2, r3⟩
    · cases q
    · cases r2; exact ⟨p, r1, r3⟩
  have hl2 : ∀ w code, (match lo.map a.eval with | some v => Instr.sliceBound v h code | none => (pure 0 : Sem Nat)).run P w = .ok l w ∧ l ≤ h := fun w code => by
    rcases cOo_some hlo with ⟨rfl, rfl⟩ | ⟨x, y, rfl, rfl, hxy⟩
    · cases h2; exact ⟨rfl, Nat.zero_le _⟩
    · have h2' : bound (val ρ y) h = some l := h2
      exact ⟨run_bound (e.val hxy (by simp [ho, Op.operands])) h2' (bound_some h2').1 _ w, (bound_some h2').1⟩
  have hlh := (hl2 default .slice3C).2
  have ex := e.val hx (by simp [ho, Op.operands])
  rw [hb] at ex
  generalize hq : a.eval x = q at ex
  have run : ∀ ad' c', q = .slice ad' len c' → capLow c ≤ c' → ∀ w, (execOp a.eval o).run P w = .ok (.value (.slice (if mm = l then ad' else ad'.map (·.add (l * n))) (h - l) (mm - l))) w := fun ad' c' hq' hc w => by
    have r0 := run_bound (P := P) (e.val hm (by simp [ho, Op.operands])) h0 (Nat.le_trans hb0.1 hc) .slice3Acap w
    have r1 := run_bound (P := P) (e.val hyc (by simp [ho, Op.operands])) h1 hb1.1 .slice3B w
    have r2 := (hl2 w .slice3C).1
    have r : (Instr.sliceBounds true len c' (lo.map a.eval) (some (a.eval hi)) (some (a.eval m))).run P w = .ok (l, h, mm) w := by
      unfold Instr.sliceBounds
      simp only [Sem.run_bind, r0, r1, Result.andThen_ok, if_true, Option.isSome_some]
      cases lo <;> (simp only [Option.map_some, Option.map_none] at r2; simp only [Option.map_some, Option.map_none, Sem.run_bind]; rw [r2]; rfl)
    simp [execOp, ho, hq, hq', Instr.sliceAt, Instr.slice, run_underlying ht, r, run_sizeT hn]
  obtain ⟨hmf, hv⟩ := if_some hv3
  rw [blt_eq] at hmf
  have hmf := of_decide_eq_true hmf
  have hv' : some (Value.slice (@Bool.rec (fun _ => Option Addr) (addO ad (l * n)) ad (Nat.beq mm l)) (h - l) (mm - l)) = some v := hv
  clear hv
  rw [beq_eq] at hv'
  cases ex with
  | slcN =>
    have e0 : capLow 0 = 0 := by rw [capLow_eq]; rfl
    rw [e0] at hb0
    have hm0 : mm = 0 := by omega
    have hh0 : h = 0 := by omega
    have hl0 : l = 0 := by omega
    subst hm0 hh0 hl0
    cases hv'
    exact ⟨_, .slcN, fun w => by rw [run none 0 rfl (by rw [e0]; exact Nat.le_refl 0) w]; rfl⟩
  | @slc b B o0 S i j _ _ c' eb hc hl hj hS =>
    refine ⟨_, ?_, run _ _ rfl hc.low⟩
    have hcr : CapR (mm - l) (mm - l) := by unfold CapR; rw [if_pos (by omega)]
    have hle : h - l ≤ capLow (mm - l) := by rw [capLow_eq, Nat.mod_eq_of_lt (by omega)]; omega
    by_cases q : mm = l
    · rw [decide_eq_true q] at hv'
      cases hv'
      rw [if_pos q]
      exact .slc eb hcr hle (.inr (by omega)) (fun q => by omega)
    · rw [decide_eq_false q] at hv'
      cases hv'
      rw [if_neg q]
      show VR ι (.slice (some (addA ⟨b, i, none⟩ (l * n))) (h - l) (mm - l)) (.slice (some ((⟨B, j, none⟩ : Addr).add (l * n))) (h - l) (mm - l))
      rw [addA_plain, add_plain]
      refine .slc eb hcr hle ?_ (fun q => by omega)
      rcases hj with rfl | ⟨rfl, hc0⟩
      · exact .inl (by omega)
      · have := hc.low; omega
end
end Go.Proofs.Ytndfelbgppbncaa.Ev
