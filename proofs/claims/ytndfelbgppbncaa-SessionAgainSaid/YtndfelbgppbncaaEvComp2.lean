/- The evaluator's soundness: what 'compOp' makes does what the operation does. -/
import Derived.Test.YtndfelbgppbncaaEvOps
set_option linter.unusedVariables false
namespace Go.Proofs.Ytndfelbgppbncaa.Ev
section
variable {P : Program} {o : Oper}
theorem blt_lt {a b : Nat} (h : Nat.blt a b = true) : a < b := by rw [blt_eq] at h; exact of_decide_eq_true h
theorem ble_le {a b : Nat} (h : Nat.ble a b = true) : a ≤ b := by rw [ble_eq] at h; exact of_decide_eq_true h
theorem pure_some {α : Type} {a b : α} (h : (pure a : Option α) = some b) : b = a := (Option.some.inj h).symm
theorem loadT_ok {t : TypeId} {x : AO} {n : Nat} {f : Heap → Env → Option Value} (h : loadT P t x = some (n, f)) :
    LooksOK (some (x, n)) f ∧ (∀ {y : Operand}, o.op = .load t y → cO y = some x → LS P o f) := by
  obtain ⟨b, hb, h⟩ := bind_some h
  cases b with
  | true =>
    obtain ⟨m, hm, h⟩ := bind_some h
    obtain ⟨h0, h⟩ := guard_some h
    have := pure_some h
    cases this
    exact ⟨looks_loads (blt_lt h0), fun ho hx => ls_loads hb hm ho hx⟩
  | false =>
    have := pure_some h
    cases this
    exact ⟨looks_load, fun ho hx => ls_load hb ho hx⟩
theorem cConv_ok {s d : TypeId} {x : Operand} {x' : AO} {p : AOp} (h : cConv P s d x' = some p) (ho : o.op = .convert s d x) (hx : cO x = some x') : OpS P o p := by
  obtain ⟨ds, hs, h⟩ := bind_some h
  obtain ⟨dd, hd, h⟩ := bind_some h
  cases ds <;> cases dd <;> first | contradiction | skip
  case int.int k0 k => have := pure_some h; subst this; exact ps_conv hs hd ho hx
  case string.string => have := pure_some h; subst this; exact ps_convStr hs hd ho hx
  case string.slice e =>
    obtain ⟨de, he, h⟩ := bind_some h
    split at h
    · have := pure_some h; subst this; exact ns_s2b hs hd he ho hx
    · cases h
  case slice.string e =>
    obtain ⟨de, he, h⟩ := bind_some h
    split at h
    · have := pure_some h; subst this
      exact ⟨ls_b2s hs hd he ho hx, looks_b2s, fun _ _ q => by cases q⟩
    · cases h
  case slice.slice e1 e =>
    obtain ⟨de, he, h⟩ := bind_some h
    split at h
    · obtain ⟨hsd, h2⟩ := guard_some h
      have hsd := Nat.eq_of_beq_eq_true hsd
      subst hsd
      have := pure_some h2; subst this
      exact ⟨ls_mark hd he ho hx, looks_mark, fun _ _ q => by cases q; exact ⟨x, by simp [ho, Op.operands], hx⟩⟩
    · cases h
theorem toList_one {α : Type} {a : Array α} {x : α} (h : a.toList = [x]) : a = #[x] := by
  apply Array.ext'; rw [h]
theorem toList_two {α : Type} {a : Array α} {x y : α} (h : a.toList = [x, y]) : a = #[x, y] := by
  apply Array.ext'; rw [h]
theorem textOrSlice {d : TypeDesc} (h : isTextOrSlice d = true) : d = .string ∨ ∃ e, d = .slice e := by
  cases d <;> first | exact .inl rfl | exact .inr ⟨_, rfl⟩ | cases h
theorem cCall_ok {c : Call} {p : AOp} (h : cCall P c = some p) (ho : o.op = .call c) : OpS P o p := by
  unfold cCall at h
  generalize harg : c.args.toList = args at h
  cases hcal : c.callee with
  | invoke r m => rw [hcal] at h; cases h
  | value y =>
    rw [hcal] at h
    cases y with
    | func f =>
      obtain ⟨as, h1, h⟩ := bind_some h
      have := pure_some h; subst this
      exact ⟨c, ho, hcal, by rw [harg]; exact h1⟩
    | tmp t =>
      obtain ⟨x', h1, h⟩ := bind_some h
      obtain ⟨as, h2, h⟩ := bind_some h
      have := pure_some h; subst this
      exact ⟨c, _, ho, hcal, h1, by rw [harg]; exact h2⟩
    | const t =>
      obtain ⟨x', h1, h⟩ := bind_some h
      obtain ⟨as, h2, h⟩ := bind_some h
      have := pure_some h; subst this
      exact ⟨c, _, ho, hcal, h1, by rw [harg]; exact h2⟩
    | global t =>
      obtain ⟨x', h1, h⟩ := bind_some h
      obtain ⟨as, h2, h⟩ := bind_some h
      have := pure_some h; subst this
      exact ⟨c, _, ho, hcal, h1, by rw [harg]; exact h2⟩
  | builtin bi =>
    rw [hcal] at h
    cases bi <;> simp only at h <;> first | contradiction | skip
    case append =>
      match args, harg, h with
      | [s, x], harg, h =>
        simp only at h
        split at h
        · rename_i t u hty
          obtain ⟨dt, h1, h⟩ := bind_some h
          obtain ⟨du, h2, h⟩ := bind_some h
          obtain ⟨h3, h⟩ := guard_some h
          split at h
          · rename_i e
            obtain ⟨size, h4, h⟩ := bind_some h
            obtain ⟨h5, h⟩ := guard_some h
            obtain ⟨z, h6, h⟩ := bind_some h
            obtain ⟨b, h7, h⟩ := bind_some h
            obtain ⟨s', h8, h⟩ := bind_some h
            obtain ⟨x', h9, h⟩ := bind_some h
            have := pure_some h; subst this
            exact es_append ho hcal (toList_two harg) (toList_two hty) h1 h2 (textOrSlice h3) h4 (blt_lt h5) h7 h6 h8 h9
          · cases h
        · cases h
      | [], harg, h => cases h
      | [_], harg, h => cases h
      | _ :: _ :: _ :: _, harg, h => cases h
    case clear =>
      match args, harg, h with
      | [x], harg, h =>
        obtain ⟨t, h1, h⟩ := bind_some h
        obtain ⟨d, h2, h⟩ := bind_some h
        split at h
        · obtain ⟨z, h3, h⟩ := bind_some h
          obtain ⟨x', h4, h⟩ := bind_some h
          have := pure_some h; subst this
          exact es_clear ho hcal (toList_one harg) h1 h2 h3 h4
        · cases h
      | [], harg, h => cases h
      | _ :: _ :: _, harg, h => cases h
    case len =>
      match args, harg, h with
      | [x], harg, h =>
        obtain ⟨t, h1, h⟩ := bind_some h
        obtain ⟨d, h2, h⟩ := bind_some h
        split at h
        · obtain ⟨x', h3, h⟩ := bind_some h
          have := pure_some h; subst this
          exact ps_lenS ho hcal (toList_one harg) h1 h2 h3
        · obtain ⟨x', h3, h⟩ := bind_some h
          have := pure_some h; subst this
          exact ps_len ho hcal (toList_one harg) h1 h2 h3
        · have := pure_some h; subst this
          exact ps_lenA ho hcal (toList_one harg) h1 h2
        · cases h
      | [], harg, h => cases h
      | _ :: _ :: _, harg, h => cases h
    case min =>
      match args, harg, h with
      | x :: xs, harg, h =>
        obtain ⟨x', h1, h⟩ := bind_some h
        obtain ⟨xs', h2, h⟩ := bind_some h
        have := pure_some h; subst this
        exact ps_min ho hcal harg h1 h2
      | [], harg, h => cases h
    case max =>
      match args, harg, h with
      | x :: xs, harg, h =>
        obtain ⟨x', h1, h⟩ := bind_some h
        obtain ⟨xs', h2, h⟩ := bind_some h
        have := pure_some h; subst this
        exact ps_max ho hcal harg h1 h2
      | [], harg, h => cases h
theorem compOp_ok {p : AOp} (h : compOp P o.op = some p) : OpS P o p := by
  cases hop : o.op <;> rw [hop] at h <;> simp only [compOp] at h <;> first | contradiction | skip
  case move x => obtain ⟨x', h1, h⟩ := bind_some h; have := pure_some h; subst this; exact ps_move hop h1
  case assign x => obtain ⟨x', h1, h⟩ := bind_some h; have := pure_some h; subst this; exact ps_assign hop h1
  case pick c a b =>
    obtain ⟨c', h1, h⟩ := bind_some h
    obtain ⟨a', h2, h⟩ := bind_some h
    obtain ⟨b', h3, h⟩ := bind_some h
    have := pure_some h; subst this; exact ps_pick hop h1 h2 h3
  case alloc t =>
    obtain ⟨z, h1, h⟩ := bind_some h
    have := pure_some h; subst this; exact ns_alloc h1 hop
  case box t x => obtain ⟨x', h1, h⟩ := bind_some h; have := pure_some h; subst this; exact ns_box hop h1
  case build t parts =>
    obtain ⟨d, h1, h⟩ := bind_some h
    split at h
    · obtain ⟨h2, h⟩ := guard_some h
      obtain ⟨ps, h3, h⟩ := bind_some h
      obtain ⟨z, h4, h⟩ := bind_some h
      have := pure_some h; subst this
      exact ps_buildS h1 h2 h3 h4 hop
    · obtain ⟨s, h2, h⟩ := bind_some h
      obtain ⟨ps, h3, h⟩ := bind_some h
      obtain ⟨z, h4, h⟩ := bind_some h
      have := pure_some h; subst this
      exact ps_buildA h1 h2 h3 h4 hop
    · cases h
  case buildSlice t len parts =>
    obtain ⟨d, h1, h⟩ := bind_some h
    split at h
    · obtain ⟨s, h2, h⟩ := bind_some h
      obtain ⟨h3, h⟩ := guard_some h
      obtain ⟨ps, h4, h⟩ := bind_some h
      obtain ⟨z, h5, h⟩ := bind_some h
      have := pure_some h; subst this
      simp only [Bool.and_eq_true] at h3
      exact ns_slice h1 h2 h5 (ble_le h3.1) (ble_le h3.2) h4 hop
    · cases h
  case load t x =>
    obtain ⟨x', h1, h⟩ := bind_some h
    obtain ⟨⟨n, f⟩, h2, h⟩ := bind_some h
    have := pure_some h; subst this
    have := loadT_ok (o := o) h2
    exact ⟨this.2 hop h1, this.1, fun _ _ q => by cases q; exact ⟨_, by simp [hop, Op.operands], h1⟩⟩
  case store t a x =>
    obtain ⟨n, h1, h⟩ := bind_some h
    obtain ⟨a', h2, h⟩ := bind_some h
    obtain ⟨x', h3, h⟩ := bind_some h
    have := pure_some h; subst this
    exact es_store h1 hop h2 h3
  case nilCheck x => obtain ⟨x', h1, h⟩ := bind_some h; have := pure_some h; subst this; exact ps_nilck hop h1
  case binOp op t x y t' =>
    obtain ⟨x', h1, h⟩ := bind_some h
    obtain ⟨y', h2, h⟩ := bind_some h
    obtain ⟨f, h3, h⟩ := bind_some h
    have := pure_some h; subst this
    exact cBin_ok h3 hop h1 h2
  case unOp op t x =>
    cases op <;> simp only at h <;> first | contradiction | skip
    all_goals
      obtain ⟨x', h1, h⟩ := bind_some h
      have := pure_some h; subst this
      first | exact ps_not hop h1 | exact ps_neg hop h1 | exact ps_com hop h1
  case convert s d x =>
    obtain ⟨x', h1, h⟩ := bind_some h
    exact cConv_ok h hop h1
  case makeInterface t x =>
    obtain ⟨d, h1, h⟩ := bind_some h
    split at h
    · cases h
    · rename_i hd
      obtain ⟨x', h2, h⟩ := bind_some h
      have := pure_some h; subst this
      exact ps_iface h1 (fun ms q => hd ms q) hop h2
  case makeFunc fn first captured =>
    cases fn <;> simp only at h <;> first | contradiction | skip
    obtain ⟨fs, h1, h⟩ := bind_some h
    obtain ⟨cs, h2, h⟩ := bind_some h
    have := pure_some h; subst this
    exact ps_func hop h1 h2
  case makeSlice t l c =>
    obtain ⟨d, h1, h⟩ := bind_some h
    split at h
    · obtain ⟨s, h2, h⟩ := bind_some h
      obtain ⟨b, h3, h⟩ := bind_some h
      obtain ⟨z, h4, h⟩ := bind_some h
      obtain ⟨l', h5, h⟩ := bind_some h
      obtain ⟨c', h6, h⟩ := bind_some h
      have := pure_some h; subst this
      exact ns_make h1 h2 h3 h4 hop h5 h6
    · cases h
  case slice t x lo hi mx =>
    obtain ⟨d, h1, h⟩ := bind_some h
    split at h
    · obtain ⟨x', h2, h⟩ := bind_some h
      obtain ⟨lo', h3, h⟩ := bind_some h
      obtain ⟨hi', h4, h⟩ := bind_some h
      have := pure_some h; subst this
      exact ps_slcStr h1 hop h2 h3 h4
    · obtain ⟨s, h5, h⟩ := bind_some h
      obtain ⟨x', h2, h⟩ := bind_some h
      obtain ⟨lo', h3, h⟩ := bind_some h
      obtain ⟨hi', h4, h⟩ := bind_some h
      have := pure_some h; subst this
      exact ps_slc h1 h5 hop h2 h3 h4
    · obtain ⟨s, h5, h⟩ := bind_some h
      obtain ⟨x', h2, h⟩ := bind_some h
      obtain ⟨lo', h3, h⟩ := bind_some h
      obtain ⟨hi', h4, h⟩ := bind_some h
      obtain ⟨m', h6, h⟩ := bind_some h
      have := pure_some h; subst this
      exact ps_slc3 h1 h5 hop h2 h3 h4 h6
    · obtain ⟨h6, h⟩ := guard_some h
      obtain ⟨s, h5, h⟩ := bind_some h
      obtain ⟨x', h2, h⟩ := bind_some h
      obtain ⟨lo', h3, h⟩ := bind_some h
      obtain ⟨hi', h4, h⟩ := bind_some h
      have := pure_some h; subst this
      exact ps_slcA h1 h5 (blt_lt h6) hop h2 h3 h4
    · cases h
  case fieldAddr s x f =>
    obtain ⟨d, h1, h⟩ := bind_some h
    split at h
    · obtain ⟨fd, h2, h⟩ := bind_some h
      obtain ⟨n, h3, h⟩ := bind_some h
      obtain ⟨h4, h⟩ := guard_some h
      obtain ⟨x', h5, h⟩ := bind_some h
      have := pure_some h; subst this
      exact ps_faddr h1 h2 h3 (blt_lt h4) hop h5
    · cases h
  case field s x f =>
    obtain ⟨d, h1, h⟩ := bind_some h
    split at h
    · obtain ⟨fd, h2, h⟩ := bind_some h
      obtain ⟨b, h3, h⟩ := bind_some h
      cases b with
      | true =>
        obtain ⟨n, h4, h⟩ := bind_some h
        obtain ⟨x', h5, h⟩ := bind_some h
        have := pure_some h; subst this
        exact ps_fldA h1 h2 h3 h4 hop h5
      | false =>
        obtain ⟨x', h5, h⟩ := bind_some h
        have := pure_some h; subst this
        exact ps_fld h1 h2 h3 hop h5
    · cases h
  case indexAddr t x i =>
    obtain ⟨d, h1, h⟩ := bind_some h
    split at h
    · obtain ⟨s, h2, h⟩ := bind_some h
      obtain ⟨x', h3, h⟩ := bind_some h
      obtain ⟨i', h4, h⟩ := bind_some h
      have := pure_some h; subst this
      exact ps_idxA h1 h2 hop h3 h4
    · obtain ⟨s, h2, h⟩ := bind_some h
      obtain ⟨x', h3, h⟩ := bind_some h
      obtain ⟨i', h4, h⟩ := bind_some h
      have := pure_some h; subst this
      exact ps_idxS h1 h2 hop h3 h4
    · cases h
  case index t x i =>
    obtain ⟨d, h1, h⟩ := bind_some h
    split at h
    · obtain ⟨b, h2, h⟩ := bind_some h
      cases b with
      | true =>
        obtain ⟨s, h3, h⟩ := bind_some h
        obtain ⟨x', h4, h⟩ := bind_some h
        obtain ⟨i', h5, h⟩ := bind_some h
        have := pure_some h; subst this
        exact ps_idxVA h1 h3 h2 hop h4 h5
      | false =>
        obtain ⟨s, h3, h⟩ := bind_some h
        obtain ⟨x', h4, h⟩ := bind_some h
        obtain ⟨i', h5, h⟩ := bind_some h
        have := pure_some h; subst this
        exact ps_idxV h1 h3 h2 hop h4 h5
    · obtain ⟨x', h4, h⟩ := bind_some h
      obtain ⟨i', h5, h⟩ := bind_some h
      have := pure_some h; subst this
      exact ps_idxStr h1 hop h4 h5
    · cases h
  case extract x i => obtain ⟨x', h1, h⟩ := bind_some h; have := pure_some h; subst this; exact ps_ext hop h1
  case call c => exact cCall_ok h hop
end
end Go.Proofs.Ytndfelbgppbncaa.Ev
