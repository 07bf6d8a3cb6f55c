/- The evaluator's soundness: regions that draw their order: what the checks say. -/
import Derived.Test.YtndfelbgppbncaaEvDraw
set_option linter.unusedVariables false
namespace Go.Proofs.Ytndfelbgppbncaa.Ev
section
/-- What has run, has run behind all that surely runs ahead of it. -/
def Closed (ops : Array Oper) (S : Nat → Prop) : Prop := ∀ i o, ops[i]? = some o → S i → ∀ e ∈ o.after, isBase e = true → S e.on
theorem maskE_bit {ms : List Nat} {j : Nat} : ∀ {l : List Edge}, (maskE ms l).testBit j = true → ∃ e ∈ l, isBase e = true ∧ (j = e.on ∨ ((ms[e.on]?).getD 0).testBit j = true)
  | [], h => by simp [maskE] at h
  | e :: l, h => by
    unfold maskE at h
    by_cases q : isBase e = true
    · rw [if_pos q, Nat.testBit_or, Nat.testBit_or] at h
      simp only [Bool.or_eq_true] at h
      rcases h with h | h | h
      · obtain ⟨e', q1, q2⟩ := maskE_bit h
        exact ⟨e', List.mem_cons_of_mem _ q1, q2⟩
      · exact ⟨e, List.mem_cons_self, q, .inr h⟩
      · refine ⟨e, List.mem_cons_self, q, .inl ?_⟩
        simp only [Nat.shiftLeft_eq, Nat.one_mul] at h
        rw [Nat.testBit_two_pow] at h
        exact (of_decide_eq_true h).symm
    · rw [if_neg q] at h
      obtain ⟨e', q1, q2⟩ := maskE_bit h
      exact ⟨e', List.mem_cons_of_mem _ q1, q2⟩
theorem masks_bit {ops : Array Oper} {S : Nat → Prop} (hS : Closed ops S) : ∀ (l : List Oper) (ms : List Nat), (∀ i o, l[i]? = some o → ops[ms.length + i]? = some o) → (∀ i j, bit ms i j = true → S i → S j) →
    ∀ i j, bit (masks l ms) i j = true → S i → S j
  | [], ms, _, h => h
  | o :: l, ms, hl, h => by
    unfold masks
    refine masks_bit hS l (ms ++ [maskE ms o.after.toList]) (fun i o' q => ?_) (fun i j hb hi => ?_)
    · have := hl (i + 1) o' (by simpa using q)
      rw [List.length_append, List.length_singleton, show ms.length + 1 + i = ms.length + (i + 1) by omega]
      exact this
    · unfold bit at hb
      by_cases q : i < ms.length
      · rw [List.getElem?_append_left q] at hb
        exact h i j hb hi
      · by_cases q2 : i = ms.length
        · subst q2
          rw [List.getElem?_append_right (Nat.le_refl _), Nat.sub_self] at hb
          simp only [List.getElem?_cons_zero, Option.getD_some] at hb
          obtain ⟨e, g1, g2, g3⟩ := maskE_bit hb
          have hSe := hS ms.length o (by simpa using hl 0 o rfl) hi e (Array.mem_toList_iff.1 g1) g2
          rcases g3 with rfl | g3
          · exact hSe
          · exact h e.on j g3 hSe
        · rw [List.getElem?_eq_none (by simp; omega)] at hb
          simp at hb
theorem masks_closed {ops : Array Oper} {S : Nat → Prop} (hS : Closed ops S) {i j : Nat} (h : bit (masks ops.toList []) i j = true) (hi : S i) : S j :=
  masks_bit hS ops.toList [] (fun i o q => by simpa using q) (fun i j h _ => by simp [bit] at h) i j h hi

theorem topo_ok {md : Region.Mode} {ops : Array Oper} {listed : Array Bool} (hsz : listed.size = ops.size) (hr : Region.ready md ops listed = []) : ∀ (L seen : List Nat), topoOk md ops L seen = true → (∀ i ∈ seen, listed.getD i false = true) → ∀ i, i < ops.size → listed.getD i false = true
  | [], seen, h, hs, i, hi => by
    unfold topoOk at h
    rw [List.all_eq_true] at h
    have := h i (by simpa using hi)
    exact hs i (by simpa using this)
  | k :: L, seen, h, hs, i, hi => by
    unfold topoOk at h
    rw [Bool.and_eq_true] at h
    obtain ⟨h1, h2⟩ := h
    refine topo_ok hsz hr L (k :: seen) h2 (fun j hj => ?_) i hi
    rcases List.mem_cons.1 hj with rfl | hj
    · cases ho : ops[j]? with
      | none => rw [ho] at h1; cases h1
      | some o =>
        rw [ho] at h1
        have hlt : j < ops.size := (Array.getElem?_eq_some_iff.1 ho).1
        cases hl : listed.getD j false with
        | true => rfl
        | false =>
          exfalso
          have hm : j ∈ Region.ready md ops listed := by
            unfold Region.ready
            rw [List.mem_filter]
            refine ⟨by simpa using hlt, ?_⟩
            have hl2 : listed.getD j true = false := by
              have hj' : j < listed.size := by omega
              simp only [Array.getD_eq_getD_getElem?, Array.getElem?_eq_getElem hj', Option.getD_some] at hl ⊢
              exact hl
            simp only [hl2, Bool.not_false, Bool.true_and, ho, Option.map_some, Option.getD_some]
            rw [← Array.all_toList, List.all_eq_true]
            intro e he
            have := List.all_eq_true.1 h1 e he
            simp only [Bool.or_eq_true] at this ⊢
            rcases this with q | q
            · exact .inl q
            · exact .inr (hs e.on (by simpa using q))
          rw [hr] at hm
          cases hm
    · exact hs j hj
theorem topo_any {ops : Array Oper} {L : List Nat} : ∀ {seen : List Nat}, topoOk .text ops L seen = true → topoOk .any ops L seen = true := by
  induction L with
  | nil => intro seen h; exact h
  | cons k L ih =>
    intro seen h
    unfold topoOk at h ⊢
    rw [Bool.and_eq_true] at h ⊢
    refine ⟨?_, ih h.2⟩
    cases ho : ops[k]? with
    | none => rw [ho] at h; exact h.1
    | some o =>
      rw [ho] at h
      refine List.all_eq_true.2 fun e he => ?_
      have := List.all_eq_true.1 h.1 e he
      simp only [Bool.or_eq_true] at this ⊢
      rcases this with q | q
      · refine .inl ?_
        unfold Region.binds at q ⊢
        cases hg : e.ground <;> rw [hg] at q <;> simp_all
      · exact .inr q
theorem ready_spec {md : Region.Mode} {ops : Array Oper} {listed : Array Bool} (hsz : listed.size = ops.size) {i : Nat} (h : i ∈ Region.ready md ops listed) :
    i < ops.size ∧ listed.getD i false = false ∧ ∃ o, ops[i]? = some o ∧ ∀ e ∈ o.after, isBase e = true → listed.getD e.on false = true := by
  unfold Region.ready at h
  rw [List.mem_filter] at h
  obtain ⟨h1, h2⟩ := h
  have hlt : i < ops.size := by simpa using h1
  have hj' : i < listed.size := by omega
  simp only [Bool.and_eq_true, Bool.not_eq_true'] at h2
  refine ⟨hlt, ?_, ops[i], Array.getElem?_eq_getElem hlt, fun e he hb => ?_⟩
  · have := h2.1
    simp only [Array.getD_eq_getD_getElem?, Array.getElem?_eq_getElem hj', Option.getD_some] at this ⊢
    exact this
  · have q := h2.2
    rw [Array.getElem?_eq_getElem hlt, Option.map_some, Option.getD_some, ← Array.all_toList] at q
    have := List.all_eq_true.1 q e (Array.mem_toList_iff.2 he)
    simp only [Bool.or_eq_true, Bool.not_eq_true'] at this
    rcases this with q | q
    · exfalso
      unfold isBase at hb
      unfold Region.binds at q
      cases hg : e.ground <;> rw [hg] at q hb <;> simp_all
    · exact q
theorem listed_set {listed : Array Bool} {i : Nat} (hi : i < listed.size) (j : Nat) : (listed.setIfInBounds i true).getD j false = true ↔ j = i ∨ listed.getD j false = true := by
  simp only [Array.getD_eq_getD_getElem?]
  by_cases q : j = i
  · subst q; simp [Array.getElem?_setIfInBounds_self_of_lt hi]
  · rw [Array.getElem?_setIfInBounds_ne (fun e => q e.symm)]; simp [q]

theorem dstsOf_cons (o : Oper) (l : List Oper) (k : Nat) : dstsOf (o :: l) k = match o.dst with
    | none => dstsOf l (k + 1)
    | some d => (d, k) :: dstsOf l (k + 1) := rfl
theorem dstsOf_mem : ∀ (l : List Oper) (k i : Nat) (o : Oper) (d : Tmp), l[i]? = some o → o.dst = some d → (d, k + i) ∈ dstsOf l k := by
  intro l
  induction l with
  | nil => intro k i o d h; simp at h
  | cons o' l ih =>
    intro k i o d h hd
    rw [dstsOf_cons]
    cases i with
    | zero =>
      simp only [List.getElem?_cons_zero, Option.some.injEq] at h
      subst h
      rw [hd]
      exact List.mem_cons_self
    | succ i =>
      have := ih (k + 1) i o d (by simpa using h) hd
      rw [show k + 1 + i = k + (i + 1) by omega] at this
      cases o'.dst with
      | none => exact this
      | some d' => exact List.mem_cons_of_mem _ this
theorem nodupT_spec : ∀ {l : List (Tmp × Nat)}, nodupT l = true → ∀ {d : Tmp} {i j : Nat}, (d, i) ∈ l → (d, j) ∈ l → i = j
  | [], _, d, i, j, h, _ => by cases h
  | (d', k) :: l, h, d, i, j, hi, hj => by
    unfold nodupT at h
    rw [Bool.and_eq_true] at h
    have key : ∀ m, (d', m) ∈ l → False := fun m hm => by
      have := List.all_eq_true.1 h.1 _ hm
      simp at this
    rcases List.mem_cons.1 hi with q1 | q1 <;> rcases List.mem_cons.1 hj with q2 | q2
    · cases q1; cases q2; rfl
    · cases q1; exact (key j q2).elim
    · cases q2; exact (key i q1).elim
    · exact nodupT_spec h.2 q1 q2
theorem effects_cons (o : AOp) (l : List AOp) (k : Nat) : effects (o :: l) k = if aopE o then k :: effects l (k + 1) else effects l (k + 1) := rfl
theorem effects_mem : ∀ (l : List AOp) (k i : Nat) (op : AOp), l[i]? = some op → aopE op = true → k + i ∈ effects l k := by
  intro l
  induction l with
  | nil => intro k i o h; simp at h
  | cons o' l ih =>
    intro k i o h hd
    rw [effects_cons]
    cases i with
    | zero =>
      simp only [List.getElem?_cons_zero, Option.some.injEq] at h
      subst h
      rw [if_pos hd]
      exact List.mem_cons_self
    | succ i =>
      have := ih (k + 1) i o (by simpa using h) hd
      rw [show k + 1 + i = k + (i + 1) by omega] at this
      split
      · exact List.mem_cons_of_mem _ this
      · exact this
/-- an operation looks at nothing that is told out of turn -/
def Sees (ops : Array Oper) (ms : List Nat) (i : Nat) (firm : Bool) (o : Oper) : Prop :=
  ∀ t ∈ o.looksAt ops, ∀ j oj, ops[j]? = some oj → oj.dst = some t → (j < i ∧ bit ms i j = true) ∨ (firm = false ∧ i < j ∧ bit ms j i = true)
theorem sees_ok {ops : Array Oper} {ms : List Nat} {i : Nat} {firm : Bool} {o : Oper} (h : seesOk ms (dstsOf ops.toList 0) i firm (o.looksAt ops) = true) : Sees ops ms i firm o := fun t ht j oj hj hd => by
  have h1 := List.all_eq_true.1 h t ht
  have hm := dstsOf_mem ops.toList 0 j oj t (by simpa using hj) hd
  rw [Nat.zero_add] at hm
  have h2 := List.all_eq_true.1 h1 _ hm
  simp only [bne_self_eq_false, Bool.false_or, Bool.or_eq_true, Bool.and_eq_true, Bool.not_eq_true'] at h2
  rcases h2 with ⟨q1, q2⟩ | ⟨⟨q0, q1⟩, q2⟩
  · exact .inl ⟨blt_lt q1, q2⟩
  · exact .inr ⟨q0, blt_lt q1, q2⟩
theorem drawOk_mk {ρ : Env} {hs : Hs} {x : AO} {n : Nat} {c : Checks} : ∀ {es : List Nat}, drawOk ρ hs (mkChecks x n es c) = true → (∀ e ∈ es, chk1 (Hs.drop e hs).head (Hs.drop e hs).tail.head n (val ρ x) = true) ∧ drawOk ρ hs c = true
  | [], h => ⟨(fun _ q => by cases q), h⟩
  | e :: es, h => by
    have h' : band (chk1 (Hs.drop e hs).head (Hs.drop e hs).tail.head n (val ρ x)) (drawOk ρ hs (mkChecks x n es c)) = true := h
    rw [band_eq, Bool.and_eq_true] at h'
    obtain ⟨h1, h2⟩ := drawOk_mk h'.2
    refine ⟨fun e' q => ?_, h2⟩
    rcases List.mem_cons.1 q with rfl | q
    · exact h'.1
    · exact h1 e' q
/-- What the checks say of one operation. -/
def CheckOf (ops : Array Oper) (es ms : List Nat) (ρ : Env) (hs : Hs) (i : Nat) (o : Oper) (op : AOp) : Prop :=
  match op with
  | .l looks _ => Sees ops ms i true o ∧ ∀ e ∈ es, (if e < i then bit ms i e else bit ms e i) = true ∨ ∃ x n, looks = some (x, n) ∧ chk1 (Hs.drop e hs).head (Hs.drop e hs).tail.head n (val ρ x) = true
  | _ => Sees ops ms i false o
theorem checks_ok {ops : Array Oper} {es ms : List Nat} {ρ : Env} {hs : Hs} : ∀ {ol : List Oper} {l : List AOp} {k : Nat} {c : Checks}, checksOf ops es ms (dstsOf ops.toList 0) ol l k = some c → drawOk ρ hs c = true →
    ∀ i o op, ol[i]? = some o → l[i]? = some op → CheckOf ops es ms ρ hs (k + i) o op
  | [], l, k, c, h, hc, i, o, op, ho, hop => by simp at ho
  | o' :: ol, [], k, c, h, hc, i, o, op, ho, hop => by simp at hop
  | o' :: ol, op' :: l, k, c, h, hc, i, o, op, ho, hop => by
    unfold checksOf at h
    obtain ⟨rest, h1, h⟩ := bind_some h
    have key : CheckOf ops es ms ρ hs k o' op' ∧ drawOk ρ hs rest = true := by
      cases op' with
      | l looks f =>
        obtain ⟨h2, h⟩ := guard_some h
        cases looks with
        | some xn =>
          obtain ⟨x, n⟩ := xn
          have := pure_some h
          subst this
          obtain ⟨g1, g2⟩ := drawOk_mk hc
          refine ⟨⟨sees_ok h2, fun e he => ?_⟩, g2⟩
          by_cases q : (if e < k then bit ms k e else bit ms e k) = true
          · exact .inl q
          · exact .inr ⟨x, n, rfl, g1 e (List.mem_filter.2 ⟨he, by simpa using q⟩)⟩
        | none =>
          obtain ⟨h3, h⟩ := guard_some h
          have := pure_some h
          subst this
          refine ⟨⟨sees_ok h2, fun e he => ?_⟩, hc⟩
          by_cases q : (if e < k then bit ms k e else bit ms e k) = true
          · exact .inl q
          · exfalso
            have : e ∈ es.filter fun e => !(if e < k then bit ms k e else bit ms e k) := List.mem_filter.2 ⟨he, by simpa using q⟩
            rw [List.isEmpty_iff.1 h3] at this
            cases this
      | _ =>
        obtain ⟨h2, h⟩ := guard_some h
        have := pure_some h
        subst this
        exact ⟨sees_ok h2, hc⟩
    cases i with
    | zero =>
      simp only [List.getElem?_cons_zero, Option.some.injEq] at ho hop
      subst ho hop
      exact key.1
    | succ i =>
      have := checks_ok h1 key.2 i o op (by simpa using ho) (by simpa using hop)
      rw [show k + 1 + i = k + (i + 1) by omega] at this
      exact this
end
end Go.Proofs.Ytndfelbgppbncaa.Ev
