/- The evaluator's soundness: regions that draw their order: one operation more. -/
import Derived.Test.YtndfelbgppbncaaEvDraw3
set_option linter.unusedVariables false
namespace Go.Proofs.Ytndfelbgppbncaa.Ev
section
variable {P : Program} {call : CallT} {nt : Nat} {ops : Array Oper} {ms : List Nat} {al : List AOp} {E : Nat → Env} {H : Nat → Heap} {D : Nat → Nat} {V : Nat → Value} {W : Nat → Bool}
variable {base : Nat} {ds : List Deferred} {ι0 : Inj} {h0 : Heap} {w0 : World}
variable {S : Nat → Prop} {J : Nat} {ι : Inj} {hS : Heap} {a : Act} {w : World}
theorem put_getD {a : Act} {dst : Option Tmp} {v : Value} (hd : ∀ d, dst = some d → d < a.tmps.size) (t : Tmp) : (a.put dst v).tmps.getD t undef = if dst = some t then v else a.tmps.getD t undef := by
  cases dst with
  | none => rw [if_neg (by simp)]; rfl
  | some d =>
    have hlt := hd d rfl
    by_cases q : d = t
    · subst q
      rw [if_pos rfl]
      simp only [Act.put, Array.getD_eq_getD_getElem?, Array.getElem?_setIfInBounds_self_of_lt hlt]
      rfl
    · rw [if_neg (fun h => q (Option.some.inj h))]
      simp only [Act.put, Array.getD_eq_getD_getElem?, Array.getElem?_setIfInBounds_ne q]
theorem closed_more {i : Nat} {o : Oper} (hcl : Closed ops S) (ho : ops[i]? = some o) (hb : ∀ e ∈ o.after, isBase e = true → S e.on) : Closed ops (fun j => j = i ∨ S j) := fun j o' h1 h2 e he hbe => by
  rcases h2 with rfl | h2
  · rw [ho] at h1; cases h1; exact .inr (hb e he hbe)
  · exact .inr (hcl j o' h1 h2 e he hbe)
theorem Ctx.anc (C : Ctx P call nt ops ms al E H D V W) {i j : Nat} {o : Oper} (hcl : Closed ops S) (ho : ops[i]? = some o) (hb : ∀ e ∈ o.after, isBase e = true → S e.on) (h : bit ms i j = true) (hne : j ≠ i) : S j := by
  rcases C.closed _ (closed_more hcl ho hb) i j h (.inl rfl) with q | q
  · exact absurd q hne
  · exact q
theorem DInv.seen (C : Ctx P call nt ops ms al E H D V W) (I : DInv ops al E H D V W nt base ds ι0 h0 w0 S J ι hS a w) {i : Nat} {o : Oper} {firm : Bool} (hcl : Closed ops S) (ho : ops[i]? = some o) (hns : ¬ S i)
    (hb : ∀ e ∈ o.after, isBase e = true → S e.on) (hs : Sees ops ms i firm o) {t : Tmp} (ht : t ∈ o.looksAt ops) : VR ι (val (E i) (.t (pos t))) (a.tmps.getD t undef) := by
  have hi : i < ops.size := (Array.getElem?_eq_some_iff.1 ho).1
  have key : ∀ (j : Nat) (oj : Oper), ops[j]? = some oj → oj.dst = some t → (j < i ∧ S j) ∨ (i < j ∧ ¬ S j) := fun j oj h1 h2 => by
    rcases hs t ht j oj h1 h2 with ⟨q1, q2⟩ | ⟨_, q1, q2⟩
    · exact .inl ⟨q1, C.anc hcl ho hb q2 (by omega)⟩
    · exact .inr ⟨q1, fun q => hns (C.closed S hcl j i q2 q)⟩
  by_cases q : ∃ (j : Nat) (oj : Oper), ops[j]? = some oj ∧ oj.dst = some t
  · obtain ⟨j, oj, h1, h2⟩ := q
    rcases key j oj h1 h2 with ⟨g1, g2⟩ | ⟨g1, g2⟩
    · rw [C.told h1 h2 g1 (by omega)]
      exact I.envS j oj t g2 h1 h2
    · rw [C.first (by omega) fun k o' h3 h4 h5 => by have := C.dst j k oj o' t h1 h4 h2 h5; omega]
      exact I.env t fun k o' h3 h4 h5 => by have := C.dst j k oj o' t h1 h4 h2 h5; subst this; exact g2 h3
  · rw [C.first (by omega) fun k o' _ h4 h5 => q ⟨k, o', h4, h5⟩]
    exact I.env t fun k o' _ h4 h5 => q ⟨k, o', h4, h5⟩
theorem opd_of {ρ : Env} {o : Oper} (h : ∀ t, t ∈ o.looksAt ops → VR ι (val ρ (.t (pos t))) (a.tmps.getD t undef)) : OpdR ι ρ a o := fun x hx y hy => by
  rcases cO_some hy with ⟨t, rfl, rfl⟩ | ⟨v, rfl, rfl, hg⟩ | ⟨f, rfl, rfl⟩
  · refine h t ?_
    unfold Oper.looksAt
    refine List.mem_append_left _ (List.mem_filterMap.2 ⟨.tmp t, Array.mem_toList_iff.2 ?_, rfl⟩)
    first | exact hx | simpa using hx
  · exact .ground v hg
  · exact .func f .nil .nil
/-- The temporaries behind one operation more. -/
theorem DInv.tmps (C : Ctx P call nt ops ms al E H D V W) (I : DInv ops al E H D V W nt base ds ι0 h0 w0 S J ι hS a w) {i : Nat} {o : Oper} (ho : ops[i]? = some o) (hns : ¬ S i) {ι' : Inj} (hle : ι.le ι') {v' : Value} (hv : VR ι' (V i) v') :
    (∀ t, (∀ (j : Nat) (oj : Oper), (j = i ∨ S j) → ops[j]? = some oj → oj.dst ≠ some t) → VR ι' (val (E 0) (.t (pos t))) ((a.put o.dst v').tmps.getD t undef)) ∧
    (∀ (j : Nat) (oj : Oper) (t : Tmp), (j = i ∨ S j) → ops[j]? = some oj → oj.dst = some t → VR ι' (V j) ((a.put o.dst v').tmps.getD t undef)) ∧
    (a.put o.dst v').tmps.size = nt ∧ (a.put o.dst v').defers = ds := by
  have hi : i < ops.size := (Array.getElem?_eq_some_iff.1 ho).1
  obtain ⟨_, op, _, hop⟩ := C.get hi
  have hd : ∀ d, o.dst = some d → d < a.tmps.size := fun d q => by rw [I.size]; exact (C.step ho hop).2.1 d q
  refine ⟨fun t h => ?_, fun j oj t h1 h2 h3 => ?_, by rw [put_size]; exact I.size, by rw [put_defers]; exact I.defers⟩
  · rw [put_getD hd, if_neg (h i o (.inl rfl) ho)]
    exact (I.env t fun j oj h1 h2 => h j oj (.inr h1) h2).mono hle
  · rw [put_getD hd]
    rcases h1 with rfl | h1
    · rw [ho] at h2; cases h2
      rw [if_pos h3]; exact hv
    · rw [if_neg fun q => by have := C.dst i j o oj t ho h2 q h3; subst this; exact hns h1]
      exact (I.envS j oj t h1 h2 h3).mono hle
/-- One operation more, that makes no block and has no effect. -/
theorem DInv.quiet (C : Ctx P call nt ops ms al E H D V W) (I : DInv ops al E H D V W nt base ds ι0 h0 w0 S J ι hS a w) {i : Nat} {o : Oper} {op : AOp} (ho : ops[i]? = some o) (hop : al[i]? = some op) (he : aopE op = false) (hns : ¬ S i)
    (hno : ∀ k, ¬ Mk al E D V W i k) {ι' : Inj} {w' : World} {v' : Value} (hv : VR ι' (V i) v') (hr : Rel base ι' hS w') (hx : Ext ι hS w ι' hS w') :
    DInv ops al E H D V W nt base ds ι0 h0 w0 (fun j => j = i ∨ S j) J ι' hS (a.put o.dst v') w' := by
  obtain ⟨t1, t2, t3, t4⟩ := I.tmps C ho hns hx.le hv
  have ne : ∀ j k, Mk al E D V W j k → j ≠ i := fun j k m q => by subst q; exact hno k m
  refine ⟨I.le, fun e ope h1 h2 => ?_, hr, I.ext.trans hx, I.nx, I.big, fun b hb => I.blk b fun j k h1 h2 h3 => hb j k h1 (.inr h2) h3, fun j k h1 h2 h3 => ?_, fun j k h1 h2 => ?_, I.cf, t1, t2, t3, t4⟩
  · rw [← I.stage e ope h1 h2]
    have : e ≠ i := fun q => by subst q; rw [hop] at h1; cases h1; rw [he] at h2; cases h2
    simp [this]
  · rcases h2 with h2 | h2
    · exact absurd h2 (ne j k h3)
    · obtain ⟨g1, g2, g3⟩ := I.early j k h1 h2 h3
      refine ⟨g1, fun q => ?_, g3⟩
      cases hq : ι (D j) with
      | none => exact g2 hq
      | some x => have := hx.le _ _ hq; rw [q] at this; cases this
  · have h1' : ¬ S j := fun q => h1 (.inr q)
    obtain ⟨g1, g2⟩ := I.late j k h1' h2
    exact ⟨(hx.old _ (by have := (C.mk_top h2).2; have := I.big; have := I.nx; omega) g1).1, g2⟩
/-- One operation more, that makes a block. -/
theorem DInv.make (C : Ctx P call nt ops ms al E H D V W) (hd0 : D 0 = h0.next) (I : DInv ops al E H D V W nt base ds ι0 h0 w0 S J ι hS a w) {i : Nat} {o : Oper} {op : AOp} (ho : ops[i]? = some o) (hop : al[i]? = some op) (he : aopE op = false) (hns : ¬ S i)
    {k : Blk} (m : Mk al E D V W i k) {w' : World} {v' : Value} {Z : Nat} (hv : VR (ι.up (D i) (w.heap.size, 0, Z)) (V i) v') (hm : Made ι w w' k Z) :
    DInv ops al E H D V W nt base ds ι0 h0 w0 (fun j => j = i ∨ S j) J (ι.up (D i) (w.heap.size, 0, Z)) (hS.put (D i) k) (a.put o.dst v') w' := by
  obtain ⟨g1, g2⟩ := I.late i k hns m
  have hle := Inj.le_up (w.heap.size, 0, Z) g1
  obtain ⟨t1, t2, t3, t4⟩ := I.tmps C ho hns hle hv
  have hlt : D i < hS.next := by have := (C.mk_top m).2; have := I.big; have := I.nx; omega
  have hlo : h0.next ≤ D i := by rw [← hd0]; exact (C.mk_top m).1
  have hsb : hS.blk (D i) = none ∨ hS.blk (D i) = some k := by
    rw [I.hsD C hns m]
    by_cases q : i < J
    · exact .inr (g2 q)
    · exact .inl (I.cf i k J m (by omega) (Nat.le_refl _))
  have hr := I.rel.made hm g1 hsb (fun b => blk_put hS (D i) k b) (by rw [next_put]; exact Nat.le_refl _) (by rw [next_put]; exact hlt)
  have x := I.ext
  obtain ⟨n, pat, tr, c, e, fr, hk, hp, _⟩ := hm.ex
  refine ⟨I.le, fun e ope h1 h2 => ?_, hr, ⟨Inj.le_trans x.le hle, fun b q e' => ?_, fun b q e' => ?_, by rw [next_put]; exact x.next, by rw [hp, Array.size_push]; exact Nat.le_succ_of_le x.size, fun B hB hno => ?_, fun B hB ho' => ?_, hm.os.trans x.os, hm.tape.trans x.tape, hm.output.trans x.output⟩,
    by rw [next_put]; exact I.nx, I.big, fun b hb => ?_, fun j k' h1 h2 h3 => ?_, fun j k' h1 h2 => ?_, I.cf, t1, t2, t3, t4⟩
  · rw [← I.stage e ope h1 h2]
    have : e ≠ i := fun q => by subst q; rw [hop] at h1; cases h1; rw [he] at h2; cases h2
    simp [this]
  · obtain ⟨q1, q2⟩ := x.old b q e'
    exact ⟨by rw [Inj.up_ne _ _ (by omega)]; exact q1, by rw [blk_put, if_neg (by omega)]; exact q2⟩
  · rw [blk_put, if_neg (by omega)]; exact x.gone b q e'
  · rw [push_old hp (Nat.lt_of_lt_of_le hB x.size)]; exact x.keep B hB hno
  · obtain ⟨b, o', q1, q2⟩ := ho'
    by_cases q : b = D i
    · subst q
      rw [Inj.up_self] at q1
      have : w.heap.size = B := congrArg Prod.fst (Option.some.inj q1)
      have := x.size
      omega
    · rw [Inj.up_ne _ _ q] at q1
      rw [blk_put, if_neg q] at q2
      exact x.own B hB ⟨b, o', q1, q2⟩
  · rw [blk_put]
    by_cases q : b = D i
    · rw [if_pos q]
      subst q
      by_cases q2 : J ≤ i
      · exact absurd rfl (hb i k q2 (.inl rfl) m)
      · exact (g2 (by omega)).symm
    · rw [if_neg q]
      exact I.blk b fun j k' h1 h2 h3 => hb j k' h1 (.inr h2) h3
  · by_cases q : j = i
    · subst q
      rw [blk_put, if_pos rfl, Inj.up_self, h3.same m]
      exact ⟨rfl, by simp, by rw [hk]; rfl⟩
    · have q' : D j ≠ D i := fun e => q (C.mk_inj h3 m e)
      rw [blk_put, if_neg q', Inj.up_ne _ _ q']
      exact I.early j k' h1 (h2.resolve_left q) h3
  · have h1' : ¬ S j := fun q => h1 (.inr q)
    have q' : D j ≠ D i := fun e => h1 (.inl (C.mk_inj h2 m e))
    rw [Inj.up_ne _ _ q']
    exact I.late j k' h1' h2
/-- The blocks that were made ahead of their turn, laid over a heap. -/
theorem overlay (C : Ctx P call nt ops ms al E H D V W) (S : Nat → Prop) (J : Nat) (h : Heap) : ∀ n, n ≤ ops.size → ∃ h' : Heap, h'.next = h.next ∧ (∀ i k, J ≤ i → i < n → S i → Mk al E D V W i k → h'.blk (D i) = some k) ∧
    ∀ b, (∀ i k, J ≤ i → i < n → S i → Mk al E D V W i k → b ≠ D i) → h'.blk b = h.blk b
  | 0, _ => ⟨h, rfl, fun i k _ q => by omega, fun b _ => rfl⟩
  | n + 1, hn => by
    obtain ⟨h', h1, h2, h3⟩ := overlay C S J h n (by omega)
    by_cases q : J ≤ n ∧ S n ∧ ∃ k, Mk al E D V W n k
    · obtain ⟨q1, q2, k, m⟩ := q
      refine ⟨h'.put (D n) k, by rw [next_put]; exact h1, fun i k' g1 g2 g3 g4 => ?_, fun b hb => ?_⟩
      · rw [blk_put]
        by_cases e : D i = D n
        · rw [if_pos e]
          have := C.mk_inj g4 m e
          subst this
          rw [g4.same m]
        · rw [if_neg e]
          exact h2 i k' g1 (by have : i ≠ n := fun q => e (by rw [q]); omega) g3 g4
      · rw [blk_put, if_neg (hb n k q1 (Nat.lt_succ_self _) q2 m)]
        exact h3 b fun i k' g1 g2 g3 g4 => hb i k' g1 (by omega) g3 g4
    · refine ⟨h', h1, fun i k' g1 g2 g3 g4 => ?_, fun b hb => h3 b fun i k' g1 g2 g3 g4 => hb i k' g1 (by omega) g3 g4⟩
      by_cases e : i = n
      · subst e; exact absurd ⟨g1, g3, k', g4⟩ q
      · exact h2 i k' g1 (by omega) g3 g4
/-- One operation more, that may have an effect: the next one of those. -/
theorem DInv.eff (C : Ctx P call nt ops ms al E H D V W) (hd0 : D 0 = h0.next) (I : DInv ops al E H D V W nt base ds ι0 h0 w0 S J ι hS a w) {o : Oper} {op : AOp} (ho : ops[J]? = some o) (hop : al[J]? = some op) (he : aopE op = true) (hns : ¬ S J)
    {ι' : Inj} {w' : World} {v' : Value} (hv : VR ι' (V J) v') (hr : Rel base ι' (H (J + 1)) w') (hx : Ext ι (H J) w ι' (H (J + 1)) w') :
    ∃ hS', DInv ops al E H D V W nt base ds ι0 h0 w0 (fun j => j = J ∨ S j) (J + 1) ι' hS' (a.put o.dst v') w' := by
  have hJ : J < ops.size := (Array.getElem?_eq_some_iff.1 ho).1
  obtain ⟨t1, t2, t3, t4⟩ := I.tmps C ho hns hx.le hv
  have hno : ∀ k, ¬ Mk al E D V W J k := fun k m => by obtain ⟨f, q, _⟩ := m; rw [hop] at q; cases q; cases he
  have ne : ∀ j k, Mk al E D V W j k → j ≠ J := fun j k m q => by subst q; exact hno k m
  obtain ⟨hS', n1, n2, n3⟩ := overlay C S (J + 1) (H (J + 1)) ops.size (Nat.le_refl _)
  have n2' : ∀ i k, J + 1 ≤ i → S i → Mk al E D V W i k → hS'.blk (D i) = some k := fun i k g1 g2 g3 => n2 i k g1 (by have := g3.lt; rw [C.len] at this; exact this) g2 g3
  have n3' : ∀ b, (∀ i k, J + 1 ≤ i → S i → Mk al E D V W i k → b ≠ D i) → hS'.blk b = (H (J + 1)).blk b := fun b hb => n3 b fun i k g1 _ g2 g3 => hb i k g1 g2 g3
  have sp : ∀ b, (∃ i k, J + 1 ≤ i ∧ S i ∧ Mk al E D V W i k ∧ b = D i) ∨ hS'.blk b = (H (J + 1)).blk b := fun b => by
    by_cases q : ∃ i k, J + 1 ≤ i ∧ S i ∧ Mk al E D V W i k ∧ b = D i
    · exact .inl q
    · exact .inr (n3' b fun i k g1 g2 g3 g4 => q ⟨i, k, g1, g2, g3, g4⟩)
  have big : D ops.size ≤ (H (J + 1)).next := Nat.le_trans I.big hx.next
  have low : ∀ B, Own ι (H J) B → Own ι hS B := fun B ⟨b, x, q1, q2⟩ => by
    refine ⟨b, x, q1, ?_⟩
    rw [I.blk b fun i k g1 g2 g3 g4 => by rw [g4, I.cf i k J g3 g1 (Nat.le_refl _)] at q2; cases q2]
    exact q2
  have sep : ∀ i k B x, J + 1 ≤ i → S i → Mk al E D V W i k → ι (D i) = some (B, x) → ¬ Own ι (H J) B := fun i k B x g1 g2 g3 e' ⟨b, y, q1, q2⟩ => by
    have hb : hS.blk b = (H J).blk b := I.blk b fun i k g1 g2 g3 g4 => by rw [g4, I.cf i k J g3 g1 (Nat.le_refl _)] at q2; cases q2
    obtain ⟨e1, e2, e3⟩ := I.early i k (by omega) g2 g3
    have := I.rel.apart (D i) b B x y e' q1 (by rw [e1]; exact e3) (by rw [hb]; exact q2)
    subst this
    rw [I.cf i k J g3 (by omega) (Nat.le_refl _)] at q2
    cases q2
  have wh : ∀ i k B x, J + 1 ≤ i → S i → Mk al E D V W i k → ι (D i) = some (B, x) → B < w.heap.size := fun i k B x g1 g2 g3 e' => by
    obtain ⟨e1, e2, e3⟩ := I.early i k (by omega) g2 g3
    obtain ⟨n, pat, tr, hk⟩ := ownB_ex e3
    obtain ⟨o, Z⟩ := x
    exact blk_lt I.rel e' (e1.trans hk)
  have back : ∀ i k B x, J + 1 ≤ i → S i → Mk al E D V W i k → ι' (D i) = some (B, x) → ι (D i) = some (B, x) := fun i k B x g1 g2 g3 e' => by
    obtain ⟨e1, e2, e3⟩ := I.early i k (by omega) g2 g3
    cases hq : ι (D i) with
    | none => exact absurd hq e2
    | some y => rw [hx.le _ _ hq] at e'; exact e'
  have mix : ∀ i k B x b y, J + 1 ≤ i → S i → Mk al E D V W i k → ι' (D i) = some (B, x) → ι' b = some (B, y) → ownB ((H (J + 1)).blk b) = true → False := fun i k B x b y g1 g2 g3 e' e2 e3 =>
    sep i k B x g1 g2 g3 (back i k B x g1 g2 g3 e') (hx.own B (wh i k B x g1 g2 g3 (back i k B x g1 g2 g3 e')) ⟨b, y, e2, e3⟩)
  have hrel : Rel base ι' hS' w' := by
    refine ⟨fun b q => ?_, hr.low, fun b B o' Z own n pat tr e' hk => ?_, fun b1 b2 B x1 x2 e1 e2 q1 q2 => ?_⟩
    · rw [n1] at q
      refine ⟨(hr.fresh b q).1, ?_⟩
      rcases sp b with ⟨i, k, g1, g2, g3, rfl⟩ | g
      · have := (C.mk_top g3).2; omega
      · rw [g]; exact (hr.fresh b q).2
    · rcases sp b with ⟨i, k, g1, g2, g3, rfl⟩ | g
      · have e1 := back i k B (o', Z) g1 g2 g3 e'
        obtain ⟨f1, f2, f3⟩ := I.early i k (by omega) g2 g3
        rw [n2' i k g1 g2 g3] at hk
        obtain ⟨c, t, fr, p1, p2, p3, p4⟩ := I.rel.blk (D i) B o' Z own n pat tr e1 (f1.trans hk)
        refine ⟨c, t, fr, by rw [hx.keep B (wh i k B (o', Z) g1 g2 g3 e1) (sep i k B (o', Z) g1 g2 g3 e1)]; exact p1, p2, fun m v hm => ?_, p4⟩
        obtain ⟨r1, v', r2, r3⟩ := p3 m v hm
        exact ⟨r1, v', r2, r3.mono hx.le⟩
      · exact hr.blk b B o' Z own n pat tr e' (by rw [← g]; exact hk)
    · rcases sp b1 with ⟨i, k, g1, g2, g3, rfl⟩ | g <;> rcases sp b2 with ⟨j, k', g1', g2', g3', rfl⟩ | g'
      · obtain ⟨f1, f2, f3⟩ := I.early i k (by omega) g2 g3
        obtain ⟨f1', f2', f3'⟩ := I.early j k' (by omega) g2' g3'
        exact I.rel.apart _ _ B x1 x2 (back i k B x1 g1 g2 g3 e1) (back j k' B x2 g1' g2' g3' e2) (by rw [f1]; exact f3) (by rw [f1']; exact f3')
      · exact (mix i k B x1 b2 x2 g1 g2 g3 e1 e2 (by rw [← g']; exact q2)).elim
      · exact (mix j k' B x2 b1 x1 g1' g2' g3' e2 e1 (by rw [← g]; exact q1)).elim
      · exact hr.apart b1 b2 B x1 x2 e1 e2 (by rw [← g]; exact q1) (by rw [← g']; exact q2)
  have x := I.ext
  have notE : ∀ b, b < h0.next → hS.blk b = (H J).blk b ∧ hS'.blk b = (H (J + 1)).blk b := fun b hb =>
    ⟨I.blk b fun i k _ _ m q => by have := (C.mk_top m).1; omega, n3' b fun i k _ _ m q => by have := (C.mk_top m).1; omega⟩
  have hnx : h0.next ≤ (H J).next := by rw [← I.nx]; exact x.next
  refine ⟨hS', hJ, fun e ope h1 h2 => ?_, hrel, ⟨Inj.le_trans x.le hx.le, fun b q e' => ?_, fun b q e' => ?_, by rw [n1]; exact Nat.le_trans hnx hx.next, Nat.le_trans x.size hx.size, fun B hB hno' => ?_, fun B hB ho' => ?_, hx.os.trans x.os, hx.tape.trans x.tape, hx.output.trans x.output⟩,
    n1, big, fun b hb => n3' b fun i k g1 g2 g3 => hb i k g1 (.inr g2) g3, fun j k h1 h2 h3 => ?_, fun j k h1 h2 => ?_, fun j k m h1 h2 h3 => ?_, t1, t2, t3, t4⟩
  · rw [I.stage e ope h1 h2]; omega
  · obtain ⟨q1, q2⟩ := x.old b q e'
    obtain ⟨q3, q4⟩ := notE b q
    obtain ⟨q5, q6⟩ := hx.old b (Nat.lt_of_lt_of_le q hnx) q1
    exact ⟨q5, by rw [q4, q6, ← q3]; exact q2⟩
  · obtain ⟨q3, q4⟩ := notE b q
    rw [q4]
    exact hx.gone b (Nat.lt_of_lt_of_le q hnx) (by rw [← q3]; exact x.gone b q e')
  · rw [hx.keep B (Nat.lt_of_lt_of_le hB x.size) fun q => hno' (x.own B hB (low B q))]
    exact x.keep B hB hno'
  · obtain ⟨b, y, q1, q2⟩ := ho'
    rcases sp b with ⟨i, k, g1, g2, g3, rfl⟩ | g
    · obtain ⟨f1, f2, f3⟩ := I.early i k (by omega) g2 g3
      exact x.own B hB ⟨D i, y, back i k B y g1 g2 g3 q1, by rw [f1]; exact f3⟩
    · exact x.own B hB (low B (hx.own B (Nat.lt_of_lt_of_le hB x.size) ⟨b, y, q1, by rw [← g]; exact q2⟩))
  · have h2' : S j := h2.resolve_left (ne j k h3)
    obtain ⟨f1, f2, f3⟩ := I.early j k (by omega) h2' h3
    refine ⟨n2' j k h1 h2' h3, fun q => ?_, f3⟩
    cases hq : ι (D j) with
    | none => exact f2 hq
    | some y => have := hx.le _ _ hq; rw [q] at this; cases this
  · have h1' : ¬ S j := fun q => h1 (.inr q)
    obtain ⟨f1, f2⟩ := I.late j k h1' h2
    have hlt : D j < (H J).next := by have := (C.mk_top h2).2; have := I.big; omega
    obtain ⟨q1, q2⟩ := hx.old (D j) hlt f1
    refine ⟨q1, fun q => ?_⟩
    rw [q2]
    exact f2 (by have := ne j k h2; omega)
  · by_cases q : m ≤ J
    · exact I.cf j k m h1 h2 q
    · have : m = J + 1 := by omega
      subst this
      exact hx.gone (D j) (by have := (C.mk_top h1).2; have := I.big; omega) (I.cf j k J h1 (by omega) (Nat.le_refl _))
end
end Go.Proofs.Ytndfelbgppbncaa.Ev
