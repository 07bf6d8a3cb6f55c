/- The evaluator's soundness: regions that draw their order: what holds between the operations, in whatever order. -/
import Derived.Test.YtndfelbgppbncaaEvDraw2
set_option linter.unusedVariables false
namespace Go.Proofs.Ytndfelbgppbncaa.Ev
section
variable {P : Program}
def Chk (ops : Array Oper) (ms : List Nat) (al : List AOp) (H : Nat → Heap) (ρ : Env) (i : Nat) (o : Oper) (op : AOp) : Prop :=
  match op with
  | .l looks _ => Sees ops ms i true o ∧ ∀ e ope, al[e]? = some ope → aopE ope = true → (if e < i then bit ms i e else bit ms e i) = true ∨ ∃ x n, looks = some (x, n) ∧ SubAt (H e) (H (e + 1)) n (val ρ x) ∧ SubAt (H (e + 1)) (H e) n (val ρ x)
  | _ => Sees ops ms i false o
structure Ctx (P : Program) (call : CallT) (nt : Nat) (ops : Array Oper) (ms : List Nat) (al : List AOp) (E : Nat → Env) (H : Nat → Heap) (D : Nat → Nat) (V : Nat → Value) (W : Nat → Bool) : Prop where
  canon : Canon P call nt ops ops.toList al E H D V W
  len : al.length = ops.size
  dst : ∀ (i j : Nat) (oi oj : Oper) (t : Tmp), ops[i]? = some oi → ops[j]? = some oj → oi.dst = some t → oj.dst = some t → i = j
  tot : ∀ i j opi opj, al[i]? = some opi → al[j]? = some opj → aopE opi = true → aopE opj = true → i < j → bit ms j i = true
  chk : ∀ i o op, ops[i]? = some o → al[i]? = some op → Chk ops ms al H (E ops.size) i o op
  closed : ∀ S, Closed ops S → ∀ i j, bit ms i j = true → S i → S j
/-- Operation i makes the block k. -/
def Mk (al : List AOp) (E : Nat → Env) (D : Nat → Nat) (V : Nat → Value) (W : Nat → Bool) (i : Nat) (k : Blk) : Prop :=
  ∃ f, al[i]? = some (.n f) ∧ W i = true ∧ f (E i) (D i) = .ok (V i) k
variable {call : CallT} {nt : Nat} {ops : Array Oper} {ms : List Nat} {al : List AOp} {E : Nat → Env} {H : Nat → Heap} {D : Nat → Nat} {V : Nat → Value} {W : Nat → Bool}
theorem Mk.same {i : Nat} {k k' : Blk} (a : Mk al E D V W i k) (b : Mk al E D V W i k') : k = k' := by
  obtain ⟨f, h1, _, h2⟩ := a
  obtain ⟨f', h3, _, h4⟩ := b
  rw [h1] at h3
  cases h3
  rw [h2] at h4
  cases h4
  rfl
theorem Mk.lt {i : Nat} {k : Blk} (a : Mk al E D V W i k) : i < al.length := by
  obtain ⟨f, h1, _⟩ := a
  exact (List.getElem?_eq_some_iff.1 h1).1
theorem Ctx.get (C : Ctx P call nt ops ms al E H D V W) {i : Nat} (hi : i < ops.size) : ∃ o op, ops[i]? = some o ∧ al[i]? = some op :=
  ⟨ops[i], al[i]'(by rw [C.len]; exact hi), Array.getElem?_eq_getElem hi, List.getElem?_eq_getElem (by rw [C.len]; exact hi)⟩
theorem Ctx.step (C : Ctx P call nt ops ms al E H D V W) {i : Nat} {o : Oper} {op : AOp} (ho : ops[i]? = some o) (hop : al[i]? = some op) :
    compOp P o.op = some op ∧ (∀ d, o.dst = some d → d < nt) ∧
    D (i + 1) = (if isNop op = true then D i + 1 else D i) ∧ E (i + 1) = put (E i) (o.dst.map pos) (V i) ∧
    (W i = true → opD call (E i) (H i) (D i) op = .ok (V i) (H (i + 1))) ∧ (W i = false → V i = undefV ∧ H (i + 1) = H i) ∧
    ((o.guard = none ∧ W i = true) ∨ ∃ j w oj g, o.guard = some (j, w) ∧ ops[j]? = some oj ∧ oj.dst = some g ∧ W i = isB w (Tr.get (pos g) (E i))) := by
  obtain ⟨op', h1, h2⟩ := C.canon.op i o (by simpa using ho)
  rw [hop] at h1
  cases h1
  exact h2
theorem Ctx.dmono (C : Ctx P call nt ops ms al E H D V W) : ∀ {i j : Nat}, i ≤ j → j ≤ ops.size → D i ≤ D j := by
  intro i j hij
  induction hij with
  | refl => intro _; exact Nat.le_refl _
  | @step j _ ih =>
    intro hj
    obtain ⟨o, op, ho, hop⟩ := C.get (Nat.lt_of_succ_le hj)
    have := (C.step ho hop).2.2.1
    have := ih (by omega)
    show D i ≤ D (j + 1)
    split at * <;> omega
theorem Ctx.mk_lt (C : Ctx P call nt ops ms al E H D V W) {i : Nat} {k : Blk} (m : Mk al E D V W i k) : D i < D (i + 1) := by
  have hi := m.lt
  rw [C.len] at hi
  obtain ⟨o, op, ho, hop⟩ := C.get hi
  obtain ⟨f, h1, _⟩ := m
  rw [hop] at h1
  cases h1
  have := (C.step ho hop).2.2.1
  rw [if_pos (show isNop (AOp.n f) = true from rfl)] at this
  omega
theorem Ctx.mk_inj (C : Ctx P call nt ops ms al E H D V W) {i j : Nat} {k k' : Blk} (m : Mk al E D V W i k) (m' : Mk al E D V W j k') (h : D i = D j) : i = j := by
  have hi := m.lt
  have hj := m'.lt
  rw [C.len] at hi hj
  have h1 := C.mk_lt m
  have h2 := C.mk_lt m'
  rcases Nat.lt_trichotomy i j with q | q | q
  · have := C.dmono (show i + 1 ≤ j by omega) (by omega); omega
  · exact q
  · have := C.dmono (show j + 1 ≤ i by omega) (by omega); omega
theorem Ctx.mk_top (C : Ctx P call nt ops ms al E H D V W) {i : Nat} {k : Blk} (m : Mk al E D V W i k) : D 0 ≤ D i ∧ D i < D ops.size := by
  have hi := m.lt
  rw [C.len] at hi
  have := C.mk_lt m
  have := C.dmono (show i + 1 ≤ ops.size by omega) (Nat.le_refl _)
  exact ⟨C.dmono (Nat.zero_le _) (by omega), by omega⟩
/-- What no operation has told stays. -/
theorem Ctx.stays (C : Ctx P call nt ops ms al E H D V W) {t : Nat} {i : Nat} : ∀ {j : Nat}, i ≤ j → j ≤ ops.size → (∀ k o, i ≤ k → k < j → ops[k]? = some o → o.dst ≠ some t) → val (E j) (.t (pos t)) = val (E i) (.t (pos t)) := by
  intro j hij
  induction hij with
  | refl => intro _ _; rfl
  | @step j hij ih =>
    intro hj h
    obtain ⟨o, op, ho, hop⟩ := C.get (Nat.lt_of_succ_le hj)
    have he := (C.step ho hop).2.2.2.1
    show val (E (j + 1)) _ = _
    rw [he, val_put, if_neg, ih (by omega) fun k o h1 h2 h3 => h k o h1 (Nat.lt_succ_of_lt h2) h3]
    intro q
    cases hd : o.dst with
    | none => rw [hd] at q; cases q
    | some d =>
      rw [hd] at q
      have := pos_inj (Option.some.inj q)
      subst this
      exact h j o hij (Nat.lt_succ_self _) ho hd
theorem Ctx.told (C : Ctx P call nt ops ms al E H D V W) {t i j : Nat} {o : Oper} (ho : ops[i]? = some o) (hd : o.dst = some t) (hij : i < j) (hj : j ≤ ops.size) : val (E j) (.t (pos t)) = V i := by
  have hi : i < ops.size := (Array.getElem?_eq_some_iff.1 ho).1
  obtain ⟨_, op, _, hop⟩ := C.get hi
  rw [C.stays (show i + 1 ≤ j by omega) hj fun k o' h1 h2 h3 q => by have := C.dst i k o o' t ho h3 hd q; omega]
  rw [(C.step ho hop).2.2.2.1, val_put, if_pos (by rw [hd]; rfl)]
theorem Ctx.first (C : Ctx P call nt ops ms al E H D V W) {t j : Nat} (hj : j ≤ ops.size) (h : ∀ i o, i < j → ops[i]? = some o → o.dst ≠ some t) : val (E j) (.t (pos t)) = val (E 0) (.t (pos t)) :=
  C.stays (Nat.zero_le _) hj fun k o _ h2 h3 => h k o h2 h3
/-- The heap behind an operation without effects. -/
theorem Ctx.quiet (C : Ctx P call nt ops ms al E H D V W) {i : Nat} {op : AOp} (hop : al[i]? = some op) (he : aopE op = false) : (H (i + 1) = H i ∧ ∀ k, ¬ Mk al E D V W i k) ∨ ∃ k, Mk al E D V W i k ∧ H (i + 1) = (H i).put (D i) k := by
  have hi : i < al.length := (List.getElem?_eq_some_iff.1 hop).1
  rw [C.len] at hi
  obtain ⟨o, op', ho, hop'⟩ := C.get hi
  rw [hop] at hop'
  cases hop'
  obtain ⟨_, _, _, _, h1, h2, _⟩ := C.step ho hop
  cases hw : W i with
  | false => exact .inl ⟨(h2 hw).2, fun k m => by obtain ⟨f, _, q, _⟩ := m; rw [hw] at q; cases q⟩
  | true =>
    have h1 := h1 hw
    cases op with
    | p f => exact .inl ⟨(pv_some h1).2, fun k m => by obtain ⟨f, q, _⟩ := m; rw [hop] at q; cases q⟩
    | l x f => exact .inl ⟨(pv_some h1).2, fun k m => by obtain ⟨f, q, _⟩ := m; rw [hop] at q; cases q⟩
    | n f =>
      have h1' : (@VB.rec (fun _ => VH) .fail (fun v b => .ok v ((H i).put (D i) b)) (f (E i) (D i))) = VH.ok (V i) (H (i + 1)) := h1
      cases hb : f (E i) (D i) with
      | fail => rw [hb] at h1'; cases h1'
      | ok v b =>
        rw [hb] at h1'
        have h1'' : VH.ok v ((H i).put (D i) b) = VH.ok (V i) (H (i + 1)) := h1'
        injection h1'' with e1 e2
        exact .inr ⟨b, ⟨f, hop, hw, by rw [hb, e1]⟩, e2.symm⟩
    | e f => cases he
    | call f a => cases he
    | callv x a => cases he

/-- Between the operations: S have run; J is the stage of those with effects. -/
structure DInv (ops : Array Oper) (al : List AOp) (E : Nat → Env) (H : Nat → Heap) (D : Nat → Nat) (V : Nat → Value) (W : Nat → Bool) (nt base : Nat) (ds : List Deferred) (ι0 : Inj) (h0 : Heap) (w0 : World)
    (S : Nat → Prop) (J : Nat) (ι : Inj) (hS : Heap) (a : Act) (w : World) : Prop where
  le : J ≤ ops.size
  stage : ∀ e op, al[e]? = some op → aopE op = true → (S e ↔ e < J)
  rel : Rel base ι hS w
  ext : Ext ι0 h0 w0 ι hS w
  nx : hS.next = (H J).next
  big : D ops.size ≤ (H J).next
  blk : ∀ b, (∀ i k, J ≤ i → S i → Mk al E D V W i k → b ≠ D i) → hS.blk b = (H J).blk b
  early : ∀ i k, J ≤ i → S i → Mk al E D V W i k → hS.blk (D i) = some k ∧ ι (D i) ≠ none ∧ ownB (some k) = true
  late : ∀ i k, ¬ S i → Mk al E D V W i k → ι (D i) = none ∧ (i < J → (H J).blk (D i) = some k)
  cf : ∀ i k m, Mk al E D V W i k → m ≤ i → m ≤ J → (H m).blk (D i) = none
  env : ∀ t, (∀ i o, S i → ops[i]? = some o → o.dst ≠ some t) → VR ι (val (E 0) (.t (pos t))) (a.tmps.getD t undef)
  envS : ∀ i o t, S i → ops[i]? = some o → o.dst = some t → VR ι (V i) (a.tmps.getD t undef)
  size : a.tmps.size = nt
  defers : a.defers = ds
variable {base : Nat} {ds : List Deferred} {ι0 : Inj} {h0 : Heap} {w0 : World}
theorem Rel.congr {ι : Inj} {h h' : Heap} {w : World} (r : Rel base ι h w) (hb : ∀ b, h'.blk b = h.blk b) (hn : h'.next = h.next) : Rel base ι h' w :=
  ⟨fun b q => by rw [hb]; exact r.fresh b (by rw [← hn]; exact q), r.low, fun b B o S own n pat tr e hk => r.blk b B o S own n pat tr e (by rw [← hb]; exact hk), fun b b' B x x' e e' q q' => r.apart b b' B x x' e e' (by rw [← hb]; exact q) (by rw [← hb]; exact q')⟩
theorem Rel.less {ι : Inj} {h h' : Heap} {w : World} (r : Rel base ι h w) (hb : ∀ b, h'.blk b = h.blk b ∨ h'.blk b = none) (hn : h'.next = h.next) : Rel base ι h' w := by
  have key : ∀ b k, h'.blk b = some k → h.blk b = some k := fun b k q => by
    rcases hb b with g | g
    · rw [← g]; exact q
    · rw [g] at q; cases q
  have own : ∀ b, ownB (h'.blk b) = true → ownB (h.blk b) = true := fun b q => by
    rcases hb b with g | g
    · rw [← g]; exact q
    · rw [g] at q; cases q
  refine ⟨fun b q => ?_, r.low, fun b B o S own n pat tr e hk => r.blk b B o S own n pat tr e (key b _ hk), fun b b' B x x' e e' q q' => r.apart b b' B x x' e e' (own b q) (own b' q')⟩
  have := r.fresh b (by rw [← hn]; exact q)
  refine ⟨this.1, ?_⟩
  rcases hb b with g | g
  · rw [g]; exact this.2
  · exact g
/-- A block that nothing leads to yet. -/
theorem Rel.put_new {ι : Inj} {h : Heap} {w : World} (r : Rel base ι h w) {id : Nat} (k : Blk) (hi : ι id = none) (hlt : id < h.next) : Rel base ι (h.put id k) w := by
  have ne : ∀ b x, ι b = some x → b ≠ id := fun b x e q => by rw [q, hi] at e; cases e
  refine ⟨fun b q => ?_, r.low, fun b B o S own n pat tr e hk => r.blk b B o S own n pat tr e (by rw [blk_put, if_neg (ne b _ e)] at hk; exact hk), fun b b' B x x' e e' q q' => r.apart b b' B x x' e e' (by rw [blk_put, if_neg (ne b _ e)] at q; exact q) (by rw [blk_put, if_neg (ne b' _ e')] at q'; exact q')⟩
  rw [next_put] at q
  rw [blk_put, if_neg (by omega)]
  exact r.fresh b q
theorem Ext.put_new {ι : Inj} {h : Heap} {w : World} (x : Ext ι0 h0 w0 ι h w) {id : Nat} (k : Blk) (hi : ι id = none) (hlo : h0.next ≤ id) : Ext ι0 h0 w0 ι (h.put id k) w :=
  ⟨x.le, fun b q e => by rw [blk_put, if_neg (by omega)]; exact x.old b q e, fun b q e => by rw [blk_put, if_neg (by omega)]; exact x.gone b q e, by rw [next_put]; exact x.next, x.size, x.keep,
    fun B hB ⟨b, o, e, q⟩ => x.own B hB ⟨b, o, e, by rw [blk_put, if_neg (fun g => by rw [g, hi] at e; cases e)] at q; exact q⟩, x.os, x.tape, x.output⟩
variable {S : Nat → Prop} {J : Nat} {ι : Inj} {hS : Heap} {a : Act} {w : World}
theorem DInv.hsD (C : Ctx P call nt ops ms al E H D V W) (I : DInv ops al E H D V W nt base ds ι0 h0 w0 S J ι hS a w) {i : Nat} {k : Blk} (hns : ¬ S i) (m : Mk al E D V W i k) : hS.blk (D i) = (H J).blk (D i) :=
  I.blk _ fun j k' _ hs m' q => hns (by rw [C.mk_inj m m' q]; exact hs)
/-- The stage may be set past an operation without effects. -/
theorem DInv.adv (C : Ctx P call nt ops ms al E H D V W) (hd0 : D 0 = h0.next) (I : DInv ops al E H D V W nt base ds ι0 h0 w0 S J ι hS a w) {op : AOp} (hop : al[J]? = some op) (he : aopE op = false) :
    ∃ hS', DInv ops al E H D V W nt base ds ι0 h0 w0 S (J + 1) ι hS' a w := by
  have hJ : J < ops.size := by have := (List.getElem?_eq_some_iff.1 hop).1; rw [C.len] at this; exact this
  have stage : ∀ e op, al[e]? = some op → aopE op = true → (S e ↔ e < J + 1) := fun e op' h1 h2 => by
    rw [I.stage e op' h1 h2]
    have : e ≠ J := fun q => by subst q; rw [hop] at h1; cases h1; rw [he] at h2; cases h2
    omega
  rcases C.quiet hop he with ⟨hH, hno⟩ | ⟨k, m, hH⟩
  · have ge : ∀ i k, Mk al E D V W i k → J ≤ i → J + 1 ≤ i := fun i k m q => by
      rcases Nat.lt_or_ge J i with g | g
      · exact g
      · have : i = J := by omega
        subst this; exact (hno k m).elim
    refine ⟨hS, hJ, stage, I.rel, I.ext, by rw [hH]; exact I.nx, by rw [hH]; exact I.big, fun b hb => by rw [hH]; exact I.blk b fun i k h1 h2 h3 => hb i k (ge i k h3 h1) h2 h3, fun i k h1 => I.early i k (by omega), fun i k h1 h2 => ?_, fun i k n h1 h2 h3 => ?_, I.env, I.envS, I.size, I.defers⟩
    · refine ⟨(I.late i k h1 h2).1, fun q => ?_⟩
      rw [hH]
      refine (I.late i k h1 h2).2 ?_
      rcases Nat.lt_or_ge i J with g | g
      · exact g
      · have := ge i k h2 g; omega
    · by_cases q : n ≤ J
      · exact I.cf i k n h1 h2 q
      · have : n = J + 1 := by omega
        subst this
        rw [hH]
        exact I.cf i k J h1 (by omega) (Nat.le_refl _)
  · have hblk : ∀ b, (H (J + 1)).blk b = if b = D J then some k else (H J).blk b := fun b => by rw [hH, blk_put]
    have hnx : (H (J + 1)).next = (H J).next := by rw [hH, next_put]
    have cf : ∀ i k n, Mk al E D V W i k → n ≤ i → n ≤ J + 1 → (H n).blk (D i) = none := fun i k' n h1 h2 h3 => by
      by_cases q : n ≤ J
      · exact I.cf i k' n h1 h2 q
      · have : n = J + 1 := by omega
        subst this
        rw [hblk, if_neg (fun q => by have := C.mk_inj h1 m q; omega)]
        exact I.cf i k' J h1 (by omega) (Nat.le_refl _)
    by_cases hs : S J
    · obtain ⟨g1, g2⟩ := I.early J k (Nat.le_refl _) hs m
      refine ⟨hS, hJ, stage, I.rel, I.ext, by rw [hnx]; exact I.nx, by rw [hnx]; exact I.big, fun b hb => ?_, fun i k h1 => I.early i k (by omega), fun i k' h1 h2 => ?_, cf, I.env, I.envS, I.size, I.defers⟩
      · rw [hblk]
        by_cases q : b = D J
        · rw [if_pos q, q]; exact g1
        · rw [if_neg q]
          refine I.blk b fun i k' h1 h2 h3 => ?_
          by_cases q2 : i = J
          · subst q2; exact q
          · exact hb i k' (by omega) h2 h3
      · refine ⟨(I.late i k' h1 h2).1, fun q => ?_⟩
        have hne : i ≠ J := fun e => by subst e; exact h1 hs
        rw [hblk, if_neg (fun e => hne (C.mk_inj h2 m e))]
        exact (I.late i k' h1 h2).2 (by omega)
    · obtain ⟨g1, _⟩ := I.late J k hs m
      have hlt : D J < hS.next := by have := (C.mk_top m).2; have := I.big; have := I.nx; omega
      have hlo : h0.next ≤ D J := by rw [← hd0]; exact (C.mk_top m).1
      refine ⟨hS.put (D J) k, hJ, stage, I.rel.put_new k g1 hlt, I.ext.put_new k g1 hlo, by rw [hnx, next_put]; exact I.nx, by rw [hnx]; exact I.big, fun b hb => ?_, fun i k' h1 h2 h3 => ?_, fun i k' h1 h2 => ?_, cf, I.env, I.envS, I.size, I.defers⟩
      · rw [hblk, blk_put]
        by_cases q : b = D J
        · rw [if_pos q, if_pos q]
        · rw [if_neg q, if_neg q]
          refine I.blk b fun i k' h1 h2 h3 => ?_
          by_cases q2 : i = J
          · subst q2; exact q
          · exact hb i k' (by omega) h2 h3
      · have := I.early i k' (by omega) h2 h3
        rw [blk_put, if_neg (fun e => by have := C.mk_inj h3 m e; omega)]
        exact this
      · refine ⟨(I.late i k' h1 h2).1, fun q => ?_⟩
        rw [hblk]
        by_cases e : D i = D J
        · rw [if_pos e]
          have := C.mk_inj h2 m e
          subst this
          rw [h2.same m]
        · rw [if_neg e]
          refine (I.late i k' h1 h2).2 ?_
          have : i ≠ J := fun q => e (by rw [q])
          omega
/-- .. until one with effects is to come, or none. -/
theorem DInv.advs (C : Ctx P call nt ops ms al E H D V W) (hd0 : D 0 = h0.next) : ∀ (m J : Nat) (hS : Heap), ops.size - J ≤ m → DInv ops al E H D V W nt base ds ι0 h0 w0 S J ι hS a w →
    ∃ J' hS', DInv ops al E H D V W nt base ds ι0 h0 w0 S J' ι hS' a w ∧ (J' = ops.size ∨ ∃ op, al[J']? = some op ∧ aopE op = true)
  | m, J, hS, hm, I => by
    by_cases q : J = ops.size
    · exact ⟨J, hS, I, .inl q⟩
    · have hJ : J < ops.size := by have := I.le; omega
      obtain ⟨o, op, ho, hop⟩ := C.get hJ
      cases he : aopE op with
      | true => exact ⟨J, hS, I, .inr ⟨op, hop, he⟩⟩
      | false =>
        obtain ⟨hS', I'⟩ := I.adv C hd0 hop he
        cases m with
        | zero => omega
        | succ m => exact DInv.advs C hd0 m (J + 1) hS' (by omega) I'
end
end Go.Proofs.Ytndfelbgppbncaa.Ev
