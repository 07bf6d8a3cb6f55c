/- The evaluator's soundness: regions that draw their order, whole; the evaluator is sound. -/
import Derived.Test.YtndfelbgppbncaaEvDraw5
set_option linter.unusedVariables false
namespace Go.Proofs.Ytndfelbgppbncaa.Ev
section
variable {P : Program} {call : CallT} {nt : Nat} {ops : Array Oper} {ms : List Nat} {al : List AOp} {E : Nat → Env} {H : Nat → Heap} {D : Nat → Nat} {V : Nat → Value} {W : Nat → Bool}
variable {base : Nat} {ds : List Deferred} {ι0 : Inj} {h0 : Heap} {w0 : World}
theorem Ext.congr {ι : Inj} {h h' : Heap} {w : World} (x : Ext ι0 h0 w0 ι h w) (hb : ∀ b, h'.blk b = h.blk b) (hn : h'.next = h.next) : Ext ι0 h0 w0 ι h' w :=
  ⟨x.le, fun b q e => by rw [hb]; exact x.old b q e, fun b q e => by rw [hb]; exact x.gone b q e, by rw [hn]; exact x.next, x.size, x.keep, fun B hB ⟨b, o, e, q⟩ => x.own B hB ⟨b, o, e, by rw [← hb]; exact q⟩, x.os, x.tape, x.output⟩
/-- All have run: the state is the evaluator's. -/
theorem DInv.done (C : Ctx P call nt ops ms al E H D V W) (hd0 : D 0 = h0.next) {S : Nat → Prop} {J : Nat} {ι : Inj} {hS : Heap} {a : Act} {w : World} (I : DInv ops al E H D V W nt base ds ι0 h0 w0 S J ι hS a w) (hall : ∀ i, i < ops.size → S i) :
    Sim base ι (E ops.size) (H ops.size) a w nt ds ∧ Ext ι0 h0 w0 ι (H ops.size) w := by
  obtain ⟨J', hS', I', hmax⟩ := I.advs C hd0 (ops.size - J) J hS (Nat.le_refl _)
  have hJ : J' = ops.size := by
    rcases hmax with q | ⟨op, h1, h2⟩
    · exact q
    · have hlt : J' < ops.size := by have := (List.getElem?_eq_some_iff.1 h1).1; rw [C.len] at this; exact this
      have := (I'.stage J' op h1 h2).1 (hall J' hlt)
      omega
  subst hJ
  have hb : ∀ b, (H ops.size).blk b = hS'.blk b := fun b => (I'.blk b fun i k g1 _ g3 _ => by have := g3.lt; rw [C.len] at this; omega).symm
  refine ⟨⟨I'.rel.congr hb I'.nx.symm, fun t => ?_, I'.size, I'.defers⟩, I'.ext.congr hb I'.nx.symm⟩
  by_cases q : ∃ (j : Nat) (oj : Oper), ops[j]? = some oj ∧ oj.dst = some t
  · obtain ⟨j, oj, h1, h2⟩ := q
    have hj : j < ops.size := (Array.getElem?_eq_some_iff.1 h1).1
    rw [C.told h1 h2 hj (Nat.le_refl _)]
    exact I'.envS j oj t (hall j hj) h1 h2
  · rw [C.first (Nat.le_refl _) fun k o' _ h4 h5 => q ⟨k, o', h4, h5⟩]
    exact I'.env t fun k o' _ h4 h5 => q ⟨k, o', h4, h5⟩
theorem any_wp (hn : NamesOK P) (hcall : CallsOK P call) (C : Ctx P call nt ops ms al E H D V W) (hd0 : D 0 = h0.next) {md : Region.Mode} {L : List Nat} (htopo : topoOk md ops L [] = true) {Q : Exit → Act → World → Prop}
    (hQ : ∀ ι a w, Sim base ι (E ops.size) (H ops.size) a w nt ds → Ext ι0 h0 w0 ι (H ops.size) w → Q .normal a w) :
    ∀ (fuel : Nat) (listed : Array Bool) (a : Act) (w : World) (J : Nat) (ι : Inj) (hS : Heap), listed.size = ops.size → listed.toList.count false ≤ fuel → Closed ops (fun i => listed.getD i false = true) →
      DInv ops al E H D V W nt base ds ι0 h0 w0 (fun i => listed.getD i false = true) J ι hS a w → wpAny P md ops Q fuel listed a w := by
  have hall0 : ∀ (listed : Array Bool), listed.size = ops.size → Region.ready md ops listed = [] → ∀ i, i < ops.size → listed.getD i false = true := fun listed hsz hr =>
    topo_ok hsz hr L [] htopo (fun i hi => by cases hi)
  intro fuel
  induction fuel with
  | zero =>
    intro listed a w J ι hS hsz hc hcl I
    have hall : ∀ i, i < ops.size → listed.getD i false = true := fun i hi => by
      have hi' : i < listed.size := by omega
      rw [Array.getD_eq_getD_getElem?, Array.getElem?_eq_getElem hi', Option.getD_some]
      cases hq : listed[i] with
      | true => rfl
      | false =>
        have : false ∈ listed.toList := by rw [← hq]; exact Array.mem_toList_iff.2 (Array.getElem_mem hi')
        have := List.count_pos_iff.2 this
        omega
    obtain ⟨s, x⟩ := I.done C hd0 hall
    refine ⟨?_, hQ ι a w s x⟩
    unfold Region.ready
    refine List.filter_eq_nil_iff.2 fun i hi => ?_
    have hi2 : i < ops.size := by simpa using hi
    have h1 := hall i hi2
    have hi' : i < listed.size := by omega
    rw [Array.getD_eq_getD_getElem?, Array.getElem?_eq_getElem hi', Option.getD_some] at h1
    rw [Array.getD_eq_getD_getElem?, Array.getElem?_eq_getElem hi', Option.getD_some, h1]
    simp
  | succ fuel ih =>
    intro listed a w J ι hS hsz hc hcl I
    refine ⟨fun hr => ?_, fun i hi => ?_⟩
    · obtain ⟨s, x⟩ := I.done C hd0 (hall0 listed hsz hr)
      exact hQ ι a w s x
    · obtain ⟨h1, h2, o, ho, hb⟩ := ready_spec hsz hi
      have hi' : i < listed.size := by omega
      obtain ⟨J', hS', I', hmax⟩ := I.advs C hd0 (ops.size - J) J hS (Nat.le_refl _)
      refine I'.step hn hcall C hd0 hcl ho (by rw [h2]; simp) hb hmax fun J2 ι2 hS2 a2 w2 I2 => ?_
      have hset : (fun j => (listed.setIfInBounds i true).getD j false = true) = (fun j => j = i ∨ listed.getD j false = true) := by
        funext j
        exact propext (listed_set hi' j)
      refine ih (listed.setIfInBounds i true) a2 w2 J2 ι2 hS2 (by simpa using hsz) ?_ ?_ (by rw [hset]; exact I2)
      · have hl : listed.toList[i]'(by simpa using hi') = false := by
          rw [Array.getD_eq_getD_getElem?, Array.getElem?_eq_getElem hi', Option.getD_some] at h2
          simpa using h2
        rw [Array.toList_setIfInBounds, List.count_set (by simpa using hi'), hl]
        simp
        have : 0 < listed.toList.count false := List.count_pos_iff.2 (by rw [← hl]; exact List.getElem_mem _)
        simp at this hc
        omega
      · rw [hset]
        exact closed_more hcl ho hb
theorem drop_succ (e : Nat) : ∀ hs : Hs, Hs.drop (e + 1) hs = (Hs.drop e hs).tail := by
  induction e with
  | zero => intro hs; cases hs <;> rfl
  | succ e ih =>
    intro hs
    cases hs with
    | nil h => 
      show Hs.nil h = (Hs.nil h).tail
      rfl
    | cons h r =>
      show Hs.drop (e + 1) r = (Hs.drop e r).tail
      exact ih r
theorem draw_ok (hn : NamesOK P) (hcall : CallsOK P call) (K : Nat) : DrawOK P call K := fun nt id ops l ch hc hk base ds ι ρ h a w hr s => by
  unfold drawChecks at hk
  obtain ⟨k1, hk⟩ := guard_some hk
  obtain ⟨k2, hk⟩ := guard_some hk
  obtain ⟨k3, hk⟩ := guard_some hk
  obtain ⟨k4, hk⟩ := guard_some hk
  have hr' : (@RD.rec (fun _ => R) .fail (fun ρ' hs => @Bool.rec (fun _ => R) .fail (.norm ρ' hs.last) (drawOk ρ' hs ch)) (opsD call l ρ (h.keep (countN l)) h.next)) ≠ .fail := hr
  cases hq : opsD call l ρ (h.keep (countN l)) h.next with
  | fail => rw [hq] at hr'; exact absurd rfl hr'
  | ok ρ' hs =>
    rw [hq] at hr'
    cases hd : drawOk ρ' hs ch with
    | false =>
      have hr2 : (@Bool.rec (fun _ => R) .fail (.norm ρ' hs.last) (drawOk ρ' hs ch)) ≠ .fail := hr'
      rw [hd] at hr2; exact absurd rfl hr2
    | true =>
      have hres : exec call K (.dreg l ch) ρ h = .norm ρ' hs.last := by
        show (@RD.rec (fun _ => R) .fail (fun ρ' hs => @Bool.rec (fun _ => R) .fail (.norm ρ' hs.last) (drawOk ρ' hs ch)) (opsD call l ρ (h.keep (countN l)) h.next)) = _
        rw [hq]
        show (@Bool.rec (fun _ => R) .fail (.norm ρ' hs.last) (drawOk ρ' hs ch)) = _
        rw [hd]
      rw [hres]
      obtain ⟨hlen, E, H, D, V, W, cn, e0, e1, e2, e3, e4, e5, e6⟩ := opsD_canon ops.toList l ρ ρ' _ _ hs hc hq
      rw [Array.length_toList (xs := ops)] at hlen e3 e4 e5 e6
      have C : Ctx P call nt ops (masks ops.toList []) (opList l) E H D V W := by
        refine ⟨cn, hlen, fun i j oi oj t h1 h2 h3 h4 => ?_, fun i j oi oj h1 h2 h3 h4 h5 => ?_, fun i o op h1 h2 => ?_, fun S hS i j hb hi => masks_closed hS hb hi⟩
        · refine nodupT_spec k2 (d := t) ?_ ?_
          · have := dstsOf_mem ops.toList 0 i oi t (by simpa using h1) h3
            rwa [Nat.zero_add] at this
          · have := dstsOf_mem ops.toList 0 j oj t (by simpa using h2) h4
            rwa [Nat.zero_add] at this
        · have m1 := effects_mem (opList l) 0 i oi h1 h3
          have m2 := effects_mem (opList l) 0 j oj h2 h4
          rw [Nat.zero_add] at m1 m2
          have := List.all_eq_true.1 (List.all_eq_true.1 k1 j m2) i m1
          simp only [Bool.or_eq_true, decide_eq_true_eq] at this
          rcases this with q | q
          · omega
          · exact q
        · have := checks_ok hk hd i o op (by simpa using h1) h2
          rw [Nat.zero_add] at this
          cases op with
          | l looks f =>
            refine ⟨this.1, fun e ope g1 g2 => ?_⟩
            have m := effects_mem (opList l) 0 e ope g1 g2
            rw [Nat.zero_add] at m
            rcases this.2 e m with q | ⟨x, n, q1, q2⟩
            · exact .inl q
            · refine .inr ⟨x, n, q1, ?_⟩
              have he : e < ops.size := by have := (List.getElem?_eq_some_iff.1 g1).1; rw [hlen] at this; exact this
              rw [← drop_succ, e6 e (by omega), e6 (e + 1) (by omega)] at q2
              rw [e3]
              exact chk1_sub q2
          | p f => exact this
          | n f => exact this
          | e f => exact this
          | call f x => exact this
          | callv x y => exact this
      have hd0 : D 0 = h.next := e2
      have hI : DInv ops (opList l) E H D V W nt base ds ι h w (fun i => (Array.replicate ops.size false).getD i false = true) 0 ι (h.keep (countN l)) a { w with drawn := w.drawn + 1 } := by
        have hno : ∀ i, ¬ ((Array.replicate ops.size false).getD i false = true) := fun i q => by
          rw [Array.getD_eq_getD_getElem?, Array.getElem?_replicate] at q
          split at q <;> cases q
        have hbk := blk_keep h (countN l)
        refine ⟨Nat.zero_le _, fun e op _ _ => ⟨fun q => absurd q (hno e), fun q => absurd q (Nat.not_lt_zero _)⟩, ?_, ?_, by rw [e1], by rw [e1, next_keep, e4]; exact Nat.le_refl _, fun b _ => by rw [e1], fun i k _ q => absurd q (hno i), fun i k _ m => ?_, fun i k m mk _ hm => ?_, fun t _ => by rw [e0]; exact s.env t, fun i o t q => absurd q (hno i), s.size, s.defers⟩
        · refine Rel.drew ?_ _
          exact ⟨fun b q => by rw [hbk]; rw [next_keep] at q; exact s.rel.fresh b (by omega), s.rel.low, fun b B o S own n pat tr e q => s.rel.blk b B o S own n pat tr e (by rw [← hbk]; exact q), fun b b' B x x' g1 g2 g3 g4 => s.rel.apart b b' B x x' g1 g2 (by rw [← hbk]; exact g3) (by rw [← hbk]; exact g4)⟩
        · refine Ext.trans (Ext.drew ι h w (w.drawn + 1)) ?_
          exact ⟨Inj.le_refl _, fun b q e => ⟨e, hbk b⟩, fun b q e => by rw [hbk]; exact e, by rw [next_keep]; omega, Nat.le_refl _, fun _ _ _ => rfl, fun B _ ⟨b, o, q1, q2⟩ => ⟨b, o, q1, by rw [← hbk]; exact q2⟩, rfl, rfl, rfl⟩
        · refine ⟨(s.rel.fresh (D i) ?_).1, fun q => absurd q (Nat.not_lt_zero _)⟩
          rw [← hd0]; exact (C.mk_top m).1
        · have : m = 0 := by omega
          subst this
          rw [e1, hbk]
          refine (s.rel.fresh (D i) ?_).2
          rw [← hd0]; exact (C.mk_top mk).1
      have hcl0 : Closed ops (fun i => (Array.replicate ops.size false).getD i false = true) := fun i o _ q => by
        have q : (Array.replicate ops.size false).getD i false = true := q
        rw [Array.getD_eq_getD_getElem?, Array.getElem?_replicate] at q
        split at q <;> cases q
      have go : ∀ (md : Region.Mode) (L : List Nat), topoOk md ops L [] = true → ∀ t, wpOps P ops (ROK base ι h w nt ds (.norm ρ' hs.last)) (Region.linearise md ops t) a { w with drawn := w.drawn + 1 } := fun md L ht t => by
        unfold Region.linearise
        refine wpAny_sound ops.size t _ a _ ?_
        refine any_wp (ι0 := ι) (h0 := h) (w0 := w) (base := base) (ds := ds) hn hcall C hd0 ht (fun ι' a' w' s' x' => ?_) ops.size (Array.replicate ops.size false) a _ 0 ι (h.keep (countN l)) (by simp) (by simp) hcl0 hI
        rw [e3] at s'
        rw [← e5] at s' x'
        exact ⟨rfl, ι', s', x'⟩
      refine wp_region_draw fun t => ?_
      unfold Region.schedule
      split
      · exact go .any _ (topo_any k3) t
      · rename_i hm
        simp only [Bool.or_eq_true, not_or, Bool.not_eq_true', Bool.not_eq_false] at hm
        rw [if_pos (by simpa using hm.2)] at k4
        split
        · exact go .text _ k3 _
        · exact go .gc _ k4 _
def namesOK (P : Program) : Bool := P.funcs.toList.all fun fn => !(fn.name == "runtime.NumGoroutine")
theorem names_ok (h : namesOK P = true) : NamesOK P := fun f fn hf => by
  have := List.all_eq_true.1 h fn (Array.mem_toList_iff.2 (Array.mem_of_getElem? hf))
  simpa using this
/-- THE EVALUATOR IS SOUND. -/
theorem sound (h : namesOK P = true) (K : Nat) (n : Nat) : CallsOK P (callF (tab P) K n) :=
  callF_ok (names_ok h) (fun call hc => draw_ok (names_ok h) hc K) n
end
end Go.Proofs.Ytndfelbgppbncaa.Ev
