/- The evaluator's soundness: regions that draw their order. -/
import Derived.Test.YtndfelbgppbncaaEvDraw4
import Derived.Test.YtndfelbgppbncaaEvFun
set_option linter.unusedVariables false
namespace Go.Proofs.Ytndfelbgppbncaa.Ev
section
variable {P : Program} {call : CallT} {nt : Nat} {ops : Array Oper} {ms : List Nat} {al : List AOp} {E : Nat → Env} {H : Nat → Heap} {D : Nat → Nat} {V : Nat → Value} {W : Nat → Bool}
variable {base : Nat} {ds : List Deferred} {ι0 : Inj} {h0 : Heap} {w0 : World}
variable {S : Nat → Prop} {J : Nat} {ι : Inj} {hS : Heap} {a : Act} {w : World}
theorem SubH.at {h h' : Heap} (s : SubH h h') (n : Nat) (v : Value) : SubAt h h' n v := .of_blk fun b _ k e => s b k e
theorem DInv.top (I : DInv ops al E H D V W nt base ds ι0 h0 w0 S J ι hS a w) : SubH (H J) hS := fun b k e => by
  rw [I.blk b fun i k' g1 g2 g3 g4 => by rw [g4, I.cf i k' J g3 g1 (Nat.le_refl _)] at e; cases e]
  exact e
/-- What leads to a block leads to one that is there. -/
theorem VR.there {v v' : Value} (hv : VR ι v v') {b : Nat} (h : ∃ a : Addr, a.block = b ∧ (v = .pointer (some a) ∨ ∃ m c, v = .slice (some a) m c)) : ι b ≠ none := by
  obtain ⟨a, rfl, rfl | ⟨m, c, rfl⟩⟩ := h
  · cases hv with | ptr e => rw [e]; simp
  · cases hv with | slc e _ _ _ _ => rw [e]; simp
theorem DInv.load (C : Ctx P call nt ops ms al E H D V W) (I : DInv ops al E H D V W nt base ds ι0 h0 w0 S J ι hS a w) {i : Nat} {o : Oper} {looks : Option (AO × Nat)} {f : Heap → Env → Option Value} (hcl : Closed ops S)
    (ho : ops[i]? = some o) (hop : al[i]? = some (.l looks f)) (hns : ¬ S i) (hb : ∀ e ∈ o.after, isBase e = true → S e.on) (hopd : OpdR ι (E i) a o) (hmax : J = ops.size ∨ ∃ op, al[J]? = some op ∧ aopE op = true)
    (hL : LooksOK looks f) (hy : ∀ x n, looks = some (x, n) → ∃ y, y ∈ o.op.operands ∧ cO y = some x) (hf : f (H i) (E i) = some (V i)) : f hS (E i) = some (V i) := by
  have hi : i < ops.size := (Array.getElem?_eq_some_iff.1 ho).1
  obtain ⟨hsee, hchk⟩ : Sees ops ms i true o ∧ ∀ e ope, al[e]? = some ope → aopE ope = true → (if e < i then bit ms i e else bit ms e i) = true ∨ ∃ x n, looks = some (x, n) ∧ SubAt (H e) (H (e + 1)) n (val (E ops.size) x) ∧ SubAt (H (e + 1)) (H e) n (val (E ops.size) x) := C.chk i o _ ho hop
  refine hL (H i) hS (E i) (V i) hf (fun x n hx => ?_) (fun hx => ?_)
  · obtain ⟨y, hy1, hy2⟩ := hy x n hx
    have hvr := hopd y hy1 x hy2
    have hfin : val (E ops.size) x = val (E i) x := by
      rcases cO_some hy2 with ⟨t, rfl, rfl⟩ | ⟨v, rfl, rfl, hg⟩ | ⟨g, rfl, rfl⟩
      · refine C.stays (by omega) (Nat.le_refl _) fun k ok h1 h2 h3 h4 => ?_
        have ht : t ∈ o.looksAt ops := by
          unfold Oper.looksAt
          refine List.mem_append_left _ (List.mem_filterMap.2 ⟨.tmp t, Array.mem_toList_iff.2 ?_, rfl⟩)
          first | exact hy1 | simpa using hy1
        rcases hsee t ht k ok h3 h4 with ⟨q1, _⟩ | ⟨q0, _⟩
        · omega
        · cases q0
      · rfl
      · rfl
    have hE : ∀ e ope, al[e]? = some ope → aopE ope = true → (if e < i then bit ms i e else bit ms e i) ≠ true → SubAt (H e) (H (e + 1)) n (val (E i) x) ∧ SubAt (H (e + 1)) (H e) n (val (E i) x) := fun e ope h1 h2 h3 => by
      rcases hchk e ope h1 h2 with q | ⟨x', n', q1, q2⟩
      · exact absurd q h3
      · rw [hx] at q1; cases q1
        rw [hfin] at q2
        exact q2
    by_cases hij : i ≤ J
    · -- the stage is behind: ahead through those that have run
      have up : ∀ m, i ≤ m → m ≤ J → SubAt (H i) (H m) n (val (E i) x) := by
        intro m him
        induction him with
        | refl => intro _; exact .refl _ _ _
        | @step m him ih =>
          intro hm
          have him' : _ ≤ m := him
          have hm' : m < ops.size := by have := I.le; omega
          obtain ⟨om, opm, hom, hopm⟩ := C.get hm'
          refine (ih (by omega)).trans ?_
          cases hem : aopE opm with
          | true =>
            have hsm : S m := (I.stage m opm hopm hem).2 (by omega)
            refine (hE m opm hopm hem fun q => ?_).1
            rw [if_neg (by omega)] at q
            exact hns (C.closed S hcl m i q hsm)
          | false =>
            rcases C.quiet hopm hem with ⟨hH, _⟩ | ⟨k, mk, hH⟩
            · rw [hH]; exact .refl _ _ _
            · rw [hH]
              refine SubH.at (fun b k' e => ?_) _ _
              rw [blk_put, if_neg (fun q => by rw [q, I.cf m k m mk (Nat.le_refl _) (by omega)] at e; cases e)]
              exact e
      exact (up J hij (Nat.le_refl _)).trans (I.top.at _ _)
    · have down : ∀ m, J ≤ m → m ≤ i → SubAt (H m) hS n (val (E i) x) := by
        intro m him
        induction him with
        | refl => intro _; exact I.top.at _ _
        | @step m him ih =>
          intro hm
          have him' : _ ≤ m := him
          have hm' : m < ops.size := by omega
          obtain ⟨om, opm, hom, hopm⟩ := C.get hm'
          have ih := ih (by omega)
          cases hem : aopE opm with
          | true =>
            have hsm : ¬ S m := fun q => by have := (I.stage m opm hopm hem).1 q; omega
            refine SubAt.trans (hE m opm hopm hem fun q => ?_).2 ih
            rw [if_pos (by omega)] at q
            exact hsm (C.anc hcl ho hb q (by omega))
          | false =>
            rcases C.quiet hopm hem with ⟨hH, _⟩ | ⟨k, mk, hH⟩
            · show SubAt (H (m + 1)) hS n _
              rw [hH]; exact ih
            · show SubAt (H (m + 1)) hS n _
              by_cases q : ∃ a : Addr, a.block = D m ∧ (val (E i) x = .pointer (some a) ∨ ∃ m c, val (E i) x = .slice (some a) m c)
              · have hin := hvr.there q
                have hsm : S m := Classical.byContradiction fun g => hin (I.late m k g mk).1
                refine .of_blk fun b hbb k' e => ?_
                have hbe : b = D m := by
                  obtain ⟨a1, r1, r2⟩ := q
                  obtain ⟨a2, r3, r4⟩ := hbb
                  rcases r2 with r2 | ⟨_, _, r2⟩ <;> rcases r4 with r4 | ⟨_, _, r4⟩ <;> rw [r2] at r4 <;> cases r4 <;> exact r3.symm.trans r1
                subst hbe
                rw [hH, blk_put, if_pos rfl] at e
                cases e
                exact (I.early m k him hsm mk).1
              · refine SubAt.trans (.of_blk fun b hbb k' e => ?_) ih
                rw [hH, blk_put, if_neg (show ¬ b = D m from fun g => q (by rw [← g]; exact hbb))] at e
                exact e
      exact down i (by omega) (Nat.le_refl _)
  · -- all with effects stand in an order to it
    have hord : ∀ e ope, al[e]? = some ope → aopE ope = true → (e < i → S e) ∧ (i < e → ¬ S e) := fun e ope h1 h2 => by
      rcases hchk e ope h1 h2 with q | ⟨x', n', q1, _⟩
      · refine ⟨fun g => ?_, fun g g' => ?_⟩
        · rw [if_pos g] at q; exact C.anc hcl ho hb q (by omega)
        · rw [if_neg (by omega)] at q; exact hns (C.closed S hcl e i q g')
      · rw [hx] at q1; cases q1
    have hij : i ≤ J := by
      rcases hmax with q | ⟨op, h1, h2⟩
      · omega
      · rcases Nat.lt_or_ge J i with g | g
        · have := (I.stage J op h1 h2).1 ((hord J op h1 h2).1 g); omega
        · exact g
    have up : ∀ m, i ≤ m → m ≤ J → SubH (H i) (H m) := by
      intro m him
      induction him with
      | refl => intro _; exact .refl _
      | @step m him ih =>
        intro hm
        have him' : _ ≤ m := him
        have hm' : m < ops.size := by have := I.le; omega
        obtain ⟨om, opm, hom, hopm⟩ := C.get hm'
        refine (ih (by omega)).trans ?_
        cases hem : aopE opm with
        | true =>
          have hsm : S m := (I.stage m opm hopm hem).2 (by omega)
          have hne : m ≠ i := fun q => hns (q ▸ hsm)
          exact absurd hsm ((hord m opm hopm hem).2 (by omega))
        | false =>
          rcases C.quiet hopm hem with ⟨hH, _⟩ | ⟨k, mk, hH⟩
          · show SubH (H m) (H (m + 1)); rw [hH]; exact .refl _
          · show SubH (H m) (H (m + 1)); rw [hH]
            intro b k' e
            rw [blk_put, if_neg (fun q => by rw [q, I.cf m k m mk (Nat.le_refl _) (by omega)] at e; cases e)]
            exact e
    exact (up J hij (Nat.le_refl _)).trans I.top
/-- One operation more, in whatever order. -/
theorem DInv.step (hn : NamesOK P) (hcall : CallsOK P call) (C : Ctx P call nt ops ms al E H D V W) (hd0 : D 0 = h0.next) (I : DInv ops al E H D V W nt base ds ι0 h0 w0 S J ι hS a w) {i : Nat} {o : Oper} (hcl : Closed ops S)
    (ho : ops[i]? = some o) (hns : ¬ S i) (hb : ∀ e ∈ o.after, isBase e = true → S e.on) (hmax : J = ops.size ∨ ∃ op, al[J]? = some op ∧ aopE op = true) {Q : Exit → Act → World → Prop} {K : Act → World → Prop}
    (hK : ∀ J' ι' hS' a' w', DInv ops al E H D V W nt base ds ι0 h0 w0 (fun j => j = i ∨ S j) J' ι' hS' a' w' → K a' w') : wpOp P ops Q i K a w := by
  have hi : i < ops.size := (Array.getElem?_eq_some_iff.1 ho).1
  obtain ⟨_, op, _, hop⟩ := C.get hi
  obtain ⟨hc, hdst, _, _, hW, hU, hG⟩ := C.step ho hop
  have hsee : ∀ t, t ∈ o.looksAt ops → VR ι (val (E i) (.t (pos t))) (a.tmps.getD t undef) := fun t ht => by
    have hk := C.chk i o op ho hop
    cases op with
    | l looks f => exact I.seen C hcl ho hns hb hk.1 ht
    | p f => exact I.seen (firm := false) C hcl ho hns hb hk ht
    | n f => exact I.seen (firm := false) C hcl ho hns hb hk ht
    | e f => exact I.seen (firm := false) C hcl ho hns hb hk ht
    | call f x => exact I.seen (firm := false) C hcl ho hns hb hk ht
    | callv x y => exact I.seen (firm := false) C hcl ho hns hb hk ht
  have hopd := opd_of hsee
  have hwant : Region.wanted o (yielded ops a.tmps) = W i := by
    rcases hG with ⟨hg, hw⟩ | ⟨j, w, oj, g, hg, hj, hjd, hw⟩
    · rw [hw]; simp [Region.wanted, hg]
    · rw [hw]
      refine wanted_of (hsee g ?_) hg hj hjd
      unfold Oper.looksAt
      refine List.mem_append_right _ ?_
      simp [hg, hj, hjd]
  have hstage : aopE op = true → J = i := fun he => by
    have h1 : ¬ i < J := fun q => hns ((I.stage i op hop he).2 q)
    rcases Nat.lt_or_ge J i with g | g
    · rcases hmax with q | ⟨opJ, g1, g2⟩
      · omega
      · have := C.tot J i opJ op g1 hop g2 he g
        have := (I.stage J opJ g1 g2).1 (C.anc hcl ho hb this (by omega))
        omega
    · omega
  unfold wpOp
  rw [ho]
  simp only [hwant]
  cases hw : W i with
  | false =>
    obtain ⟨hv, hH⟩ := hU hw
    rw [if_neg (by simp)]
    have hvr : VR ι (V i) undef := by rw [hv]; exact VR.undef
    cases he : aopE op with
    | false =>
      exact hK _ _ _ _ _ (I.quiet C ho hop he hns (fun k m => by obtain ⟨f, _, q, _⟩ := m; rw [hw] at q; cases q) hvr I.rel (.refl _ _ _))
    | true =>
      have := hstage he
      subst this
      have hr : Rel base ι (H J) w := I.rel.less (fun b => by
        cases hq : (H J).blk b with
        | none => exact .inr rfl
        | some k => exact .inl (by rw [I.top b k hq])) I.nx.symm
      obtain ⟨hS', I'⟩ := I.eff C hd0 ho hop he hns hvr (by rw [hH]; exact hr) (by rw [hH]; exact .refl _ _ _)
      exact hK _ _ _ _ _ I'
  | true =>
    rw [if_pos rfl]
    have hD := hW hw
    have hOp := compOp_ok hc
    refine .inl ?_
    cases he : aopE op with
    | true =>
      have := hstage he
      subst this
      have hr : Rel base ι (H J) w := I.rel.less (fun b => by
        cases hq : (H J).blk b with
        | none => exact .inr rfl
        | some k => exact .inl (by rw [I.top b k hq])) I.nx.symm
      have hE : opE call (E J) (H J) op = .ok (V J) (H (J + 1)) := by
        cases op with
        | e f => exact hD
        | call f x => exact hD
        | callv x y => exact hD
        | p f => cases he
        | l x f => cases he
        | n f => cases he
      refine op_wp hn hcall hOp hr hopd hE fun ι' v' w' g1 g2 g3 => ?_
      obtain ⟨hS', I'⟩ := I.eff C hd0 ho hop he hns g1 g2 g3
      exact hK _ _ _ _ _ I'
    | false =>
      cases op with
      | p f =>
        have hE : opE call (E i) hS (.p f) = .ok (V i) hS := by
          have := (pv_some hD).1
          show pv hS (f (E i)) = _
          rw [this]; rfl
        refine op_wp hn hcall hOp I.rel hopd hE fun ι' v' w' g1 g2 g3 => ?_
        exact hK _ _ _ _ _ (I.quiet C ho hop he hns (fun k m => by obtain ⟨f, q, _⟩ := m; rw [hop] at q; cases q) g1 g2 g3)
      | l looks f =>
        have hE : opE call (E i) hS (.l looks f) = .ok (V i) hS := by
          have := I.load C hcl ho hop hns hb hopd hmax hOp.2.1 hOp.2.2 (pv_some hD).1
          show pv hS (f hS (E i)) = _
          rw [this]; rfl
        refine op_wp hn hcall hOp I.rel hopd hE fun ι' v' w' g1 g2 g3 => ?_
        exact hK _ _ _ _ _ (I.quiet C ho hop he hns (fun k m => by obtain ⟨f, q, _⟩ := m; rw [hop] at q; cases q) g1 g2 g3)
      | n f =>
        have h1' : (@VB.rec (fun _ => VH) .fail (fun v b => .ok v ((H i).put (D i) b)) (f (E i) (D i))) = VH.ok (V i) (H (i + 1)) := hD
        cases hb : f (E i) (D i) with
        | fail => rw [hb] at h1'; cases h1'
        | ok v k =>
          rw [hb] at h1'
          have h1'' : VH.ok v ((H i).put (D i) k) = VH.ok (V i) (H (i + 1)) := h1'
          injection h1'' with e1 e2
          subst e1
          have m : Mk al E D V W i k := ⟨f, hop, hw, hb⟩
          obtain ⟨v', w', Z, g1, g2, g3⟩ := hOp ι (E i) a w (D i) (V i) k hopd (I.late i k hns m).1 hb
          unfold Oper.wp
          rw [g2]
          exact hK _ _ _ _ _ (I.make C hd0 ho hop he hns m g1 g3)
      | e f => cases he
      | call f x => cases he
      | callv x y => cases he
end
end Go.Proofs.Ytndfelbgppbncaa.Ev
