/- A region that draws its order, where one condition on the world holds till the last operation that writes: copies and loads are taken first. -/
import Derived.OrdersHeld
import Derived.Tactics
import Derived.Laws.World
set_option linter.unusedVariables false
set_option linter.unusedSimpArgs false
namespace Go.Proofs.YtgamhgeiceakeaaDoor
section
variable {P : Program} {ops : Array Oper} {Q : Exit → Act → World → Prop} {md : Region.Mode} {S : World → Prop} {k : Nat}
/-- whatever comes up: the condition holds till number k has come up -/
def wpAnyT (P : Program) (md : Region.Mode) (ops : Array Oper) (Q : Exit → Act → World → Prop) (S : World → Prop) (k : Nat) : Nat → Array Bool → Act → World → Prop
  | 0, listed, a, w => Region.ready md ops listed = [] ∧ Q .normal a w
  | fuel + 1, listed, a, w =>
    (Region.ready md ops listed = [] → Q .normal a w) ∧
    ∀ i ∈ Region.ready md ops listed, wpOp P ops Q i (fun a' w' => ((listed.setIfInBounds i true).getD k false = false → S w') ∧ wpAnyT P md ops Q S k fuel (listed.setIfInBounds i true) a' w') a w
theorem wpAny_of_T : ∀ (fuel : Nat) (listed : Array Bool) (a : Act) (w : World), wpAnyT P md ops Q S k fuel listed a w → wpAny P md ops Q fuel listed a w
  | 0, _, _, _, h => h
  | fuel + 1, _, _, _, h => ⟨h.1, fun i hi => wpOp_mono (fun a' w' h' => wpAny_of_T fuel _ a' w' h'.2) (h.2 i hi)⟩
theorem getD_ne {l : Array Bool} {i k : Nat} (h : i ≠ k) : (l.setIfInBounds i true).getD k false = l.getD k false := by
  simp [Array.getD_eq_getD_getElem?, Array.getElem?_setIfInBounds, h]
theorem getD_true_of {l : Array Bool} {i : Nat} (hi : l.getD i true = false) (h : (l.setIfInBounds i true).getD i false = false) : False := by
  rcases Nat.lt_or_ge i l.size with h' | h'
  · simp [Array.getD_eq_getD_getElem?, Array.getElem?_setIfInBounds, h'] at h
  · simp [Array.getD_eq_getD_getElem?, h'] at hi
/-- does k wait for i? -/
def waitsOn (md : Region.Mode) (ops : Array Oper) (k i : Nat) : Bool := match ops[k]? with
  | none => false
  | some o => o.after.toList.any fun e => Region.binds md e && e.on == i
/-- or is k no operation at all? (then the condition holds to the end) -/
def holdsTo (md : Region.Mode) (ops : Array Oper) (k i : Nat) : Bool := waitsOn md ops k i || Nat.ble ops.size k
theorem waits_spec {i : Nat} (h : waitsOn md ops k i = true) {listed : Array Bool} (hk : k ∈ Region.ready md ops listed) : listed.getD i false = true := by
  obtain ⟨_, o, ho, hall⟩ := mem_ready.1 hk
  unfold waitsOn at h
  simp only [ho, List.any_eq_true, Bool.and_eq_true, beq_iff_eq] at h
  obtain ⟨e, he, hb, rfl⟩ := h
  exact hall e (Array.mem_toList_iff.1 he) hb
theorem unlisted {i : Nat} {listed : Array Bool} (hi : i ∈ Region.ready md ops listed) : listed.getD i false = true → False := by
  intro h
  have h0 := (mem_ready.1 hi).1
  rcases Nat.lt_or_ge i listed.size with h' | h'
  · have : listed[i]? = some listed[i] := Array.getElem?_eq_getElem h'
    simp [Array.getD_eq_getD_getElem?, this] at h0 h
    rw [h0] at h; cases h
  · simp [Array.getD_eq_getD_getElem?, Array.getElem?_eq_none h'] at h
theorem wpAnyT_first {i : Nat} {oi : Oper} {v : Value} {S' : World → Prop} (hi : ops[i]? = some oi) (hsel : ∀ (j : Nat) (o : Oper) cs b, ops[j]? = some o → o.op ≠ .select cs b)
    (hQ : ∀ c a w, Q (.panic c) (a.put oi.dst v) w → Q (.panic c) a w) (hik : i ≠ k) (hSS : (S' = S ∧ holdsTo md ops k i = true) ∨ ∀ w, S' w) :
    ∀ (fuel : Nat) (listed : Array Bool) (a : Act) (w : World),
      (∀ j oj, ops[j]? = some oj → j ≠ i → listed.getD j true = false → (∀ e ∈ oj.after, Region.binds md e = true → e.on ≠ i) → oi.apart ops oj = true) →
      i ∈ Region.ready md ops listed → YieldsIf P ops S' oi v a → S' w → (listed.getD k false = false → S w) → (S' = S → (∀ w, S' w) ∨ listed.getD k false = false) →
      wpAnyT P md ops Q S k fuel (listed.setIfInBounds i true) (a.put oi.dst v) w → wpAnyT P md ops Q S k (fuel + 1) listed a w := by
  intro fuel
  induction fuel with
  | zero =>
    intro listed a w _ hr hy hS hO _ H
    refine ⟨(fun h => by rw [h] at hr; cases hr), fun j hj => ?_⟩
    by_cases hji : j = i
    · subst hji; exact hy.wpOp hi hS ⟨fun h => hO (by rwa [getD_ne hik] at h), H⟩
    · have := ready_mono hj hji
      rw [H.1] at this
      cases this
  | succ fuel ih =>
    intro listed a w hfree hr hy hS hO hU H
    refine ⟨(fun h => by rw [h] at hr; cases hr), fun j hj => ?_⟩
    by_cases hji : j = i
    · subst hji; exact hy.wpOp hi hS ⟨fun h => hO (by rwa [getD_ne hik] at h), H⟩
    · have h1 := H.2 j (ready_mono hj hji)
      obtain ⟨hjun, oj, hoj, hall⟩ := mem_ready.1 hj
      have hnot : ∀ e ∈ oj.after, Region.binds md e = true → e.on ≠ i := fun e he hb heq => unlisted hr (heq ▸ hall e he hb)
      have h2 := wpOp_putIf hoj (hfree j oj hoj hji hjun hnot) (fun cs b => hsel i oi cs b hi) (fun cs b => hsel j oj cs b hoj) hQ hy h1
      have hfree' : ∀ m om, ops[m]? = some om → m ≠ i → (listed.setIfInBounds j true).getD m true = false →
          (∀ e ∈ om.after, Region.binds md e = true → e.on ≠ i) → oi.apart ops om = true := fun m om hm hmi hun hno => by
        refine hfree m om hm hmi ?_ hno
        by_cases hjm : j = m
        · subst hjm; exact hjun
        · rw [getD_set_ne true hjm] at hun; exact hun
      have hO' : ∀ w', (((listed.setIfInBounds i true).setIfInBounds j true).getD k false = false → S w') → (listed.setIfInBounds j true).getD k false = false → S w' := fun w' h3 h4 => by
        refine h3 ?_
        rw [Array.setIfInBounds_comm _ _ (Ne.symm hji), getD_ne hik]; exact h4
      refine wpOp_mono (fun a' w' h3 => ⟨hO' w' h3.2.1, ih (listed.setIfInBounds j true) a' w' hfree' (ready_mono hr (Ne.symm hji)) h3.1 ?_ (hO' w' h3.2.1) ?_ ?_⟩) h2
      · rcases hSS with ⟨e, hk⟩ | hall'
        · rcases hU e with hall' | hkl
          · exact hall' _
          · subst e
            have hjk : j ≠ k := by
              rintro rfl
              unfold holdsTo at hk
              rw [Bool.or_eq_true] at hk
              rcases hk with hk | hk
              · exact unlisted hr (waits_spec hk hj)
              · have h5 := (Array.getElem?_eq_some_iff.1 hoj).1
                have h6 := Nat.le_of_ble_eq_true hk
                omega
            exact hO' w' h3.2.1 (by rw [getD_ne hjk]; exact hkl)
        · exact hall' _
      · intro e
        rcases hSS with ⟨_, hk⟩ | hall'
        · rcases hU e with hall' | hkl
          · exact Or.inl hall'
          · have hjk : j ≠ k := by
              rintro rfl
              unfold holdsTo at hk
              rw [Bool.or_eq_true] at hk
              rcases hk with hk | hk
              · exact unlisted hr (waits_spec hk hj)
              · have h5 := (Array.getElem?_eq_some_iff.1 hoj).1
                have h6 := Nat.le_of_ble_eq_true hk
                omega
            exact Or.inr (by rw [getD_ne hjk]; exact hkl)
        · exact Or.inl hall'
      · rw [Array.setIfInBounds_comm _ _ hji]
        exact h3.2.2
/-- a load or a copy first, while k has not come up -/
theorem wpAnyT_take (i : Nat) {oi : Oper} {v : Value} {fuel : Nat} {listed : Array Bool} {a : Act} {w : World} (hi : ops[i]? = some oi)
    (hs : Region.noSelect ops = true) (hk : (holdsTo md ops k i && !listed.getD k false) = true) (hik : i ≠ k) (hf : Region.free md ops listed i = true) (hr : (Region.ready md ops listed).contains i = true)
    (hQ : ∀ c a w, Q (.panic c) (a.put oi.dst v) w → Q (.panic c) a w) (hS : S w) (hw : Region.wanted oi (yielded ops a.tmps) = true) (hy : ∀ w, S w → (execOp a.eval oi).run P w = .ok (.value v) w)
    (h : wpAnyT P md ops Q S k fuel (listed.setIfInBounds i true) (a.put oi.dst v) w) : wpAnyT P md ops Q S k (fuel + 1) listed a w := by
  simp only [Bool.and_eq_true, Bool.not_eq_true'] at hk
  exact wpAnyT_first hi (Region.noSelect_spec hs) hQ hik (Or.inl ⟨rfl, hk.1⟩) fuel listed a w (Region.free_spec hi hf) (by simpa using hr) (Or.inl ⟨hw, hy⟩) hS (fun _ => hS) (fun _ => Or.inr hk.2) h
/-- what hangs on no world, first -/
theorem wpAnyT_pure (i : Nat) {oi : Oper} {v : Value} {fuel : Nat} {listed : Array Bool} {a : Act} {w : World} (hi : ops[i]? = some oi)
    (hs : Region.noSelect ops = true) (hik : i ≠ k) (hf : Region.free md ops listed i = true) (hr : (Region.ready md ops listed).contains i = true)
    (hQ : ∀ c a w, Q (.panic c) (a.put oi.dst v) w → Q (.panic c) a w) (hS : S w) (hw : Region.wanted oi (yielded ops a.tmps) = true) (hy : ∀ w, (execOp a.eval oi).run P w = .ok (.value v) w)
    (h : wpAnyT P md ops Q S k fuel (listed.setIfInBounds i true) (a.put oi.dst v) w) : wpAnyT P md ops Q S k (fuel + 1) listed a w :=
  wpAnyT_first (S' := fun _ => True) hi (Region.noSelect_spec hs) hQ hik (Or.inr fun _ => trivial) fuel listed a w (Region.free_spec hi hf) (by simpa using hr) (Or.inl ⟨hw, fun w _ => hy w⟩) trivial (fun _ => hS) (fun _ => Or.inl fun _ => trivial) h
/-- what is not wanted -/
theorem wpAnyT_skip (i : Nat) {oi : Oper} {fuel : Nat} {listed : Array Bool} {a : Act} {w : World} (hi : ops[i]? = some oi)
    (hs : Region.noSelect ops = true) (hik : i ≠ k) (hf : Region.free md ops listed i = true) (hr : (Region.ready md ops listed).contains i = true)
    (hQ : ∀ c a w, Q (.panic c) (a.put oi.dst undef) w → Q (.panic c) a w) (hS : S w) (hw : Region.wanted oi (yielded ops a.tmps) = false)
    (h : wpAnyT P md ops Q S k fuel (listed.setIfInBounds i true) (a.put oi.dst undef) w) : wpAnyT P md ops Q S k (fuel + 1) listed a w :=
  wpAnyT_first (S' := fun _ => True) hi (Region.noSelect_spec hs) hQ hik (Or.inr fun _ => trivial) fuel listed a w (Region.free_spec hi hf) (by simpa using hr) (Or.inr ⟨hw, rfl⟩) trivial (fun _ => hS) (fun _ => Or.inl fun _ => trivial) h
/-- one alone may come up -/
theorem wpAnyT_one (i : Nat) {o : Oper} {fuel : Nat} {listed : Array Bool} {a : Act} {w : World} (hr : Region.ready md ops listed = [i]) (hi : ops[i]? = some o)
    (hw : Region.wanted o (yielded ops a.tmps) = true)
    (h : ∀ K : Act → World → Prop, (∀ a' w', (i ≠ k → S w') → wpAnyT P md ops Q S k fuel (listed.setIfInBounds i true) a' w' → K a' w') → o.wp P a w K Q) : wpAnyT P md ops Q S k (fuel + 1) listed a w := by
  refine ⟨(fun h0 => by rw [hr] at h0; cases h0), fun j hj => ?_⟩
  rw [hr] at hj
  obtain rfl : j = i := by simpa using hj
  unfold wpOp
  simp only [hi, hw, if_true]
  refine Or.inl (h _ fun a' w' h1 h2 => ⟨fun h3 => h1 ?_, h2⟩)
  rintro rfl
  exact getD_true_of (mem_ready.1 (show _ ∈ Region.ready md ops listed from by rw [hr]; exact List.mem_singleton.2 rfl)).1 h3
theorem wpAnyT_done {fuel : Nat} {listed : Array Bool} {a : Act} {w : World} (hr : Region.ready md ops listed = []) (h : Q .normal a w) :
    wpAnyT P md ops Q S k fuel listed a w := by
  cases fuel with
  | zero => exact ⟨hr, h⟩
  | succ f => exact ⟨fun _ => h, by rw [hr]; simp⟩
theorem wp_region_T {id : Nat} {a : Act} {w : World} (S : World → Prop) (k : Nat) (hm : P.follows .mixedOrders = true)
    (h : wpAnyT P .any ops Q S k ops.size (Array.replicate ops.size false) a { w with drawn := w.drawn + 1 }) : (Code.region id ops true).wp P Q a w :=
  wp_region_any hm (wpAny_of_T _ _ _ _ h)
theorem wp_region_T_drew {id : Nat} {a : Act} {w : World} (S : World → Prop) (k : Nat) (hm : P.follows .mixedOrders = true) (hS : S w.drew)
    (h : S w.drew → wpAnyT P .any ops Q S k ops.size (Array.replicate ops.size false) a w.drew) : (Code.region id ops true).wp P Q a w := wp_region_T S k hm (h hS)
end
end Go.Proofs.YtgamhgeiceakeaaDoor
