/- The evaluator's soundness: clear; a text's bytes. -/
import Derived.Test.YtndfelbgppbncaaEvApp
set_option linter.unusedVariables false
namespace Go.Proofs.Ytndfelbgppbncaa.Ev
section
variable {P : Program} {o : Oper}
theorem repL_zero (z : List Value) : repL z 0 = [] := rfl
theorem repL_succ (z : List Value) (n : Nat) : repL z (n + 1) = z ++ repL z n := by
  show app z (repL z n) = _
  rw [app_eq]
theorem repL_length (z : List Value) : ∀ n, (repL z n).length = n * z.length
  | 0 => by simp [repL_zero]
  | n + 1 => by rw [repL_succ, List.length_append, repL_length z n, Nat.add_mul]; omega
theorem repL_get (z : List Value) (hz : 0 < z.length) : ∀ (n i : Nat), i < n * z.length → (repL z n)[i]? = z[i % z.length]?
  | 0, i, h => by omega
  | n + 1, i, h => by
    rw [repL_succ]
    by_cases q : i < z.length
    · rw [List.getElem?_append_left q, Nat.mod_eq_of_lt q]
    · have hm : i % z.length = (i - z.length) % z.length := Nat.mod_eq_sub_mod (by omega)
      rw [List.getElem?_append_right (by omega), repL_get z hz n (i - z.length) (by rw [Nat.add_mul, Nat.one_mul] at h; omega), hm]
theorem repL_VR {ι : Inj} {z : List Value} {zc : Array Value} (h : VRL ι z zc.toList) (n : Nat) : VRL ι (repL z n) (Builtin.zeroCells zc n).toList := by
  have hl : z.length = zc.size := h.length
  refine VRL.of_get (by rw [repL_length]; simp [Builtin.zeroCells, hl]) fun i v v' h1 h2 => ?_
  have hi : i < n * z.length := by have := (List.getElem?_eq_some_iff.1 h1).1; rwa [repL_length] at this
  have hz : 0 < z.length := Nat.pos_of_ne_zero fun q => by rw [q] at hi; omega
  rw [repL_get z hz n i hi] at h1
  obtain ⟨u, g1, g2⟩ := h.get _ _ h1
  have hm : i % zc.size < zc.size := Nat.mod_lt _ (by omega)
  simp only [Builtin.zeroCells, Array.toList_map, List.getElem?_map, Array.toList_range] at h2
  rw [List.getElem?_range (by rw [← hl]; exact hi), Option.map_some, getElem!_pos zc _ hm] at h2
  cases h2
  rw [hl] at g1
  have g1' : zc[i % zc.size]? = some u := by simpa using g1
  rw [Array.getElem?_eq_getElem hm] at g1'
  cases g1'
  exact g2
theorem repL_cell {z : List Value} (h : z.all isCell = true) : ∀ n, (repL z n).all isCell = true
  | 0 => rfl
  | n + 1 => by rw [repL_succ, List.all_append, h, repL_cell h n]; rfl
theorem es_clear {cl : Call} {t e' : TypeId} {z : List Value} {x : Operand} {x' : AO} (ho : o.op = .call cl) (hc : cl.callee = .builtin .clear) (ha : cl.args = #[x]) (hty : cl.argTypes[0]? = some t)
    (ht : P.underlying t = some (.slice e')) (hz : zeroT P e' = some z) (hx : cO x = some x') : ES P o (eClear z x') := fun base0 ι h w ρ a v h' r e hv => by
  obtain ⟨bs, n, c, hbs, hv⟩ := vSlcH_some hv
  obtain ⟨i, zv, hi, hzv, hzc, hg, hzl, hza⟩ := zeroT_some hz
  have ex := e.val hx (by simp [ho, Op.operands, Call.operands, hc, ha])
  rw [hbs] at ex
  have hop : ∀ r', (Builtin.clear_ cl.argTypes o.type #[a.eval x]).run P w = r' → (execOp a.eval o).run P w = r'.andThen fun v w => .ok (.value v) w := fun r' hr => by
    simp only [execOp, ho, hc, ha, resolve, invoke, builtin, Sem.run_bind, Sem.run_pure, Result.andThen_ok, List.map_toArray, List.map_cons, List.map_nil, hr]
  generalize hq : a.eval x = q at ex hop
  cases ex with
  | slcN =>
    have hv' : VH.ok undefV h = VH.ok v h' := hv
    cases hv'
    exact ⟨ι, undef, w, .inl (hop (.ok undef w) (by simp [Builtin.clear_, hty, run_underlying ht, undef])), .undef, r, .refl _ _ _⟩
  | @slc bb B o0 S ii j _ _ c' eb hcr hl hj hS =>
    have hv1 : (@Bool.rec (fun _ => VH) (storeV h ⟨bb, ii, none⟩ (repL z n) undefV) (.ok undefV h) (Nat.beq n 0)) = VH.ok v h' := hv
    rw [beq_eq] at hv1
    by_cases q0 : n = 0
    · rw [decide_eq_true q0] at hv1
      subst q0
      cases hv1
      exact ⟨ι, undef, w, .inl (hop (.ok undef w) (by simp [Builtin.clear_, hty, run_underlying ht, undef])), .undef, r, .refl _ _ _⟩
    · rw [decide_eq_false q0] at hv1
      obtain ⟨b1, i1, nn, pat, tr, q1, rfl, hk, hfit, rfl⟩ := storeV_spec hv1
      cases q1
      obtain ⟨w', s1, s2, s3⟩ := r.store (P := P) (j := j) eb hk (by rcases hj with q | q; exact q; omega) (repL_VR (zc := zv.cells) (by rw [hzc]; exact .ground z hg) n) (repL_cell hza n) hfit
      refine ⟨ι, undef, w', .inl (hop (.ok undef w') ?_), .undef, s2, s3⟩
      have hzr : (zeroValue e').run P w = .ok zv w := by simp [zeroValue, typeInfo, hi, hzv]
      obtain ⟨n', rfl⟩ : ∃ k, n = k + 1 := ⟨n - 1, by omega⟩
      simp [Builtin.clear_, hty, run_underlying ht, hzr, s1, undef]
theorem ns_s2b {s d e' : TypeId} {x : Operand} {x' : AO} (hs : P.underlying s = some .string) (hd : P.underlying d = some (.slice e')) (he : P.underlying e' = some (.int .u8)) (ho : o.op = .convert s d x) (hx : cO x = some x') : NS P o (nS2b x') := fun ι ρ a w id v k e hid h => by
  have hstr : ∃ t, val ρ x' = .string t ∧ v = .slice (some ⟨id, 0, none⟩) t.data.toList.length (FZ + t.data.toList.length) ∧ k = .cells true t.data.toList.length (byteVals t.data.toList) .nil ∧ t.data.toList.length < FZ := by
    unfold nS2b at h
    cases hq : val ρ x' with
    | string t =>
      rw [hq] at h
      have h' : (@Bool.rec (fun _ => VB) .fail (.ok (.slice (some ⟨id, 0, none⟩) (len (strL t)) (FZ + len (strL t))) (.cells true (len (strL t)) (byteVals (strL t)) .nil)) (Nat.blt (len (strL t)) FZ)) = VB.ok v k := h
      rw [len_eq, strL_eq, blt_eq] at h'
      by_cases q : t.data.toList.length < FZ
      · rw [decide_eq_true q] at h'
        cases h'
        exact ⟨t, rfl, rfl, rfl, q⟩
      · rw [decide_eq_false q] at h'; cases h'
    | _ => rw [hq] at h; cases h
  obtain ⟨t, hv, rfl, rfl, hsm⟩ := hstr
  have ex := e.val hx (by simp [ho, Op.operands])
  rw [hv] at ex
  generalize hq : a.eval x = q at ex
  cases ex
  have hsz : t.data.toList.length = t.size := rfl
  rw [hsz] at hsm ⊢
  let cap := (Question.appendCap t.size 0 e').cut (w.tape w.drawn (.appendCap t.size 0 e'))
  have hcap : t.size ≤ cap := by simp [cap, Question.cut]
  let cs : Array Value := t.data.map (fun b => .int .u8 b.toNat) ++ Array.replicate (cap - t.size) (.int .u8 0)
  have hcs : cs.size = cap := by
    have : t.data.size = t.size := rfl
    simp only [cs, Array.size_append, Array.size_map, Array.size_replicate, this]; omega
  have hB : (w.drew.alloc (.cells cs e')).heap[w.heap.size]? = some (.cells cs e' (0, 0)) := heap_alloc_new w.drew _
  obtain ⟨fr', f1, f2, f3, f4⟩ := freeze_eq _ hB
  have hheap : ((w.drew.alloc (.cells cs e')).freeze ⟨w.heap.size, cs.size, none⟩ 1).heap = w.heap.push (.cells cs e' fr') := by
    apply Array.ext_getElem?
    intro i
    by_cases q : i = w.heap.size
    · subst q; rw [f1]; simp
    · rw [f3 i q, Array.getElem?_push, if_neg q]
      show (w.heap.push (.cells cs e'))[i]? = _
      rw [Array.getElem?_push, if_neg q]
  have hfz : ((w.drew.alloc (.cells cs e')).freeze ⟨w.heap.size, cs.size, none⟩ 1).os = w.os ∧ ((w.drew.alloc (.cells cs e')).freeze ⟨w.heap.size, cs.size, none⟩ 1).tape = w.tape ∧ ((w.drew.alloc (.cells cs e')).freeze ⟨w.heap.size, cs.size, none⟩ 1).output = w.output := by
    unfold World.freeze; rw [if_neg (by decide)]; exact ⟨rfl, rfl, rfl⟩
  refine ⟨.slice (some ⟨w.heap.size, 0, none⟩) t.size cap, (w.drew.alloc (.cells cs e')).freeze ⟨w.heap.size, cs.size, none⟩ 1, cs.size, ?_, ?_, ?_⟩
  · have hge := fz_ge 1 t.size (by decide)
    rw [Nat.mul_one] at hge
    have hm := fz_mod 1 t.size hsm
    have hd := fz_div 1 t.size hsm
    rw [Nat.mul_one] at hm hd
    refine vr_newS ι w id t.size _ cap _ ?_ ?_ ?_
    · unfold CapR; rw [if_neg hge, hm]; exact hcap
    · rw [capLow_eq, hm]; exact Nat.le_refl _
    · intro _; rw [hd, hcs]; omega
  · have hch : (choose (Question.appendCap t.size 0 e')).run P w = .ok cap w.drew := by
      rw [run_choose]; rfl
    have hcs' : t.data.map (fun b => Value.int .u8 b.toNat) ++ Array.replicate (cap - t.size) (Value.int .u8 0) = cs := rfl
    simp only [execOp, ho, hq, convert, Sem.run_bind, run_underlying hs, run_underlying hd, Result.andThen_ok, run_underlying he, Conv.stringToBytes, hch, newRow, run_newObj_alloc, Sem.run_pure, hcs']
    have hmk := run_markStringish (P := P) (j := 0) hB
    have hdz : w.drew.heap.size = w.heap.size := rfl
    rw [hdz, hmk]
    rfl
  · refine made_rowR (e := e') (cells := cs) (fr := fr') ?_ (by rw [hcs]; exact hcap) hheap (f2 (.inl rfl)) hfz.1 hfz.2.1 hfz.2.2
    intro i u hu
    obtain ⟨p1, p2⟩ := get_pat hu
    obtain ⟨g1, g2⟩ := byteVals_VR ι t.data.toList
    rw [byteVals_eq, List.length_map, hsz, Nat.mod_eq_of_lt p1, ← byteVals_eq] at p2
    obtain ⟨v', p3, p4⟩ := g1.get _ _ p2
    refine ⟨List.all_eq_true.1 g2 u (List.mem_of_getElem? p2), v', ?_, p4⟩
    have hlt : i < (t.data.map (fun b => Value.int .u8 b.toNat)).size := by simp; exact p1
    rw [Array.getElem?_toList]
    simp only [cs]
    rw [Array.getElem?_append_left hlt, ← p3]
    simp
end
end Go.Proofs.Ytndfelbgppbncaa.Ev
