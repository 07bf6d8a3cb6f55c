/- The evaluator's soundness: slices that are made. -/
import Derived.Test.YtndfelbgppbncaaEvMake
set_option linter.unusedVariables false
namespace Go.Proofs.Ytndfelbgppbncaa.Ev
section
variable {P : Program} {o : Oper}
theorem get_fillL : ∀ (l : List Value) (off : Nat) (cs : List Value) (i : Nat), (fillL l off cs)[i]? = if off ≤ i ∧ i < off + l.length ∧ i < cs.length then l[i - off]? else cs[i]?
  | [], off, cs, i => by
    show cs[i]? = _
    rw [if_neg (by simp; omega)]
  | v :: l, off, cs, i => by
    rw [fillL_cons, get_fillL]
    simp only [List.length_set, List.length_cons]
    by_cases h1 : off + 1 ≤ i ∧ i < off + 1 + l.length ∧ i < cs.length
    · rw [if_pos h1, if_pos (by omega), show i - off = (i - (off + 1)) + 1 by omega]
      simp
    · rw [if_neg h1]
      by_cases h2 : i = off
      · subst h2
        by_cases h3 : i < cs.length
        · rw [if_pos (by omega)]; simp [h3]
        · rw [if_neg (by omega)]; simp [h3]
      · rw [if_neg (by omega), List.getElem?_set_ne (Ne.symm h2)]
/-- a row of cells, told by a pattern and a tree -/
def RowR (ι : Inj) (n : Nat) (pat : List Value) (t : Tr Value) (cs : List Value) : Prop :=
  ∀ i v, (Blk.cells true n pat t).get i = some v → isCell v = true ∧ ∃ v', cs[i]? = some v' ∧ VR ι v v'
theorem RowR.fill {ι : Inj} {n : Nat} {pat : List Value} {t : Tr Value} {cs : List Value} (h : RowR ι n pat t cs) (hn : cs.length = n) {l l' : List Value} (hl : VRL ι l l') (hc : l.all isCell = true) (off : Nat) :
    RowR ι n pat (setN l off t) (fillL l' off cs) := fun i v hv => by
  rw [get_setN_cells true true] at hv
  rw [get_fillL, ← hl.length, hn]
  by_cases q : off ≤ i ∧ i < off + l.length ∧ i < n
  · rw [if_pos q] at hv
    rw [if_pos q]
    obtain ⟨v', h1, h2⟩ := hl.get _ _ hv
    exact ⟨List.all_eq_true.1 hc v (List.mem_of_getElem? hv), v', h1, h2⟩
  · rw [if_neg q] at hv
    rw [if_neg q]
    exact h i v hv
theorem evSlots_cons {ρ : Env} {size n i s0 : Nat} {x : AO} {rest : Parts} {t r : Tr Value} (h : evSlots ρ size n (.cons i s0 x rest) t = some r) :
    ∃ l, scells (val ρ x) = some l ∧ l.length = size ∧ i < n ∧ evSlots ρ size n rest (setN l (i * size) t) = some r := by
  have h' : (@Option.rec (List Value) (fun _ => Option (Tr Value)) none (fun l => @Bool.rec (fun _ => Option (Tr Value)) none (@Bool.rec (fun _ => Option (Tr Value)) none (evSlots ρ size n rest (setN l (i * size) t)) (Nat.blt i n)) (Nat.beq (len l) size)) (scells (val ρ x))) = some r := h
  obtain ⟨l, h1, h2⟩ := optN_some h'
  rw [len_eq, beq_eq, blt_eq] at h2
  by_cases q1 : l.length = size
  · rw [decide_eq_true q1] at h2
    by_cases q2 : i < n
    · rw [decide_eq_true q2] at h2
      exact ⟨l, h1, q1, q2, h2⟩
    · rw [decide_eq_false q2] at h2; cases h2
  · rw [decide_eq_false q1] at h2; cases h2
theorem slots_ok {ι : Inj} {ρ : Env} {a : Act} {size n : Nat} {pat : List Value} :
    ∀ {parts : List (Nat × Operand)} {ps : Parts} {t r : Tr Value} {cs : Array Value}, (∀ p ∈ parts, ∀ y, cO p.2 = some y → VR ι (val ρ y) (a.eval p.2)) → cParts (fun i => some (i, size)) parts = some ps → RowR ι (n * size) pat t cs.toList → cs.size = n * size → evSlots ρ size n ps t = some r →
      ∃ r' : Array Value, Instr.fill (fun i => some (i * size, size)) cs (parts.map fun (i, x) => (i, a.eval x)) = some r' ∧ RowR ι (n * size) pat r r'.toList ∧ r'.size = n * size
  | [], ps, t, r, cs, e, hps, hc, hs, hr => by
    have : ps = .nil := (Option.some.inj hps).symm
    subst this
    have hr' : some t = some r := hr
    cases hr'
    exact ⟨cs, rfl, hc, hs⟩
  | (i, x) :: l, ps, t, r, cs, e, hps, hc, hs, hr => by
    obtain ⟨off, s0, y, rest, h1, h2, h3, rfl⟩ := cParts_cons hps
    cases h1
    obtain ⟨vs, q1, q2, q3, q4⟩ := evSlots_cons hr
    obtain ⟨v1, v2⟩ := (e (i, x) (by simp) y h2).scells q1
    have hlen : (a.eval x).cells.size = size := by
      have := v1.length
      rw [q2] at this
      exact this.symm
    have hfl : (((a.eval x).cells.zipIdx.foldl (fun cs (c, j) => cs.setIfInBounds (i * size + j) c) cs)).toList = fillL (a.eval x).cells.toList (i * size) cs.toList := fill_toList _ _ _
    have hsz : ((a.eval x).cells.zipIdx.foldl (fun cs (c, j) => cs.setIfInBounds (i * size + j) c) cs).size = n * size := by
      rw [← hs, ← Array.length_toList, hfl, length_fillL, Array.length_toList]
    obtain ⟨r', g1, g2, g3⟩ := slots_ok (cs := (a.eval x).cells.zipIdx.foldl (fun cs (c, j) => cs.setIfInBounds (i * size + j) c) cs) (fun p hp' => e p (by simp [hp'])) h3 (by rw [hfl]; exact hc.fill (by simpa using hs) v1 v2 _) hsz q4
    refine ⟨r', ?_, g2, g3⟩
    rw [List.map_cons]
    unfold Instr.fill
    simp only
    have hle : i * size + size ≤ n * size := by
      have : (i + 1) * size ≤ n * size := Nat.mul_le_mul_right _ q3
      rw [Nat.add_mul, Nat.one_mul] at this; exact this
    rw [if_neg (by simp [hlen]; omega)]
    exact g1
theorem rep_row {ι : Inj} {z : List Value} {zc : Array Value} (hz : VRL ι z zc.toList) (hc : z.all isCell = true) (n : Nat) (hn : 0 < n → 0 < z.length) :
    RowR ι n z .nil ((Array.range n).map (fun i => zc[i % zc.size]!)).toList := fun i v hv => by
  obtain ⟨hlt, hv⟩ := get_pat hv
  obtain ⟨v', h1, h2⟩ := hz.get _ _ hv
  refine ⟨List.all_eq_true.1 hc v (List.mem_of_getElem? hv), v', ?_, h2⟩
  have hl : z.length = zc.size := hz.length
  have hpos : 0 < zc.size := by rw [← hl]; exact hn (by omega)
  have hm : i % zc.size < zc.size := Nat.mod_lt _ hpos
  rw [hl] at h1
  have h1' : zc[i % zc.size]? = some v' := by simpa using h1
  simp only [Array.toList_map, List.getElem?_map, Array.toList_range, List.getElem?_range hlt, Option.map_some]
  rw [getElem!_pos zc _ hm]
  rw [Array.getElem?_eq_getElem hm] at h1'
  exact h1'
theorem vr_newS (ι : Inj) (w : World) (id l c c' S : Nat) (h : CapR c c') (hl : l ≤ capLow c) (hs : FZ ≤ c → c' * (c / FZ) ≤ S) : VR (ι.up id (w.heap.size, 0, S)) (.slice (some ⟨id, 0, none⟩) l c) (.slice (some ⟨w.heap.size, 0, none⟩) l c') :=
  .slc (B := w.heap.size) (o := 0) (S := S) (Inj.up_self _ _ _) h hl (.inl rfl) (fun q => by rw [Nat.zero_add]; exact hs q)
theorem made_rowR {ι : Inj} {w w' : World} {e : TypeId} {n : Nat} {pat : List Value} {t : Tr Value} {cells : Array Value} {fr : Nat × Nat} (h : RowR ι n pat t cells.toList) (hn : n ≤ cells.size) (hp : w'.heap = w.heap.push (.cells cells e fr)) (hf : FrOK fr cells.size)
    (h1 : w'.os = w.os) (h2 : w'.tape = w.tape) (h3 : w'.output = w.output) : Made ι w w' (.cells true n pat t) cells.size :=
  ⟨⟨n, pat, t, cells, e, fr, rfl, hp, ⟨rfl, hn⟩, fun i v hv => by
    obtain ⟨q1, v', q2, q3⟩ := h i v hv
    exact ⟨q1, v', by simpa using q2, q3⟩, hf⟩, h1, h2, h3⟩
theorem ns_slice {t e' : TypeId} {len s : Nat} {parts : Array (Nat × Operand)} {z : List Value} {ps : Parts} (ht : P.underlying t = some (.slice e')) (hs : sizeT P e' = some s) (hz : zeroT P e' = some z) (hle : len * s ≤ 16777216) (hlen : len ≤ 16777216)
    (hps : cParts (fun i => some (i, s)) parts.toList = some ps) (ho : o.op = .buildSlice t len parts) : NS P o (nSlice len s z ps) := fun ι ρ a w id v k e hid h => by
  have h' : (@Option.rec (Tr Value) (fun _ => VB) .fail (fun t => .ok (.slice (some ⟨id, 0, none⟩) len len) (.cells true (len * s) z t)) (evSlots ρ s len ps .nil)) = VB.ok v k := h
  cases hr : evSlots ρ s len ps .nil with
  | none => rw [hr] at h'; cases h'
  | some r =>
    rw [hr] at h'
    cases h'
    obtain ⟨i, zv, hi, hv, hzc, hg, hzl, hza⟩ := zeroT_some hz
    obtain ⟨i', hi', hsz⟩ := sizeT_some hs
    rw [hi] at hi'
    cases hi'
    have hzr : (zeroValue e').run P w = .ok zv w := by simp [zeroValue, typeInfo, hi, hv]
    have hnn : ¬ len * s > 2 ^ 24 := by have : (2 : Nat) ^ 24 = 16777216 := by decide
                                        omega
    let zc : Array Value := if len * s = 0 then #[] else zv.cells
    have hrow : RowR ι (len * s) z .nil ((Array.range (len * s)).map (fun i => zc[i % zc.size]!)).toList := by
      by_cases q : len * s = 0
      · intro i v hv; have := (get_pat hv).1; omega
      · have : zc = zv.cells := if_neg q
        rw [this]
        refine rep_row (by rw [hzc]; exact .ground z hg) hza _ fun _ => ?_
        rw [hzl, hsz]
        exact Nat.pos_of_ne_zero fun q' => q (by rw [q']; exact Nat.mul_zero _)
    obtain ⟨r', g1, g2, g3⟩ := slots_ok (cs := (Array.range (len * s)).map (fun i => zc[i % zc.size]!)) (fun p hp y hy => e.val hy (by simp only [ho, Op.operands]; simp; exact ⟨p.1, Array.mem_toList_iff.1 hp⟩)) hps hrow (by simp) hr
    refine ⟨.slice (some ⟨w.heap.size, 0, none⟩) len len, { w with heap := w.heap.push (.cells r' e') }, r'.size, vr_newS _ _ _ _ _ _ _ (by unfold CapR FZ; rw [if_pos (by omega)]) (by rw [capLow_eq]; unfold FZ; omega) (by unfold FZ; omega), ?_, made_rowR g2 (by omega) rfl (.inl rfl) rfl rfl rfl⟩
    have hl : (parts.map fun (i, x) => (i, a.eval x)).toList = parts.toList.map fun (i, x) => (i, a.eval x) := by simp
    simp only [execOp, ho, Instr.buildSlice, Sem.run_bind, run_underlying ht, Result.andThen_ok, run_sizeT hs, hnn, if_false, hl]
    by_cases q : len * s = 0
    · have hz0 : zc = #[] := if_pos q
      rw [hz0] at g1
      rw [if_pos q]
      simp only [Sem.run_bind, Sem.run_pure, Result.andThen_ok]
      rw [g1]
      rfl
    · have hz0 : zc = zv.cells := if_neg q
      rw [hz0] at g1
      rw [if_neg q]
      simp only [Sem.run_bind, Sem.run_pure, Result.andThen_ok, hzr]
      rw [g1]
      rfl
theorem nMake_some {ρ : Env} {id size bytes : Nat} {zero : List Value} {l c : AO} {v : Value} {k : Blk} (h : nMake size bytes zero l c ρ id = .ok v k) :
    ∃ l' c', natOf (val ρ l) = some l' ∧ natOf (val ρ c) = some c' ∧ l' ≤ c' ∧ c' * bytes ≤ 140737488355328 ∧ c' < FZ ∧ v = .slice (some ⟨id, 0, none⟩) l' c' ∧ k = .cells true (c' * size) zero .nil := by
  have h' : (@Option.rec Nat (fun _ => VB) .fail (fun l' => @Option.rec Nat (fun _ => VB) .fail (fun c' =>
    @Bool.rec (fun _ => VB) .fail (.ok (.slice (some ⟨id, 0, none⟩) l' c') (.cells true (c' * size) zero .nil)) (band (Nat.ble l' c') (band (Nat.ble (c' * bytes) 140737488355328) (Nat.blt c' FZ)))) (natOf (val ρ c))) (natOf (val ρ l))) = VB.ok v k := h
  cases h1 : natOf (val ρ l) with
  | none => rw [h1] at h'; cases h'
  | some l' =>
    rw [h1] at h'
    cases h2 : natOf (val ρ c) with
    | none => rw [h2] at h'; cases h'
    | some c' =>
      rw [h2] at h'
      have h'' : (@Bool.rec (fun _ => VB) .fail (.ok (.slice (some ⟨id, 0, none⟩) l' c') (.cells true (c' * size) zero .nil)) (band (Nat.ble l' c') (band (Nat.ble (c' * bytes) 140737488355328) (Nat.blt c' FZ)))) = VB.ok v k := h'
      rw [band_eq, band_eq, ble_eq, ble_eq, blt_eq] at h''
      cases hb : (decide (l' ≤ c') && (decide (c' * bytes ≤ 140737488355328) && decide (c' < FZ))) with
      | false => rw [hb] at h''; cases h''
      | true =>
        rw [hb] at h''
        cases h''
        simp only [Bool.and_eq_true, decide_eq_true_eq] at hb
        exact ⟨l', c', rfl, rfl, hb.1, hb.2.1, hb.2.2, rfl, rfl⟩
theorem wrap_nat {n : Nat} (h : n < FZ) : IntKind.i64.wrap (n : Int) = n := by
  unfold FZ at h
  have := i64w_eq (n : Int)
  rw [← this]
  show (@Bool.rec (fun _ => Int) _ (Int.ofNat n) (Nat.blt n 9223372036854775808)) = _
  rw [blt_eq, decide_eq_true (by omega)]
  rfl
theorem ns_make {t e' : TypeId} {s b : Nat} {z : List Value} {l c : Operand} {l' c' : AO} (ht : P.underlying t = some (.slice e')) (hs : sizeT P e' = some s) (hb : bytesT P e' = some b) (hz : zeroT P e' = some z) (ho : o.op = .makeSlice t l c) (hl : cO l = some l') (hc : cO c = some c') :
    NS P o (nMake s b z l' c') := fun ι ρ a w id v k e hid h => by
  obtain ⟨n, m, h1, h2, h3, h4, h5, rfl, rfl⟩ := nMake_some h
  obtain ⟨k1, q1⟩ := nat_ok (e.val hl (by simp [ho, Op.operands])) h1
  obtain ⟨k2, q2⟩ := nat_ok (e.val hc (by simp [ho, Op.operands])) h2
  obtain ⟨i, zv, hi, hv, hzc, hg, hzl, hza⟩ := zeroT_some hz
  obtain ⟨i', hi', hsz⟩ := sizeT_some hs
  rw [hi] at hi'
  cases hi'
  have hbi : i.bytes = b := by
    simp only [bytesT, Option.bind_eq_bind, Option.bind_eq_some_iff, Option.pure_def, Option.some.injEq] at hb
    obtain ⟨i2, e2, rfl⟩ := hb
    rw [hi] at e2; cases e2; rfl
  have hzr : (zeroValue e').run P w = .ok zv w := by simp [zeroValue, typeInfo, hi, hv]
  let zc : Array Value := if m * s = 0 then #[] else zv.cells
  have hrow : RowR ι (m * s) z .nil ((Array.range (m * s)).map (fun i => zc[i % zc.size]!)).toList := by
    by_cases q : m * s = 0
    · intro i v hv; have := (get_pat hv).1; omega
    · have : zc = zv.cells := if_neg q
      rw [this]
      refine rep_row (by rw [hzc]; exact .ground z hg) hza _ fun _ => ?_
      rw [hzl, hsz]
      exact Nat.pos_of_ne_zero fun q' => q (by rw [q']; exact Nat.mul_zero _)
  refine ⟨.slice (some ⟨w.heap.size, 0, none⟩) n m, { w with heap := w.heap.push (.cells ((Array.range (m * s)).map (fun i => zc[i % zc.size]!)) e') }, _, vr_newS _ _ _ _ _ _ _ (by unfold CapR; rw [if_pos h5]) (by rw [capLow_eq, Nat.mod_eq_of_lt h5]; exact h3) (by omega), ?_, made_rowR hrow (by simp) rfl (.inl rfl) rfl rfl rfl⟩
  have w1 : IntKind.i64.wrap (Int.ofNat n) = n := wrap_nat (by omega)
  have w2 : IntKind.i64.wrap (Int.ofNat m) = m := wrap_nat h5
  have hti : (typeInfo e').run P w = .ok i w := by simp [typeInfo, hi]
  have hbm : ¬ ((b : Int) * (m : Int) > 2 ^ 48) := by
    have e1 : (2 : Int) ^ 48 = 281474976710656 := by decide
    have e2 : (b : Int) * (m : Int) = ((m * b : Nat) : Int) := by rw [Nat.mul_comm]; simp
    rw [e1, e2]
    omega
  have hcond : ((decide ((m : Int) < 0) || decide ((b : Int) * (m : Int) > 2 ^ 48)) || decide ((n : Int) < 0) || decide ((n : Int) > (m : Int))) = false := by
    rw [decide_eq_false (by omega), decide_eq_false hbm, decide_eq_false (by omega), decide_eq_false (by omega)]; rfl
  have hn1 : ((m : Int)).toNat = m := by simp
  simp only [execOp, ho, q1, q2, Instr.makeSlice, Sem.run_bind, run_underlying ht, Result.andThen_ok, asInt, asIntOf, Sem.run_pure, hti, hbi, w1, w2, hcond, Bool.false_eq_true, if_false, run_askRoom, run_sizeT hs, hn1]
  by_cases q : m * s = 0
  · have hz0 : zc = #[] := if_pos q
    rw [if_pos q, hz0]
    rfl
  · have hz0 : zc = zv.cells := if_neg q
    rw [if_neg q, hz0]
    simp only [Sem.run_bind, Sem.run_pure, Result.andThen_ok, hzr]
    rfl
end
end Go.Proofs.Ytndfelbgppbncaa.Ev
