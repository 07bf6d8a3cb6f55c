/- The evaluator's soundness: wholes out of parts; what reads; what makes a block. -/
import Derived.Test.YtndfelbgppbncaaEvPure3
import Derived.Laws.BytesString
set_option linter.unusedVariables false
namespace Go.Proofs.Ytndfelbgppbncaa.Ev
section
variable {P : Program} {o : Oper}
/-! ### wholes -/
theorem cParts_cons {f : Nat → Option (Nat × Nat)} {i : Nat} {x : Operand} {l : List (Nat × Operand)} {ps : Parts} (h : cParts f ((i, x) :: l) = some ps) :
    ∃ off size y rest, f i = some (off, size) ∧ cO x = some y ∧ cParts f l = some rest ∧ ps = .cons off size y rest := by
  simp only [cParts, Option.bind_eq_bind, Option.bind_eq_some_iff, Option.pure_def, Option.some.injEq] at h
  obtain ⟨⟨off, size⟩, h1, y, h2, rest, h3, rfl⟩ := h
  exact ⟨off, size, y, rest, h1, h2, h3, rfl⟩
theorem fold_fill : ∀ (l : List Value) (k off : Nat) (cs : Array Value), ((l.zipIdx k).foldl (fun cs (c, j) => cs.setIfInBounds (off + j) c) cs).toList = fillL l (off + k) cs.toList := by
  intro l
  induction l with
  | nil => intro k off cs; rfl
  | cons v l ih =>
    intro k off cs
    rw [List.zipIdx_cons, List.foldl_cons, ih, fillL_cons]
    simp [Nat.add_assoc]
theorem fill_toList (v : Value) (off : Nat) (cs : Array Value) : (v.cells.zipIdx.foldl (fun cs (c, j) => cs.setIfInBounds (off + j) c) cs).toList = fillL v.cells.toList off cs.toList := by
  rw [← Array.foldl_toList, Array.toList_zipIdx, fold_fill]
  rfl
theorem VRL.fill {ι : Inj} : ∀ {l l' : List Value} {n : Nat} {cs cs' : List Value}, VRL ι l l' → VRL ι cs cs' → VRL ι (fillL l n cs) (fillL l' n cs')
  | _, _, _, _, _, .nil, h => h
  | _, _, n, _, _, .cons e r, h => by rw [fillL_cons, fillL_cons]; exact VRL.fill r (h.set n e)
theorem all_set {l : List Value} {v : Value} (n : Nat) (hv : isCell v = true) (h : l.all isCell = true) : (l.set n v).all isCell = true :=
  List.all_eq_true.2 fun x hx => by
    rcases List.mem_or_eq_of_mem_set hx with h1 | rfl
    · exact List.all_eq_true.1 h x h1
    · exact hv
theorem all_fill : ∀ {l : List Value} {n : Nat} {cs : List Value}, l.all isCell = true → cs.all isCell = true → (fillL l n cs).all isCell = true
  | [], _, _, _, h => h
  | v :: l, n, cs, hl, h => by
    simp only [List.all_cons, Bool.and_eq_true] at hl
    rw [fillL_cons]; exact all_fill hl.2 (all_set n hl.1 h)
theorem length_fillL : ∀ (l : List Value) (n : Nat) (cs : List Value), (fillL l n cs).length = cs.length
  | [], _, _ => rfl
  | v :: l, n, cs => by rw [fillL_cons, length_fillL]; simp
theorem evBuild_nil (ρ : Env) (cs : List Value) : evBuild ρ .nil cs = some cs := rfl
theorem evBuild_cons {ρ : Env} {off size : Nat} {x : AO} {rest : Parts} {cs r : List Value} (h : evBuild ρ (.cons off size x rest) cs = some r) :
    ∃ l, scells (val ρ x) = some l ∧ l.length = size ∧ off + size ≤ cs.length ∧ evBuild ρ rest (fillL l off cs) = some r := by
  have h' : (@Option.rec (List Value) (fun _ => Option (List Value)) none (fun l => @Bool.rec (fun _ => Option (List Value)) none (@Bool.rec (fun _ => Option (List Value)) none (evBuild ρ rest (fillL l off cs)) (Nat.ble (off + size) (len cs))) (Nat.beq (len l) size)) (scells (val ρ x))) = some r := h
  obtain ⟨l, h1, h2⟩ := optN_some h'
  rw [len_eq, len_eq, beq_eq, ble_eq] at h2
  by_cases q1 : l.length = size
  · rw [decide_eq_true q1] at h2
    by_cases q2 : off + size ≤ cs.length
    · rw [decide_eq_true q2] at h2
      exact ⟨l, h1, q1, q2, h2⟩
    · rw [decide_eq_false q2] at h2; cases h2
  · rw [decide_eq_false q1] at h2; cases h2
theorem fill_ok {ι : Inj} {ρ : Env} {a : Act} {f : Nat → Option (Nat × Nat)} {place : Nat → Option (Nat × Nat)} (hp : ∀ i x, f i = some x → place i = some x) :
    ∀ {parts : List (Nat × Operand)} {ps : Parts} {cs r : List Value} {cs' : Array Value}, (∀ p ∈ parts, ∀ y, cO p.2 = some y → VR ι (val ρ y) (a.eval p.2)) → cParts f parts = some ps → VRL ι cs cs'.toList → cs.all isCell = true → evBuild ρ ps cs = some r →
      ∃ r' : Array Value, Instr.fill place cs' (parts.map fun (i, x) => (i, a.eval x)) = some r' ∧ VRL ι r r'.toList ∧ r.all isCell = true
  | [], ps, cs, r, cs', e, hps, hc, ha, hr => by
    have : ps = .nil := (Option.some.inj hps).symm
    subst this
    have hr' : some cs = some r := hr
    cases hr'
    exact ⟨cs', rfl, hc, ha⟩
  | (i, x) :: l, ps, cs, r, cs', e, hps, hc, ha, hr => by
    obtain ⟨off, size, y, rest, h1, h2, h3, rfl⟩ := cParts_cons hps
    obtain ⟨vs, q1, q2, q3, q4⟩ := evBuild_cons hr
    obtain ⟨v1, v2⟩ := (e (i, x) (by simp) y h2).scells q1
    have hlen : (a.eval x).cells.size = size := by
      have := v1.length
      rw [q2] at this
      exact this.symm
    have hcl := hc.length
    have hc' : cs.length = cs'.size := hcl
    obtain ⟨r', g1, g2, g3⟩ := fill_ok hp (fun p hp' => e p (by simp [hp'])) (cs := fillL vs off cs) (cs' := (a.eval x).cells.zipIdx.foldl (fun cs (c, j) => cs.setIfInBounds (off + j) c) cs') h3 (by rw [fill_toList]; exact v1.fill hc) (all_fill v2 ha) q4
    refine ⟨r', ?_, g2, g3⟩
    rw [List.map_cons]
    unfold Instr.fill
    simp only [hp i _ h1]
    rw [if_neg (by simp [hlen]; omega)]
    exact g1
theorem zeroT_some {t : TypeId} {z : List Value} (h : zeroT P t = some z) : ∃ (i : TypeInfo) (v : Value), P.info? t = some i ∧ i.zero = some v ∧ v.cells.toList = z ∧ groundL z = true ∧ z.length = i.size ∧ z.all isCell = true := by
  simp only [zeroT, Option.bind_eq_bind, Option.bind_eq_some_iff, Option.pure_def, Option.some.injEq] at h
  obtain ⟨i, hi, v, hv, l, hl, u, hg, rfl⟩ := h
  have hg' : (groundL l && l.length == i.size && l.all isCell) = true := by
    by_cases q : (groundL l && l.length == i.size && l.all isCell) = true
    · exact q
    · simp [guard, q] at hg
  simp only [Bool.and_eq_true, beq_iff_eq] at hg'
  refine ⟨i, v, hi, hv, ?_, hg'.1.1, hg'.1.2, hg'.2⟩
  rcases scells_some hl with ⟨xs, rfl, rfl⟩ | ⟨hc, rfl⟩
  · rfl
  · cases v <;> first | rfl | cases hc
theorem run_zeroT {t : TypeId} {z : List Value} (h : zeroT P t = some z) (w : World) : ∃ v : Value, (zeroValue t).run P w = .ok v w ∧ v.cells.toList = z := by
  obtain ⟨i, v, hi, hv, hz, _⟩ := zeroT_some h
  exact ⟨v, by simp [zeroValue, typeInfo, hi, hv], hz⟩
theorem run_places (w : World) : ∀ (fields : List Field), (∀ f ∈ fields, (P.info? f.type).isSome = true) →
    (fields.mapM fun (f : Field) => (do pure (f.offset, ← sizeOf f.type) : Sem (Nat × Nat))).run P w = .ok (fields.map fun (f : Field) => (f.offset, P.cellsOf f.type)) w
  | [], _ => rfl
  | f :: l, h => by
    have hf := h f (by simp)
    obtain ⟨i, hi⟩ := Option.isSome_iff_exists.1 hf
    have ih := run_places w l fun g hg => h g (by simp [hg])
    rw [List.mapM_cons]
    simp only [Sem.run_bind, sizeOf, typeInfo, run_program, Result.andThen_ok, hi, Sem.run_pure, List.map_cons, Program.cellsOf] at ih ⊢
    rw [ih]
    simp
theorem cellsOf_sizeT {t : TypeId} {n : Nat} (h : sizeT P t = some n) : P.cellsOf t = n := by
  obtain ⟨i, hi, rfl⟩ := sizeT_some h
  simp [Program.cellsOf, hi]
theorem pBuild_some {ρ : Env} {z : List Value} {ps : Parts} {v : Value} (h : pBuild z ps ρ = some v) : ∃ r, evBuild ρ ps z = some r ∧ v = .agg ⟨r⟩ := by
  obtain ⟨r, h1, h2⟩ := opt_some h
  exact ⟨r, h1, (Option.some.inj h2).symm⟩
theorem ps_buildS {t : TypeId} {fields : Array Field} {parts : Array (Nat × Operand)} {z : List Value} {ps : Parts} (ht : P.underlying t = some (.struct fields)) (hall : fields.all (fun f => (P.info? f.type).isSome) = true)
    (hps : cParts (fieldAt P fields) parts.toList = some ps) (hz : zeroT P t = some z) (ho : o.op = .build t parts) : PS P o (pBuild z ps) := fun ι ρ a v e h => by
  obtain ⟨r, hr, rfl⟩ := pBuild_some h
  obtain ⟨i, zv, hi, hv, hzc, hg, hzl, hza⟩ := zeroT_some hz
  have hplace : ∀ i x, fieldAt P fields i = some x → (fields.map fun (f : Field) => (f.offset, P.cellsOf f.type))[i]? = some x := fun i x hx => by
    simp only [fieldAt, Option.bind_eq_bind, Option.bind_eq_some_iff, Option.pure_def, Option.some.injEq] at hx
    obtain ⟨f, hf, n, hn, rfl⟩ := hx
    rw [Array.getElem?_map, hf, Option.map_some, cellsOf_sizeT hn]
  obtain ⟨r', g1, g2, g3⟩ := fill_ok hplace (fun p hp y hy => e.val hy (by simp only [ho, Op.operands]; simp; exact ⟨p.1, Array.mem_toList_iff.1 hp⟩)) (cs' := zv.cells) hps (by rw [hzc]; exact .ground z hg) hza hr
  refine ⟨.agg r', ?_, fun w => ?_⟩
  · cases r' with
    | mk l => exact .agg g2 g3
  · have hp := run_places (P := P) w fields.toList fun f hf => by
      have := Array.all_eq_true_iff_forall_mem.1 hall f (Array.mem_toList_iff.1 hf)
      exact this
    have hp' : (fields.mapM fun (f : Field) => (do pure (f.offset, ← sizeOf f.type) : Sem (Nat × Nat))).run P w = .ok (fields.map fun (f : Field) => (f.offset, P.cellsOf f.type)) w := by
      rw [Array.mapM_eq_mapM_toList, Sem.run_map, hp]
      simp only [Result.andThen_ok]
      congr 1
      apply Array.ext'
      simp
    have hl : (parts.map fun (i, x) => (i, a.eval x)).toList = parts.toList.map fun (i, x) => (i, a.eval x) := by simp
    have hzr : (zeroValue t).run P w = .ok zv w := by simp [zeroValue, typeInfo, hi, hv]
    simp only [execOp, ho, Instr.build, Sem.run_bind, hzr, Result.andThen_ok, Sem.run_pure, run_underlying ht, hp', hl, g1]
theorem ps_buildA {t e' : TypeId} {len s : Nat} {parts : Array (Nat × Operand)} {z : List Value} {ps : Parts} (ht : P.underlying t = some (.array len e')) (hs : sizeT P e' = some s)
    (hps : cParts (fun i => some (Nat.mul i s, s)) parts.toList = some ps) (hz : zeroT P t = some z) (ho : o.op = .build t parts) : PS P o (pBuild z ps) := fun ι ρ a v e h => by
  obtain ⟨r, hr, rfl⟩ := pBuild_some h
  obtain ⟨i, zv, hi, hv, hzc, hg, hzl, hza⟩ := zeroT_some hz
  obtain ⟨r', g1, g2, g3⟩ := fill_ok (place := fun i => some (i * s, s)) (fun i x hx => hx) (fun p hp y hy => e.val hy (by simp only [ho, Op.operands]; simp; exact ⟨p.1, Array.mem_toList_iff.1 hp⟩)) (cs' := zv.cells) hps (by rw [hzc]; exact .ground z hg) hza hr
  refine ⟨.agg r', ?_, fun w => ?_⟩
  · cases r' with
    | mk l => exact .agg g2 g3
  · have hl : (parts.map fun (i, x) => (i, a.eval x)).toList = parts.toList.map fun (i, x) => (i, a.eval x) := by simp
    have hzr : (zeroValue t).run P w = .ok zv w := by simp [zeroValue, typeInfo, hi, hv]
    simp only [execOp, ho, Instr.build, Sem.run_bind, hzr, Result.andThen_ok, Sem.run_pure, run_underlying ht, run_sizeT hs, hl, g1]

/-! ### what reads -/
/-- 'f' answers what the operation does, at memory that the heap tells; it may turn what nothing tells. -/
def LS (P : Program) (o : Oper) (f : Heap → Env → Option Value) : Prop :=
  ∀ (base : Nat) (ι : Inj) (h : Heap) (w : World) (ρ : Env) (a : Act) (v : Value), Rel base ι h w → OpdR ι ρ a o → f h ρ = some v →
    ∃ v' w', VR ι v v' ∧ (execOp a.eval o).run P w = .ok (.value v') w' ∧ Rel base ι h w' ∧ Ext ι h w ι h w'
theorem lLoad_at {base : Nat} {ι : Inj} {h : Heap} {w : World} {x v q : Value} (r : Rel base ι h w) (hl : vPtr (fun a => h.cell a) x = some v) (ex : VR ι x q) :
    isCell v = true ∧ ∃ A v', q = .pointer (some A) ∧ w.cell? A = some v' ∧ VR ι v v' := by
  obtain ⟨ad, rfl, hv⟩ := vPtr_some hl
  cases ex with
  | ptr eb =>
    obtain ⟨h1, v', h2, h3⟩ := r.cell eb hv
    exact ⟨h1, _, v', rfl, h2, h3⟩
theorem ls_load {t : TypeId} {x : Operand} {x' : AO} (ht : isAggT P t = some false) (ho : o.op = .load t x) (hx : cO x = some x') : LS P o (lLoad x') := fun base ι h w ρ a v r e hv => by
  obtain ⟨_, A, v', hq, h2, h3⟩ := lLoad_at r hv (e.val hx (by simp [ho, Op.operands]))
  exact ⟨v', w, h3, by simp [execOp, ho, hq, Instr.loadAt, Instr.sureAddr, loadVar, isAggT_false ht, h2], r, .refl _ _ _⟩
theorem lLoads_at {base : Nat} {ι : Inj} {h : Heap} {w : World} {n : Nat} {x v q : Value} (r : Rel base ι h w) (hl : vPtr (fun a => Option.rec none (fun l => some (.agg ⟨l⟩)) (loadN h a n)) x = some v) (ex : VR ι x q) :
    ∃ A l l', q = .pointer (some A) ∧ v = .agg ⟨l⟩ ∧ VRL ι l l' ∧ l.all isCell = true ∧ l'.length = n ∧ ∀ m u, l'[m]? = some u → w.cell? (A.add m) = some u := by
  obtain ⟨ad, rfl, hv⟩ := vPtr_some hl
  obtain ⟨l, h1, h2⟩ := opt_some hv
  cases ex with
  | ptr eb =>
    obtain ⟨g1, g2, l', g3, g4⟩ := r.loadN eb (.inl rfl) h1
    exact ⟨_, l, l', rfl, (Option.some.inj h2).symm, g3, g2, g3.length ▸ g1, g4⟩
theorem run_loadN {w : World} {A : Addr} {n : Nat} {l' : List Value} (hn : l'.length = n) (h : ∀ m u, l'[m]? = some u → w.cell? (A.add m) = some u) : (loadCells A n).run P w = .ok l'.toArray w := by
  rw [← hn]; exact run_loadCells_list w A l' h
theorem ls_loads {t : TypeId} {n : Nat} {x : Operand} {x' : AO} (ht : isAggT P t = some true) (hn : sizeT P t = some n) (ho : o.op = .load t x) (hx : cO x = some x') : LS P o (lLoads n x') := fun base ι h w ρ a v r e hv => by
  obtain ⟨A, l, l', hq, rfl, g1, g2, g3, g4⟩ := lLoads_at r hv (e.val hx (by simp [ho, Op.operands]))
  exact ⟨.agg ⟨l'⟩, w, .agg g1 g2, by simp [execOp, ho, hq, Instr.loadAt, Instr.sureAddr, loadVar, isAggT_true ht, run_sizeT hn, run_loadN (P := P) g3 g4], r, .refl _ _ _⟩
theorem bytesOf_cons {v : Value} {l : List Value} {bs : List UInt8} (h : bytesOf (v :: l) = some bs) : ∃ b r, byteOf v = some b ∧ bytesOf l = some r ∧ bs = b :: r := by
  have h' : (@Option.rec UInt8 (fun _ => Option (List UInt8)) none (fun b => @Option.rec (List UInt8) (fun _ => Option (List UInt8)) none (fun r => some (b :: r)) (bytesOf l)) (byteOf v)) = some bs := h
  obtain ⟨b, h1, h2⟩ := optN_some h'
  obtain ⟨r, h3, h4⟩ := optN_some h2
  exact ⟨b, r, h1, h3, (Option.some.inj h4).symm⟩
theorem byteOf_some {v : Value} {b : UInt8} (h : byteOf v = some b) : ∃ n : Nat, v = .int .u8 (Int.ofNat n) ∧ b = UInt8.ofNat n := by
  cases v with
  | int k n =>
    have h' : (@Bool.rec (fun _ => Option UInt8) none (@Int.rec (fun _ => Option UInt8) (fun m => some (UInt8.ofNat m)) (fun _ => none) n) (isU8 k)) = some b := h
    cases k <;> first | cases h' | skip
    cases n with
    | ofNat m => exact ⟨m, rfl, (Option.some.inj h').symm⟩
    | negSucc m => cases h'
  | _ => cases h
theorem bytes_ints {ι : Inj} : ∀ {l l' : List Value} {bs : List UInt8}, bytesOf l = some bs → VRL ι l l' → ∃ ns : List Nat, l' = ns.map (fun n => Value.int .u8 (Int.ofNat n)) ∧ bs = ns.map UInt8.ofNat
  | [], _, bs, h, .nil => by cases h; exact ⟨[], rfl, rfl⟩
  | v :: l, _, bs, h, .cons e r => by
    obtain ⟨b, rr, h1, h2, rfl⟩ := bytesOf_cons h
    obtain ⟨n, rfl, rfl⟩ := byteOf_some h1
    cases e
    obtain ⟨ns, rfl, rfl⟩ := bytes_ints h2 r
    exact ⟨n :: ns, rfl, rfl⟩
theorem push_bytes : ∀ (ns : List Int) (l : List UInt8), ns.foldl (fun r n => r.push (UInt8.ofNat n.toNat)) (⟨⟨l⟩⟩ : ByteArray) = ⟨⟨l ++ ns.map fun n => UInt8.ofNat n.toNat⟩⟩
  | [], l => by simp
  | n :: ns, l => by
    rw [List.foldl_cons]
    have : (⟨⟨l⟩⟩ : ByteArray).push (UInt8.ofNat n.toNat) = ⟨⟨l ++ [UInt8.ofNat n.toNat]⟩⟩ := by
      apply ByteArray.ext
      simp [ByteArray.push]
    rw [this, push_bytes ns]
    simp
theorem ls_b2s {s d e' : TypeId} {x : Operand} {x' : AO} (hs : P.underlying s = some (.slice e')) (hd : P.underlying d = some .string) (he : P.underlying e' = some (.int .u8)) (ho : o.op = .convert s d x) (hx : cO x = some x') : LS P o (lB2s x') := fun base ι h w ρ a v r e hv => by
  obtain ⟨ad, n, c, hb, hv⟩ := vSlc_some hv
  have ex := e.val hx (by simp [ho, Op.operands])
  rw [hb] at ex
  generalize hq : a.eval x = q at ex
  have hconv : ∀ q', (convert s d q').run P w = (match q' with | .slice _ _ _ => (Conv.bytesToString q').run P w | _ => (convert s d q').run P w) := fun q' => by
    cases q' <;> simp [convert, run_underlying hs, run_underlying hd, run_underlying he]
  cases ex with
  | slcN =>
    have hv' : some (Value.string ⟨⟨[]⟩⟩) = some v := hv
    cases hv'
    exact ⟨_, w, .string _, by simp only [execOp, ho, hq, Sem.run_bind]; rw [hconv]; rfl, r, .refl _ _ _⟩
  | @slc b B o0 S i j _ _ c' eb hc hl hj hS =>
    obtain ⟨l, h1, hv⟩ := opt_some hv
    obtain ⟨bs, h2, hv⟩ := opt_some hv
    cases hv
    obtain ⟨g1, g2, l', g3, g4⟩ := r.loadN eb (by rcases hj with q | q; exact .inl q; exact .inr q.1) h1
    obtain ⟨ns, rfl, rfl⟩ := bytes_ints h2 g3
    have hlen : (ns.map (fun n => Value.int .u8 (Int.ofNat n))).length = n := g3.length ▸ g1
    have hld := run_loadN (P := P) hlen g4
    have hm : (ns.map (fun n => Value.int .u8 (Int.ofNat n))) = ((ns.map Int.ofNat).map (Value.int .u8)) := by simp
    rw [hm] at hld
    have hrun := run_bytesToString w ⟨B, j, none⟩ n c' _ hld
    have he : (ByteArray.empty : ByteArray) = ⟨⟨[]⟩⟩ := rfl
    rw [he, push_bytes] at hrun
    have hfin : ([] ++ (ns.map Int.ofNat).map fun n => UInt8.ofNat n.toNat) = ns.map UInt8.ofNat := by simp
    rw [hfin] at hrun
    exact ⟨_, w, .string _, by simp only [execOp, ho, hq, Sem.run_bind]; rw [hconv]; simp only [hrun, Result.andThen_ok, Sem.run_pure], r, .refl _ _ _⟩
theorem ownB_blk {k : Option Blk} (h : ownB k = true) : ∃ n pat tr, k = some (.cells true n pat tr) := ownB_ex h
theorem freeze_eq (w : World) {B : Nat} {c : Array Value} {e : TypeId} {fr : Nat × Nat} (hB : w.heap[B]? = some (.cells c e fr)) :
    ∃ fr', (w.freeze ⟨B, c.size, none⟩ 1).heap[B]? = some (.cells c e fr') ∧ (FrOK fr c.size → FrOK fr' c.size) ∧ (∀ B', B' ≠ B → (w.freeze ⟨B, c.size, none⟩ 1).heap[B']? = w.heap[B']?) ∧ (w.freeze ⟨B, c.size, none⟩ 1).heap.size = w.heap.size := by
  obtain ⟨lo, hi⟩ := fr
  have hlt : B < w.heap.size := (Array.getElem?_eq_some_iff.1 hB).1
  have hg : w.heap[B] = .cells c e (lo, hi) := (Array.getElem?_eq_some_iff.1 hB).2
  refine ⟨if lo == hi then (c.size, c.size + 1) else (min lo c.size, max hi (c.size + 1)), ?_, fun hf => ?_, fun B' hne => ?_, by simp [World.freeze]⟩
  · unfold World.freeze
    rw [if_neg (by decide)]
    dsimp only
    rw [Array.getElem?_eq_getElem (by simpa using hlt), Array.getElem_modify_self, hg]
  · unfold FrOK at *
    simp only at hf
    by_cases q : lo = hi
    · subst q; simp
    · rw [if_neg (by simpa using q)]
      simp only
      omega
  · simp [World.freeze, Array.getElem?_modify, Ne.symm hne]
theorem Rel.frozen {base : Nat} {ι : Inj} {h : Heap} {w w' : World} (r : Rel base ι h w) {b B o0 S : Nat} (eb : ι b = some (B, o0, S)) (hown : ownB (h.blk b) = true)
    (hB : ∀ c e fr, w.heap[B]? = some (.cells c e fr) → ∃ fr', w'.heap[B]? = some (.cells c e fr') ∧ (FrOK fr c.size → FrOK fr' c.size)) (ho : ∀ B', B' ≠ B → w'.heap[B']? = w.heap[B']?) (hs : w'.heap.size = w.heap.size)
    (h1 : w'.os = w.os) (h2 : w'.tape = w.tape) (h3 : w'.output = w.output) : Rel base ι h w' ∧ Ext ι h w ι h w' := by
  refine ⟨⟨r.fresh, by rw [hs]; exact r.low, fun b' B' o' S' own n pat tr e' hk => ?_, r.apart⟩, ⟨Inj.le_refl ι, fun _ _ e => ⟨e, rfl⟩, fun _ _ e => e, Nat.le_refl _, Nat.le_of_eq hs.symm, fun B' hB' hn => ?_, fun _ _ e => e, h1, h2, h3⟩⟩
  · obtain ⟨c, e, fr, g1, g2, g3, g4, g5⟩ := r.blk b' B' o' S' own n pat tr e' hk
    by_cases q : B' = B
    · subst q
      obtain ⟨fr', q1, q2⟩ := hB c e fr g1
      exact ⟨c, e, fr', q1, g2, g3, fun ho => ⟨(g4 ho).1, q2 (g4 ho).2⟩, g5⟩
    · exact ⟨c, e, fr, (ho B' q).trans g1, g2, g3, g4, g5⟩
  · exact ho B' fun q => hn ⟨b, _, by rw [q]; exact eb, hown⟩
theorem run_markStringish {w : World} {B j : Nat} {c : Array Value} {e : TypeId} {fr : Nat × Nat} (hB : w.heap[B]? = some (.cells c e fr)) :
    (markStringish ⟨B, j, none⟩).run P w = .ok () (w.freeze ⟨B, c.size, none⟩ 1) := by
  have : w.shape? B = some (e, c.size) := by simp [World.shape?, hB]
  simp [markStringish, this]
theorem ls_mark {s e' : TypeId} {x : Operand} {x' : AO} (hs : P.underlying s = some (.slice e')) (he : P.underlying e' = some (.int .u8)) (ho : o.op = .convert s s x) (hx : cO x = some x') : LS P o (lMark x') := fun base ι h w ρ a v r e hv => by
  obtain ⟨ad, n, c, hb, hv⟩ := vSlc_some hv
  obtain ⟨ad, rfl, hv⟩ := opt_some hv
  obtain ⟨hown, hv⟩ := if_some hv
  have ex := e.val hx (by simp [ho, Op.operands])
  rw [hb] at ex
  generalize hq : a.eval x = q at ex
  cases hv
  have ex' := ex
  cases ex with
  | @slc b B o0 S i j _ _ c' eb hc hl hj hS =>
    obtain ⟨nn, pat, tr, hk⟩ := ownB_ex hown
    obtain ⟨cc, t, fr, hB, _⟩ := r.blk b B o0 S true nn pat tr eb hk
    obtain ⟨fr', f1, f2, f3, f4⟩ := freeze_eq w hB
    have hfz : (w.freeze ⟨B, cc.size, none⟩ 1).os = w.os ∧ (w.freeze ⟨B, cc.size, none⟩ 1).tape = w.tape ∧ (w.freeze ⟨B, cc.size, none⟩ 1).output = w.output := by
      unfold World.freeze; rw [if_neg (by decide)]; exact ⟨rfl, rfl, rfl⟩
    obtain ⟨r', x'⟩ := r.frozen eb hown (fun c1 e1 fr1 h1 => by
      rw [hB] at h1
      obtain ⟨rfl, rfl, rfl⟩ : cc = c1 ∧ t = e1 ∧ fr = fr1 := by simpa using h1
      exact ⟨fr', f1, f2⟩) f3 f4 hfz.1 hfz.2.1 hfz.2.2
    refine ⟨_, _, ex', ?_, r', x'⟩
    simp only [execOp, ho, hq, convert, Sem.run_bind, run_underlying hs, Result.andThen_ok, beq_self_eq_true, run_underlying he, run_markStringish hB, Sem.run_pure]

/-! ### what makes a block -/
/-- 'f' tells the block that the operation makes. -/
def NS (P : Program) (o : Oper) (f : Env → Nat → VB) : Prop :=
  ∀ (ι : Inj) (ρ : Env) (a : Act) (w : World) (id : Nat) (v : Value) (k : Blk), OpdR ι ρ a o → ι id = none → f ρ id = .ok v k →
    ∃ v' w' S, VR (ι.up id (w.heap.size, 0, S)) v v' ∧ (execOp a.eval o).run P w = .ok (.value v') w' ∧ Made ι w w' k S
theorem get_pat {n : Nat} {pat : List Value} {i : Nat} {v : Value} (h : (Blk.cells true n pat .nil).get i = some v) : i < n ∧ pat[i % pat.length]? = some v := by
  have hlt := get_lt h
  rw [get_cells, cellAt_eq, if_pos hlt, get_nil] at h
  exact ⟨hlt, h⟩
theorem made_row {ι : Inj} {w : World} {e : TypeId} {cells : Array Value} {l : List Value} (hl : VRL ι l cells.toList) (hc : l.all isCell = true) : Made ι w { w with heap := w.heap.push (.cells cells e) } (.cells true l.length l .nil) cells.size := by
  refine ⟨⟨l.length, l, .nil, cells, e, (0, 0), rfl, rfl, ⟨rfl, by rw [hl.length]; simp⟩, fun i v hv => ?_, .inl rfl⟩, rfl, rfl, rfl⟩
  obtain ⟨hlt, hv⟩ := get_pat hv
  rw [Nat.mod_eq_of_lt hlt] at hv
  obtain ⟨v', h1, h2⟩ := hl.get _ _ hv
  exact ⟨List.all_eq_true.1 hc v (List.mem_of_getElem? hv), v', by simpa using h1, h2⟩
theorem vr_new (ι : Inj) (w : World) (id S : Nat) : VR (ι.up id (w.heap.size, 0, S)) (.pointer (some ⟨id, 0, none⟩)) (.pointer (some ⟨w.heap.size, 0, none⟩)) :=
  .ptr (B := w.heap.size) (o := 0) (S := S) (Inj.up_self _ _ _)
theorem ns_alloc {t : TypeId} {z : List Value} (hz : zeroT P t = some z) (ho : o.op = .alloc t) : NS P o (nAlloc z) := fun ι ρ a w id v k e hid h => by
  have h' : VB.ok (.pointer (some ⟨id, 0, none⟩)) (.cells true (len z) z .nil) = VB.ok v k := h
  cases h'
  obtain ⟨i, zv, hi, hv, hzc, hg, hzl, hza⟩ := zeroT_some hz
  refine ⟨_, _, _, vr_new ι w id _, ?_, by rw [len_eq]; exact made_row (e := t) (cells := zv.cells) (by rw [hzc]; exact .ground z hg) hza⟩
  simp [execOp, ho, Instr.alloc, zeroValue, typeInfo, hi, hv, newVar, newRow]
theorem nBox_some {ρ : Env} {id : Nat} {x : AO} {v : Value} {k : Blk} (h : nBox x ρ id = .ok v k) : ∃ l, scells (val ρ x) = some l ∧ v = .pointer (some ⟨id, 0, none⟩) ∧ k = .cells true l.length l .nil := by
  have h' : (@Option.rec (List Value) (fun _ => VB) .fail (fun l => .ok (.pointer (some ⟨id, 0, none⟩)) (.cells true (len l) l .nil)) (scells (val ρ x))) = VB.ok v k := h
  cases hs : scells (val ρ x) with
  | none => rw [hs] at h'; cases h'
  | some l => rw [hs] at h'; cases h'; exact ⟨l, rfl, rfl, by rw [len_eq]⟩
theorem ns_box {t : TypeId} {x : Operand} {x' : AO} (ho : o.op = .box t x) (hx : cO x = some x') : NS P o (nBox x') := fun ι ρ a w id v k e hid h => by
  obtain ⟨l, hl, rfl, rfl⟩ := nBox_some h
  obtain ⟨g1, g2⟩ := (e.val hx (by simp [ho, Op.operands])).scells hl
  exact ⟨_, _, _, vr_new ι w id _, by simp only [execOp, ho, Instr.box, newVar, newRow, Sem.run_bind, run_newObj, Result.andThen_ok, Sem.run_pure], made_row (e := t) g1 g2⟩
end
end Go.Proofs.Ytndfelbgppbncaa.Ev
