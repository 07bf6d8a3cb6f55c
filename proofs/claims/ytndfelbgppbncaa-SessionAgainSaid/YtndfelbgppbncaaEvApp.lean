/- The evaluator's soundness: append, clear, copy, a text's bytes. -/
import Derived.Test.YtndfelbgppbncaaEvEff
import Derived.Laws.AppendOwn
set_option linter.unusedVariables false
namespace Go.Proofs.Ytndfelbgppbncaa.Ev
section
variable {P : Program} {o : Oper}
theorem run_append_room' {w w' : World} {t xt ty e : TypeId} {i : TypeInfo} {d : TypeDesc} (ht : P.underlying t = some (.slice e)) (hx : P.underlying xt = some d) (hd : d = .string ∨ ∃ e2, d = .slice e2) (hi : P.info? e = some i)
    {A : Addr} {n c m : Nat} {q : Value} {new : List Value} (hlen : (Builtin.lenOf q).run P w = .ok m w) (hnew : (Builtin.firstCells i.size m q).run P w = .ok new.toArray w) (hroom : n + m ≤ c)
    (hst : (storeCells (A.add (n * i.size)) new).run P w = .ok () w') :
    (Builtin.append_ #[t, xt] ty #[.slice (some A) n c, q]).run P w = .ok (.slice (some A) (n + m) c) w' := by
  rcases hd with rfl | ⟨e2, rfl⟩ <;> simp [Builtin.append_, run_underlying ht, run_underlying hx, sizeOf, typeInfo, hi, hlen, hnew, hroom, hst]
theorem run_append_none' {w : World} {t xt ty e : TypeId} {i : TypeInfo} {d : TypeDesc} (ht : P.underlying t = some (.slice e)) (hx : P.underlying xt = some d) (hd : d = .string ∨ ∃ e2, d = .slice e2) (hi : P.info? e = some i)
    {q : Value} {new : List Value} (hlen : (Builtin.lenOf q).run P w = .ok 0 w) (hnew : (Builtin.firstCells i.size 0 q).run P w = .ok new.toArray w) :
    (Builtin.append_ #[t, xt] ty #[.slice none 0 0, q]).run P w = .ok (.slice none 0 0) w := by
  rcases hd with rfl | ⟨e2, rfl⟩ <;> simp [Builtin.append_, run_underlying ht, run_underlying hx, sizeOf, typeInfo, hi, hlen, hnew]
theorem run_append_grow' {w : World} {t xt ty e : TypeId} {i : TypeInfo} {z : Value} {d : TypeDesc} (ht : P.underlying t = some (.slice e)) (hx : P.underlying xt = some d) (hd : d = .string ∨ ∃ e2, d = .slice e2) (hi : P.info? e = some i) (hz : i.zero = some z)
    {base : Option Addr} {n c m : Nat} {q : Value} {old new : List Value} (hlen : (Builtin.lenOf q).run P w = .ok m w)
    (hold : ∀ w', (∀ A u, w.cell? A = some u → w'.cell? A = some u) → (Builtin.firstCells i.size n (.slice base n c)).run P w' = .ok old.toArray w')
    (hnew : ∀ w', (∀ A u, w.cell? A = some u → w'.cell? A = some u) → (Builtin.firstCells i.size m q).run P w' = .ok new.toArray w')
    (hg : c < n + m) (h1 : (n + m) * i.bytes ≤ 35184372088832) (h2 : n + m ≤ 35184372088832) :
    (Builtin.append_ #[t, xt] ty #[.slice base n c, q]).run P w =
      .ok (.slice (some ⟨w.heap.size, 0, none⟩) (n + m) (grownCap w (n + m) c e)) (w.drew.alloc (.cells (old.toArray ++ new.toArray ++ Builtin.zeroCells z.cells (grownCap w (n + m) c e - (n + m))) e)) := by
  have hfit : Builtin.nextslicecap (n + m) c * i.bytes ≤ 281474976710656 := growslice_fits hg (by omega)
  have h48 : ¬ (Builtin.nextslicecap (n + m) c * i.bytes > 2 ^ 48) := by
    have : (2 : Nat) ^ 48 = 281474976710656 := by decide
    omega
  have hng : ¬ (n + m ≤ c) := by omega
  have h63 : ¬ (((n + m : Nat) : Int) > IntKind.i64.max) := by
    have : IntKind.i64.max = 9223372036854775807 := by decide
    omega
  have ho := hold w.drew fun A u h => h
  have hn := hnew w.drew fun A u h => h
  have h63' : ¬ (9223372036854775807 < (n : Int) + (m : Int)) := by omega
  have hmx : IntKind.i64.max = 9223372036854775807 := by decide
  rcases hd with rfl | ⟨e2, rfl⟩ <;> simp [Builtin.append_, run_underlying ht, run_underlying hx, sizeOf, typeInfo, zeroValue, hi, hz, hlen, hng, hmx, h63', h48, Question.forced, ho, hn, newRow, grownCap] <;> (congr 2; apply Array.ext'; simp)
theorem grown_made {ι : Inj} {w : World} {e : TypeId} {pat : List Value} {tr : Tr Value} {N : Nat} {old new : List Value} (hN : N ≤ old.length + new.length)
    (hk : ∀ i v, (Blk.cells true N pat tr).get i = some v → isCell v = true ∧ ∃ v', (old ++ new)[i]? = some v' ∧ VR ι v v') (rest : Array Value) :
    Made ι w (w.drew.alloc (.cells (old.toArray ++ new.toArray ++ rest) e)) (.cells true N pat tr) (old.toArray ++ new.toArray ++ rest).size := by
  refine ⟨⟨N, pat, tr, _, e, (0, 0), rfl, rfl, ⟨rfl, by simp; omega⟩, fun i v hv => ?_, .inl rfl⟩, rfl, rfl, rfl⟩
  obtain ⟨h1, v', h2, h3⟩ := hk i v hv
  refine ⟨h1, v', ?_, h3⟩
  have hi : i < (old ++ new).length := (List.getElem?_eq_some_iff.1 h2).1
  rw [List.length_append] at hi
  rw [Array.getElem?_append_left (by simp; omega), ← h2]
  simp
theorem eAppend_some {size bytes : Nat} {s x : AO} {h h' : Heap} {ρ : Env} {v : Value} (e : eAppend size bytes s x h ρ = .ok v h') :
    ∃ base n c m new, val ρ s = .slice base n c ∧ srcCells h size (val ρ x) = .ok m new ∧
      ((n + m ≤ capLow c ∧ ((base = none ∧ v = .slice none (n + m) c ∧ h' = h) ∨ ∃ a, base = some a ∧ ((m = 0 ∧ v = .slice (some a) n c ∧ h' = h) ∨ (m ≠ 0 ∧ storeV h (addA a (n * size)) new (.slice (some a) (n + m) c) = .ok v h')))) ∨
       (capLow c < n + m ∧ (n + m) * bytes ≤ 35184372088832 ∧ n + m ≤ 35184372088832 ∧ evGrow h size base n c m new = .ok v h')) := by
  obtain ⟨base, n, c, h1, h2⟩ := vSlcH_some e
  cases hs : srcCells h size (val ρ x) with
  | fail => rw [hs] at h2; cases h2
  | ok m new =>
    rw [hs] at h2
    refine ⟨base, n, c, m, new, h1, rfl, ?_⟩
    have h3 : (@Bool.rec (fun _ => VH) (@Bool.rec (fun _ => VH) .fail (evGrow h size base n c m new) (band (Nat.ble ((n + m) * bytes) 35184372088832) (Nat.ble (n + m) 35184372088832)))
      (@Option.rec Addr (fun _ => VH) (.ok (.slice none (n + m) c) h) (fun a => @Bool.rec (fun _ => VH) (storeV h (addA a (n * size)) new (.slice (some a) (n + m) c)) (.ok (.slice (some a) n c) h) (Nat.beq m 0)) base)
      (Nat.ble (n + m) (capLow c))) = VH.ok v h' := h2
    clear h2
    rw [ble_eq, ble_eq, ble_eq, band_eq] at h3
    by_cases q : n + m ≤ capLow c
    · rw [decide_eq_true q] at h3
      refine .inl ⟨q, ?_⟩
      cases base with
      | none => cases h3; exact .inl ⟨rfl, rfl, rfl⟩
      | some a =>
        refine .inr ⟨a, rfl, ?_⟩
        have h4 : (@Bool.rec (fun _ => VH) (storeV h (addA a (n * size)) new (.slice (some a) (n + m) c)) (.ok (.slice (some a) n c) h) (Nat.beq m 0)) = VH.ok v h' := h3
        rw [beq_eq] at h4
        by_cases qm : m = 0
        · rw [decide_eq_true qm] at h4; cases h4; exact .inl ⟨qm, rfl, rfl⟩
        · rw [decide_eq_false qm] at h4; exact .inr ⟨qm, h4⟩
    · rw [decide_eq_false q] at h3
      have h4 : (@Bool.rec (fun _ => VH) .fail (evGrow h size base n c m new) (decide ((n + m) * bytes ≤ 35184372088832) && decide (n + m ≤ 35184372088832))) = VH.ok v h' := h3
      obtain ⟨hb, h5⟩ := ifH_some h4
      simp only [Bool.and_eq_true, decide_eq_true_eq] at hb
      exact .inr ⟨by omega, hb.1, hb.2, h5⟩
theorem evGrow_some {h h' : Heap} {size n c m : Nat} {a : Addr} {new : List Value} {v : Value} (e : evGrow h size (some a) n c m new = .ok v h') :
    ∃ b off own k pat tr nb, a = ⟨b, off, none⟩ ∧ h.blk b = some (.cells own k pat tr) ∧ grown own k pat tr off (n * size) ((n + m) * size) new = some nb ∧ v = .slice (some ⟨h.next, 0, none⟩) (n + m) (FZ * size + (n + m)) ∧
      ((c < FZ ∧ h' = h.new nb) ∨ (FZ ≤ c ∧ own = true ∧ c / FZ = size ∧ h' = (h.put b .dead).new nb)) := by
  obtain ⟨b, off, s⟩ := a
  cases s with
  | some s => cases e
  | none =>
    have e1 : (@Option.rec Blk (fun _ => VH) .fail (fun k => Blk.rec (fun own k pat tr =>
        Option.rec .fail (fun nb =>
          Bool.rec (Bool.rec .fail (.ok (.slice (some ⟨h.next, 0, none⟩) (n + m) (FZ * size + (n + m))) ((h.put b .dead).new nb)) (band own (Nat.beq (c / FZ) size)))
            (.ok (.slice (some ⟨h.next, 0, none⟩) (n + m) (FZ * size + (n + m))) (h.new nb)) (Nat.blt c FZ))
          (grown own k pat tr off (n * size) ((n + m) * size) new)) .fail k) (h.blk b)) = VH.ok v h' := e
    obtain ⟨k, hk, e2⟩ := optH_some e1
    cases k with
    | dead => cases e2
    | cells own k pat tr =>
      obtain ⟨nb, hg, e3⟩ := optH_some e2
      have e4 : (@Bool.rec (fun _ => VH) (@Bool.rec (fun _ => VH) .fail (.ok (.slice (some ⟨h.next, 0, none⟩) (n + m) (FZ * size + (n + m))) ((h.put b .dead).new nb)) (band own (Nat.beq (c / FZ) size)))
            (.ok (.slice (some ⟨h.next, 0, none⟩) (n + m) (FZ * size + (n + m))) (h.new nb)) (Nat.blt c FZ)) = VH.ok v h' := e3
      rw [blt_eq] at e4
      by_cases q : c < FZ
      · rw [decide_eq_true q] at e4
        cases e4
        exact ⟨b, off, own, k, pat, tr, nb, rfl, hk, hg, rfl, .inl ⟨q, rfl⟩⟩
      · rw [decide_eq_false q] at e4
        obtain ⟨hb, e5⟩ := ifH_some e4
        rw [band_eq] at hb
        simp only [Bool.and_eq_true] at hb
        cases e5
        exact ⟨b, off, own, k, pat, tr, nb, rfl, hk, hg, rfl, .inr ⟨by omega, hb.1, Nat.eq_of_beq_eq_true hb.2, rfl⟩⟩
theorem fz_div (size n : Nat) (h : n < FZ) : (FZ * size + n) / FZ = size := by
  rw [Nat.mul_add_div (by unfold FZ; decide), Nat.div_eq_of_lt h]; rfl
theorem fz_mod (size n : Nat) (h : n < FZ) : (FZ * size + n) % FZ = n := by
  rw [Nat.mul_add_mod]; exact Nat.mod_eq_of_lt h
theorem fz_ge (size n : Nat) (h : 0 < size) : ¬ (FZ * size + n < FZ) := by
  have : FZ * 1 ≤ FZ * size := Nat.mul_le_mul_left _ h
  omega
/-- the value that a growth tells, where a new array was made -/
theorem vr_grown (ι : Inj) (w : World) (id size n cap S : Nat) (hs : 0 < size) (hn : n < FZ) (hcap : n ≤ cap) (hS : cap * size ≤ S) :
    VR (ι.up id (w.heap.size, 0, S)) (.slice (some ⟨id, 0, none⟩) n (FZ * size + n)) (.slice (some ⟨w.heap.size, 0, none⟩) n cap) := by
  have hge := fz_ge size n hs
  refine vr_newS ι w id n _ cap S ?_ ?_ ?_
  · unfold CapR; rw [if_neg hge, fz_mod _ _ hn]; exact hcap
  · rw [capLow_eq, fz_mod _ _ hn]; exact Nat.le_refl n
  · intro _; rw [fz_div _ _ hn]; exact hS
/-- A block whose row goes on in its place: the elder number is let go, a new one tells the row from a place on. -/
theorem Rel.moved {base : Nat} {ι : Inj} {h : Heap} {w w' : World} (r : Rel base ι h w) {b B o S o2 : Nat} {nn : Nat} {pat0 : List Value} {tr0 : Tr Value} {N : Nat} {pat : List Value} {tr : Tr Value} {c2 : Array Value} {e : TypeId} {fr : Nat × Nat}
    (eb : ι b = some (B, o, S)) (hb : h.blk b = some (.cells true nn pat0 tr0)) (hB : w'.heap[B]? = some (.cells c2 e fr)) (hf : FrOK fr c2.size) (hS : c2.size = S) (ho : ∀ B', B' ≠ B → w'.heap[B']? = w.heap[B']?) (hsz : w'.heap.size = w.heap.size)
    (q1 : w'.os = w.os) (q2 : w'.tape = w.tape) (q3 : w'.output = w.output) (hn : o2 + N ≤ S)
    (hk : ∀ i v, (Blk.cells true N pat tr).get i = some v → isCell v = true ∧ ∃ v', c2[o2 + i]? = some v' ∧ VR ι v v') :
    Rel base (ι.up h.next (B, o2, S)) ((h.put b .dead).new (.cells true N pat tr)) w' ∧ Ext ι h w (ι.up h.next (B, o2, S)) ((h.put b .dead).new (.cells true N pat tr)) w' := by
  have hbn : b < h.next := Nat.lt_of_not_le fun hle => by have := (r.fresh b hle).1; rw [eb] at this; cases this
  have hblk := blk_dead_new h b (.cells true N pat tr) hbn
  have hid := (r.fresh h.next (Nat.le_refl _)).1
  have hle := Inj.le_up (B, o2, S) hid
  obtain ⟨c0, e0, fr0, hB0, _, _, ho0, _⟩ := r.blk b B o S true nn pat0 tr0 eb hb
  have hnx : ((h.put b .dead).new (.cells true N pat tr)).next = h.next + 1 := by rw [next_new, next_put]
  have elder : ∀ b', b' ≠ h.next → ownB (((h.put b .dead).new (.cells true N pat tr)).blk b') = true → b' ≠ b ∧ ownB (h.blk b') = true := fun b' q hq => by
    rw [hblk, if_neg q] at hq
    by_cases q' : b' = b
    · rw [if_pos q'] at hq; cases hq
    · rw [if_neg q'] at hq; exact ⟨q', hq⟩
  refine ⟨⟨fun b' hb' => ?_, by rw [hsz]; exact r.low, fun b' B' o' S' own n' pat' tr' e' hk' => ?_, fun b1 b2 B' x y h1 h2 h3 h4 => ?_⟩,
    ⟨hle, fun b' hb' e' => ⟨?_, ?_⟩, fun b' hb' e' => ?_, by rw [hnx]; omega, Nat.le_of_eq hsz.symm, fun B' hB' hno => ?_, fun B' hB' hq => ?_, q1, q2, q3⟩⟩
  · rw [hnx] at hb'
    have := r.fresh b' (by omega)
    exact ⟨by rw [Inj.up_ne _ _ (by omega)]; exact this.1, by rw [hblk, if_neg (by omega), if_neg (by omega)]; exact this.2⟩
  · rw [hblk] at hk'
    by_cases q : b' = h.next
    · subst q
      rw [if_pos rfl] at hk'
      rw [Inj.up_self] at e'
      obtain ⟨rfl, rfl, rfl⟩ : B = B' ∧ o2 = o' ∧ S = S' := by simpa using e'
      obtain ⟨rfl, rfl, rfl, rfl⟩ : true = own ∧ N = n' ∧ pat = pat' ∧ tr = tr' := by simpa using hk'
      refine ⟨c2, e, fr, hB, ⟨hS, by omega⟩, fun i v hv => ?_, fun _ => ⟨(ho0 rfl).1, hf⟩, fun q => by cases q⟩
      obtain ⟨g1, v', g2, g3⟩ := hk i v hv
      exact ⟨g1, v', g2, g3.mono hle⟩
    · rw [if_neg q] at hk'
      rw [Inj.up_ne _ _ q] at e'
      by_cases q' : b' = b
      · rw [if_pos q'] at hk'; cases hk'
      · rw [if_neg q'] at hk'
        obtain ⟨c1, e1, fr1, g1, g2, g3, g4, g5⟩ := r.blk b' B' o' S' own n' pat' tr' e' hk'
        have hne : B' ≠ B := fun hBB => by
          subst hBB
          cases own with
          | true => exact q' (r.apart b' b B' _ _ e' eb (by rw [hk']; rfl) (by rw [hb]; rfl))
          | false => have := g5 rfl; have := (ho0 rfl).1; omega
        refine ⟨c1, e1, fr1, (ho B' hne).trans g1, g2, fun i v hv => ?_, g4, g5⟩
        obtain ⟨p1, v', p2, p3⟩ := g3 i v hv
        exact ⟨p1, v', p2, p3.mono hle⟩
  · by_cases p1 : b1 = h.next
    · by_cases p2 : b2 = h.next
      · rw [p1, p2]
      · obtain ⟨p3, p4⟩ := elder b2 p2 h4
        rw [p1, Inj.up_self] at h1
        rw [Inj.up_ne _ _ p2] at h2
        have : B = B' := congrArg Prod.fst (Option.some.inj h1)
        subst this
        exact absurd (r.apart b2 b B _ _ h2 eb p4 (by rw [hb]; rfl)) p3
    · obtain ⟨p3, p4⟩ := elder b1 p1 h3
      rw [Inj.up_ne _ _ p1] at h1
      by_cases p2 : b2 = h.next
      · rw [p2, Inj.up_self] at h2
        have : B = B' := congrArg Prod.fst (Option.some.inj h2)
        subst this
        exact absurd (r.apart b1 b B _ _ h1 eb p4 (by rw [hb]; rfl)) p3
      · obtain ⟨p5, p6⟩ := elder b2 p2 h4
        rw [Inj.up_ne _ _ p2] at h2
        exact r.apart b1 b2 B' x y h1 h2 p4 p6
  · rw [Inj.up_ne _ _ (by omega)]; exact e'
  · rw [hblk, if_neg (by omega), if_neg (fun q => by rw [q, eb] at e'; cases e')]
  · rw [hblk, if_neg (by omega), if_neg (fun q => by rw [q, hb] at e'; cases e')]; exact e'
  · exact ho B' fun q => hno ⟨b, _, by rw [q]; exact eb, by rw [hb]; rfl⟩
  · obtain ⟨b', x, h1, h2⟩ := hq
    by_cases p : b' = h.next
    · rw [p, Inj.up_self] at h1
      have : B = B' := congrArg Prod.fst (Option.some.inj h1)
      subst this
      exact ⟨b, _, eb, by rw [hb]; rfl⟩
    · rw [Inj.up_ne _ _ p] at h1
      exact ⟨b', x, h1, (elder b' p h2).2⟩
theorem bytesT_eq {t : TypeId} {i : TypeInfo} {b : Nat} (hb : bytesT P t = some b) (hi : P.info? t = some i) : i.bytes = b := by
  simp only [bytesT, Option.bind_eq_bind, Option.bind_eq_some_iff, Option.pure_def, Option.some.injEq] at hb
  obtain ⟨i2, e2, rfl⟩ := hb
  rw [hi] at e2; cases e2; rfl
theorem sizeT_eq {t : TypeId} {i : TypeInfo} {b : Nat} (hb : sizeT P t = some b) (hi : P.info? t = some i) : i.size = b := by
  obtain ⟨i2, e2, rfl⟩ := sizeT_some hb
  rw [hi] at e2; cases e2; rfl
theorem es_append {cl : Call} {t xt e' : TypeId} {d : TypeDesc} {s b : Nat} {z : List Value} {x y : Operand} {x' y' : AO} (ho : o.op = .call cl) (hc : cl.callee = .builtin .append) (ha : cl.args = #[x, y]) (hty : cl.argTypes = #[t, xt])
    (ht : P.underlying t = some (.slice e')) (hxt : P.underlying xt = some d) (hd : d = .string ∨ ∃ e2, d = .slice e2) (hs : sizeT P e' = some s) (h0 : 0 < s) (hb : bytesT P e' = some b) (hz : zeroT P e' = some z) (hx : cO x = some x') (hy : cO y = some y') :
    ES P o (eAppend s b x' y') := fun base0 ι h w ρ a v h' r e hv => by
  obtain ⟨bs, n, c, m, new, hbs, hsrc, hcase⟩ := eAppend_some hv
  obtain ⟨i, zv, hi, hzv, hzc, hg, hzl, hza⟩ := zeroT_some hz
  have hsz := sizeT_eq hs hi
  have hby := bytesT_eq hb hi
  obtain ⟨new', n1, n2, n3, n4, n5⟩ := srcCells_some (P := P) r hsrc (e.val hy (by simp [ho, Op.operands, Call.operands, hc, ha]))
  have n6 : new'.length = m * s := n1.length ▸ n3
  have ex := e.val hx (by simp [ho, Op.operands, Call.operands, hc, ha])
  rw [hbs] at ex
  have hop : ∀ r', (Builtin.append_ #[t, xt] o.type #[a.eval x, a.eval y]).run P w = r' → (execOp a.eval o).run P w = r'.andThen fun v w => .ok (.value v) w := fun r' hr => by
    simp only [execOp, ho, hc, ha, hty, resolve, invoke, builtin, Sem.run_bind, Sem.run_pure, Result.andThen_ok, List.map_toArray, List.map_cons, List.map_nil, hr]
  generalize hq : a.eval x = q at ex hop
  have hFZ : 35184372088832 < FZ := by unfold FZ; decide
  cases ex with
  | slcN =>
    rcases hcase with ⟨hle, hcase⟩ | ⟨hlt, hb1, hb2, hgr⟩
    · have hm : m = 0 := by rw [capLow_eq] at hle; unfold FZ at hle; omega
      subst hm
      rcases hcase with ⟨_, rfl, rfl⟩ | ⟨a1, q, _⟩
      · refine ⟨ι, _, w, .inl (hop _ (run_append_none' ht hxt hd hi n4 (by rw [hsz]; exact n5 w fun _ _ h => h))), .slcN, r, .refl _ _ _⟩
      · cases q
    · have hgr' : VH.ok (.slice (some ⟨h.next, 0, none⟩) m (FZ * s + m)) (h.new (.cells true (len new) new .nil)) = VH.ok v h' := hgr
      cases hgr'
      have hrun := run_append_grow' (P := P) (w := w) (ty := o.type) (base := none) (n := 0) (c := 0) (old := []) ht hxt hd hi hzv n4 (fun w' _ => rfl) (fun w' hw => by rw [hsz]; exact n5 w' hw) (by rw [capLow_eq] at hlt; exact hlt) (by rw [hby]; exact hb1) hb2
      have hcap := grownCap_ge w (0 + m) 0 e'
      rw [len_eq]
      have md := grown_made (ι := ι) (w := w) (e := e') (pat := new) (tr := .nil) (N := new.length) (old := []) (new := new') (by rw [n1.length]; simp) (fun k u hu => by
        obtain ⟨p1, p2⟩ := get_pat hu
        rw [Nat.mod_eq_of_lt p1] at p2
        obtain ⟨v', p3, p4⟩ := n1.get _ _ p2
        exact ⟨List.all_eq_true.1 n2 u (List.mem_of_getElem? p2), v', by simpa using p3, p4⟩) (Builtin.zeroCells zv.cells (grownCap w (0 + m) 0 e' - (0 + m)))
      refine ⟨_, _, _, .inl (hop _ hrun), ?_, r.new md, .made r md⟩
      rw [Nat.zero_add]
      rw [Nat.zero_add] at hcap
      refine vr_grown ι w h.next s m _ _ h0 (by omega) hcap ?_
      simp only [Array.size_append, List.size_toArray, List.length_nil, Nat.zero_add, size_zeroCells, n6]
      have hzs : zv.cells.size = s := by rw [← Array.length_toList, hzc, hzl, hsz]
      rw [hzs, ← Nat.add_mul]
      exact Nat.mul_le_mul_right _ (by omega)
  | @slc bb B o0 S ii j _ _ c' eb hcr hl hj hS =>
    have hlow := hcr.low
    rcases hcase with ⟨hle, hcase⟩ | ⟨hlt, hb1, hb2, hgr⟩
    · rcases hcase with ⟨q, _⟩ | ⟨a1, q, hcase⟩
      · cases q
      · cases q
        rcases hcase with ⟨rfl, rfl, rfl⟩ | ⟨hm, hst⟩
        · have hn0 : new' = [] := List.eq_nil_of_length_eq_zero (by rw [n6]; exact Nat.zero_mul s)
          subst hn0
          have hrun := run_append_room' (P := P) (w' := w) (ty := o.type) (A := ⟨B, j, none⟩) (n := n) (c := c') ht hxt hd hi n4 (by rw [hsz]; exact n5 w fun _ _ h => h) (by omega) rfl
          exact ⟨ι, _, w, .inl (hop _ hrun), .slc eb hcr hl hj hS, r, .refl _ _ _⟩
        · rw [addA_plain] at hst
          obtain ⟨b1, i1, nn, pat, tr, q1, rfl, hk, hfit, rfl⟩ := storeV_spec hst
          cases q1
          have hj' : j = o0 + ii := by rcases hj with q | ⟨_, q⟩ <;> omega
          obtain ⟨w', s1, s2, s3⟩ := r.store (P := P) (j := j + n * s) eb hk (by omega) n1 n2 hfit
          have hrun := run_append_room' (P := P) (w := w) (w' := w') (ty := o.type) (A := ⟨B, j, none⟩) (n := n) (c := c') ht hxt hd hi n4 (by rw [hsz]; exact n5 w fun _ _ h => h) (by omega) (by rw [add_plain, hsz]; exact s1)
          exact ⟨ι, _, w', .inl (hop _ hrun), .slc eb hcr hle (by rcases hj with q | ⟨_, q⟩; exact .inl q; omega) hS, s2, s3⟩
    · obtain ⟨b1, off, own, k, pat, tr, nb, q1, hk, hgrn, rfl, hcase⟩ := evGrow_some hgr
      cases q1
      obtain ⟨gk, pat', tr', rfl, hget⟩ := get_grown (by rw [n3, ← Nat.add_mul]) hgrn
      obtain ⟨cc, et, fr, hB, ⟨hSz, hfit⟩, hcell, hown, hro⟩ := r.blk bb B o0 S own k pat tr eb hk
      have hj' : n * s = 0 ∨ j = o0 + ii := by
        rcases hj with q | ⟨q, _⟩
        · exact .inr q
        · exact .inl (by rw [q]; exact Nat.zero_mul s)
      -- the elder cells, as they lie in the machine
      let old' := (cc.toList.drop j).take (n * s)
      have hol : old'.length = n * s := by
        rcases hj' with q | q
        · simp [old', q]
        · simp [old']; omega
      have hog : ∀ k0, k0 < n * s → old'[k0]? = cc[o0 + ii + k0]? := fun k0 hk0 => by
        rcases hj' with q | q
        · omega
        · simp only [old']
          rw [List.getElem?_take, if_pos hk0, List.getElem?_drop, q]; simp
      have hold : ∀ w', (∀ A u, w.cell? A = some u → w'.cell? A = some u) → (Builtin.firstCells i.size n (.slice (some ⟨B, j, none⟩) n c')).run P w' = .ok old'.toArray w' := fun w' hw => by
        simp only [Builtin.firstCells]
        rw [hsz]
        exact run_loadN hol fun m0 u hu => hw _ _ (by
          have hm0 : m0 < n * s := hol ▸ (List.getElem?_eq_some_iff.1 hu).1
          rw [hog m0 hm0] at hu
          rcases hj' with q | q
          · omega
          · rw [add_plain, cell?_of hB, q]; exact hu)
      have hnb : ∀ k0 u, (Blk.cells true ((n + m) * s) pat' tr').get k0 = some u → isCell u = true ∧ ∃ v', (old' ++ new')[k0]? = some v' ∧ VR ι u v' := fun k0 u hu => by
        rcases hget k0 u hu with ⟨p1, p2⟩ | ⟨p1, p2⟩
        · obtain ⟨p3, v', p4, p5⟩ := hcell _ _ p2
          refine ⟨p3, v', ?_, p5⟩
          rw [List.getElem?_append_left (by omega), hog k0 p1, Nat.add_assoc]
          exact p4
        · obtain ⟨v', p3, p4⟩ := n1.get _ _ p2
          refine ⟨List.all_eq_true.1 n2 u (List.mem_of_getElem? p2), v', ?_, p4⟩
          rw [List.getElem?_append_right (by omega), hol]
          exact p3
      have hzs : zv.cells.size = s := by rw [← Array.length_toList, hzc, hzl, hsz]
      -- where the machine makes a new array
      have fresh : c' < n + m → ∃ S' w', (execOp a.eval o).run P w = .ok (.value (.slice (some ⟨w.heap.size, 0, none⟩) (n + m) (grownCap w (n + m) c' e'))) w' ∧
          Made ι w w' (.cells true ((n + m) * s) pat' tr') S' ∧ VR (ι.up h.next (w.heap.size, 0, S')) (.slice (some ⟨h.next, 0, none⟩) (n + m) (FZ * s + (n + m))) (.slice (some ⟨w.heap.size, 0, none⟩) (n + m) (grownCap w (n + m) c' e')) := fun hg' => by
        have hrun := run_append_grow' (P := P) (w := w) (ty := o.type) (base := some ⟨B, j, none⟩) (n := n) (c := c') ht hxt hd hi hzv n4 hold (fun w' hw => by rw [hsz]; exact n5 w' hw) hg' (by rw [hby]; exact hb1) hb2
        have hcap := grownCap_ge w (n + m) c' e'
        have md := grown_made (ι := ι) (w := w) (e := e') (N := (n + m) * s) (by rw [hol, n6, ← Nat.add_mul]; exact Nat.le_refl _) hnb (Builtin.zeroCells zv.cells (grownCap w (n + m) c' e' - (n + m)))
        refine ⟨_, _, hop _ hrun, md, vr_grown ι w h.next s (n + m) _ _ h0 (by omega) hcap ?_⟩
        simp only [Array.size_append, List.size_toArray, size_zeroCells, hol, n6, hzs]
        rw [← Nat.add_mul, ← Nat.add_mul]
        exact Nat.mul_le_mul_right _ (by omega)
      rcases hcase with ⟨hcf, rfl⟩ | ⟨hcf, rfl, hE, rfl⟩
      · have hcc : c' = c := by unfold CapR at hcr; rw [if_pos hcf] at hcr; exact hcr
        rw [capLow_eq, Nat.mod_eq_of_lt hcf] at hlt
        obtain ⟨S', w', g1, g2, g3⟩ := fresh (by omega)
        exact ⟨_, _, w', .inl g1, g3, r.new g2, .made r g2⟩
      · by_cases hroom : n + m ≤ c'
        · -- the machine goes on in its place
          have hm0 : j = o0 + ii := by
            rcases hj with q | ⟨q1, q2⟩
            · exact q
            · rw [capLow_eq] at hlt; omega
          have hS := hS hcf
          rw [hE] at hS
          have hle2 : (n + m) * s ≤ c' * s := Nat.mul_le_mul_right _ hroom
          rw [Nat.add_mul] at hle2
          have h0own := hown rfl
          obtain ⟨w', c2, s1, s2⟩ := run_store_cells (P := P) B (j + n * s) et fr new' 0 cc w hB h0own.2 (by rw [n6]; omega) (n1.all_isCell n2)
          have hrun := run_append_room' (P := P) (w := w) (w' := w') (ty := o.type) (A := ⟨B, j, none⟩) (n := n) (c := c') ht hxt hd hi n4 (by rw [hsz]; exact n5 w fun _ _ h => h) hroom (by rw [add_plain, hsz]; exact s1)
          obtain ⟨m1, m2⟩ := r.moved (w' := w') (o2 := j) (N := (n + m) * s) (pat := pat') (tr := tr') (c2 := c2) eb hk s2.blk (by rw [s2.csize]; exact h0own.2) (by rw [s2.csize]; exact hSz) s2.other s2.size s2.os s2.tape s2.output (by rw [Nat.add_mul]; omega) (fun k0 u hu => by
            rcases hget k0 u hu with ⟨p1, p2⟩ | ⟨p1, p2⟩
            · obtain ⟨p3, v', p4, p5⟩ := hcell _ _ p2
              refine ⟨p3, v', ?_, p5⟩
              rw [s2.cell, if_neg (by omega), hm0, Nat.add_assoc]
              exact p4
            · obtain ⟨v', p3, p4⟩ := n1.get _ _ p2
              have hlt3 := (List.getElem?_eq_some_iff.1 p3).1
              refine ⟨List.all_eq_true.1 n2 u (List.mem_of_getElem? p2), v', ?_, p4⟩
              rw [s2.cell, if_pos (by omega), show j + k0 - (j + n * s + 0) = k0 - n * s by omega]
              exact p3)
          have hnm : n + m < FZ := by omega
          have hge := fz_ge s (n + m) h0
          refine ⟨_, _, w', .inl (hop _ hrun), ?_, m1, m2⟩
          refine .slc (B := B) (o := j) (S := S) (Inj.up_self _ _ _) ?_ ?_ (.inl rfl) ?_
          · unfold CapR; rw [if_neg hge, fz_mod _ _ hnm]; exact hroom
          · rw [capLow_eq, fz_mod _ _ hnm]; exact Nat.le_refl _
          · intro _; rw [fz_div _ _ hnm]; exact hS
        · obtain ⟨S', w', g1, g2, g3⟩ := fresh (by omega)
          have hbn : bb < h.next := Nat.lt_of_not_le fun hle => by have := (r.fresh bb hle).1; rw [eb] at this; cases this
          obtain ⟨k1, k2⟩ := r.killed hbn (by rw [hk]; rfl) (by rw [eb]; simp)
          have hnx := next_put h bb .dead
          have r2 := k1.new g2
          have x2 := Ext.made k1 g2
          rw [hnx] at r2 x2
          exact ⟨_, _, w', .inl g1, g3, r2, k2.trans x2⟩
end
end Go.Proofs.Ytndfelbgppbncaa.Ev
