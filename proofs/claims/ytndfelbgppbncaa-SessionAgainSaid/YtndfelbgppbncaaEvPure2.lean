/- The evaluator's soundness: the other operations that neither read nor write memory. -/
import Derived.Test.YtndfelbgppbncaaEvPure
import Derived.Laws.Concat
import Derived.WalkSpells
set_option linter.unusedVariables false
namespace Go.Proofs.Ytndfelbgppbncaa.Ev
section
variable {P : Program} {o : Oper}
/-! ### texts -/
theorem strL_eq (s : ByteArray) : strL s = s.data.toList := by cases s with | mk d => cases d; rfl
theorem beqL_eq : ∀ (a b : List UInt8), beqL a b = (a == b) := by
  intro a
  induction a with
  | nil => intro b; cases b <;> rfl
  | cons x l ih =>
    intro b
    cases b with
    | nil => rfl
    | cons y r =>
      show (@Bool.rec (fun _ => Bool) false (beqL l r) (Nat.beq x.toNat y.toNat)) = _
      rw [ih, beq_eq]
      by_cases h : x = y
      · subst h; simp
      · have : ¬ x.toNat = y.toNat := fun q => h (UInt8.toNat_inj.1 q)
        rw [decide_eq_false this]
        simp [h]
theorem ltL_eq : ∀ (a b : List UInt8), ltL a b = Op.bytesLess a b := by
  intro a
  induction a with
  | nil => intro b; cases b <;> rfl
  | cons x l ih =>
    intro b
    cases b with
    | nil => rfl
    | cons y r =>
      show (@Bool.rec (fun _ => Bool) (@Bool.rec (fun _ => Bool) false (ltL l r) (Nat.beq x.toNat y.toNat)) true (Nat.blt x.toNat y.toNat)) = _
      rw [ih, beq_eq, blt_eq]
      simp only [Op.bytesLess]
      by_cases h : x.toNat < y.toNat
      · have : x < y := UInt8.lt_iff_toNat_lt.2 h
        rw [decide_eq_true h]; simp [this]
      · have h' : ¬ x < y := fun q => h (UInt8.lt_iff_toNat_lt.1 q)
        rw [decide_eq_false h]
        by_cases q : x = y
        · subst q; simp
        · have : ¬ x.toNat = y.toNat := fun e => q (UInt8.toNat_inj.1 e)
          rw [decide_eq_false this]
          simp [h', q]
def StrOK (op : BinOp) (g : ByteArray → ByteArray → Option Value) : Prop :=
  ∀ (P : Program) (t : TypeId) (a b : ByteArray) (v : Value) (w : World), g a b = some v → (binOp op t (.string a) (.string b)).run P w = .ok v w ∧ ∀ ι, VR ι v v
theorem catS_ok : StrOK .add catS := fun P t a b v w h => by
  have h' : (@Bool.rec (fun _ => Option Value) none (some (.string ⟨⟨app (strL a) (strL b)⟩⟩)) (Nat.blt (Nat.add (len (strL a)) (len (strL b))) 9223372036854775807)) = some v := h
  obtain ⟨hb, hv⟩ := if_some h'
  rw [blt_eq, len_eq, len_eq, strL_eq, strL_eq] at hb
  have hb := of_decide_eq_true hb
  cases hv
  refine ⟨?_, fun ι => .string _⟩
  have e : (⟨⟨app (strL a) (strL b)⟩⟩ : ByteArray) = a ++ b := by
    apply ByteArray.ext
    rw [app_eq, strL_eq, strL_eq]
    simp [ByteArray.data_append]
  rw [e]
  have : (binOp .add t (.string a) (.string b)).run P w = (Op.stringOp .add a b).run P w := rfl
  rw [this]
  exact run_string_add_sum w a b (by
    have h1 : a.size = a.data.toList.length := rfl
    have h2 : b.size = b.data.toList.length := rfl
    have : Nat.add a.data.toList.length b.data.toList.length = a.data.toList.length + b.data.toList.length := rfl
    omega)
theorem eqS_ok : StrOK .eql eqS := fun P t a b v w h => by
  rw [bv_ok h, beqL_eq, strL_eq, strL_eq]
  exact ⟨by simp [binOp, Op.stringOp, ByteArray.toList_eq], fun ι => .bool _⟩
theorem neS_ok : StrOK .neq neS := fun P t a b v w h => by
  rw [bv_ok h, bnot_eq, beqL_eq, strL_eq, strL_eq]
  exact ⟨by simp [binOp, Op.stringOp, ByteArray.toList_eq], fun ι => .bool _⟩
theorem ltS_ok : StrOK .lss ltS := fun P t a b v w h => by
  rw [bv_ok h, ltL_eq, strL_eq, strL_eq]
  exact ⟨by simp [binOp, Op.stringOp, ByteArray.toList_eq], fun ι => .bool _⟩
theorem geS_ok : StrOK .geq geS := fun P t a b v w h => by
  rw [bv_ok h, bnot_eq, ltL_eq, strL_eq, strL_eq]
  exact ⟨by simp [binOp, Op.stringOp, ByteArray.toList_eq], fun ι => .bool _⟩
theorem less_total : ∀ (a b : List UInt8), (!Op.bytesLess b a) = (Op.bytesLess a b || a == b) := by
  intro a
  induction a with
  | nil => intro b; cases b <;> simp [Op.bytesLess]
  | cons x l ih =>
    intro b
    cases b with
    | nil => simp [Op.bytesLess]
    | cons y r =>
      simp only [Op.bytesLess]
      by_cases h : x = y
      · subst h; simp [ih r]
      · have h' : ¬ y = x := fun e => h e.symm
        have tot : decide (y < x) = !decide (x < y) := by
          have e1 : (y < x) ↔ y.toNat < x.toNat := UInt8.lt_iff_toNat_lt
          have e2 : (x < y) ↔ x.toNat < y.toNat := UInt8.lt_iff_toNat_lt
          have hn : ¬ x.toNat = y.toNat := fun q => h (UInt8.toNat_inj.1 q)
          by_cases q : x < y
          · rw [decide_eq_true q, decide_eq_false (by rw [e1]; rw [e2] at q; omega)]; rfl
          · rw [decide_eq_false q, decide_eq_true (by rw [e1]; rw [e2] at q; omega)]; rfl
        have b1 : (x == y) = false := beq_eq_false_iff_ne.2 h
        have b2 : (y == x) = false := beq_eq_false_iff_ne.2 h'
        simp [b1, b2, tot]
theorem leS_ok : StrOK .leq leS := fun P t a b v w h => by
  rw [bv_ok h, bnot_eq, ltL_eq, strL_eq, strL_eq, less_total]
  exact ⟨by simp [binOp, Op.stringOp, ByteArray.toList_eq], fun ι => .bool _⟩
theorem gtS_ok : StrOK .gtr gtS := fun P t a b v w h => by
  have e := less_total a.data.toList b.data.toList
  rw [bv_ok h, ltL_eq, strL_eq, strL_eq, ← Bool.not_not (Op.bytesLess b.data.toList a.data.toList), e]
  exact ⟨by simp [binOp, Op.stringOp, ByteArray.toList_eq], fun ι => .bool _⟩
theorem ps_str {op : BinOp} {g : ByteArray → ByteArray → Option Value} (hg : StrOK op g) {t t' : TypeId} {x y : Operand} {x' y' : AO} (ho : o.op = .binOp op t x y t') (hx : cO x = some x') (hy : cO y = some y') :
    PS P o (pStr g x' y') := fun ι ρ a v e h => by
  obtain ⟨m, h1, h⟩ := vStr_some h
  obtain ⟨n, h2, h⟩ := vStr_some h
  have ex := e.val hx (by simp [ho, Op.operands])
  have ey := e.val hy (by simp [ho, Op.operands])
  rw [h1] at ex
  rw [h2] at ey
  generalize hq : a.eval x = q at ex
  generalize hr : a.eval y = r at ey
  cases ex
  cases ey
  refine ⟨v, (hg P t m n v default h).2 ι, fun w => ?_⟩
  simp only [execOp, ho, hq, hr, eqGuard]
  have := (hg P t m n v w h).1
  split <;> simp [this]

/-! ### equality -/
def EqOK (P : Program) (t : TypeId) (g : Value → Value → Option Bool) : Prop :=
  ∀ (ι : Inj) (x y x' y' : Value) (r : Bool), g x y = some r → VR ι x x' → VR ι y y' →
    (∀ w, (Op.equal t x' y').run P w = .ok r w) ∧ (∀ (op : BinOp) (a b : Operand) (w : World), (eqGuard op t a b x' y').run P w = .ok () w) ∧
    (∀ op : BinOp, op = .eql → binOp op t x' y' = (do pure (.bool (← Op.equal t x' y')))) ∧ (∀ op : BinOp, op = .neq → binOp op t x' y' = (do pure (.bool (!(← Op.equal t x' y')))))
theorem isN_eq {α : Type} (x : Option α) : isN x = x.isNone := by cases x <;> rfl
theorem eqB_ok {t : TypeId} (ht : P.underlying t = some .bool) : EqOK P t eqB := fun ι x y x' y' r h hx hy => by
  unfold eqB at h
  split at h
  · rename_i a b
    cases hx
    cases hy
    refine ⟨fun w => ?_, fun op c d w => ?_, fun op hop => by subst hop; rfl, fun op hop => by subst hop; rfl⟩
    · rw [run_equal_bool w t a b ht, ← Option.some.inj h]
      cases a <;> cases b <;> rfl
    · unfold eqGuard; split <;> simp
  · cases h
theorem run_equal_of {t : TypeId} {d : TypeDesc} (ht : P.underlying t = some d) (x y : Value) (w : World) :
    (Op.equal t x y).run P w = (Op.equalIn (9999 + 1) t x y).run P w := rfl
theorem eqP_ok {t e : TypeId} (ht : P.underlying t = some (.pointer e)) : EqOK P t eqP := fun ι x y x' y' r h hx hy => by
  unfold eqP at h
  split at h
  · rename_i b
    cases hx
    have hr := (Option.some.inj h).symm
    cases hy with
    | ptrN =>
      refine ⟨fun w => ?_, fun op c d w => ?_, fun op hop => by subst hop; rfl, fun op hop => by subst hop; rfl⟩
      · rw [run_equal_of ht, Op.equalIn]; simp [run_underlying ht, hr, isN_eq]
      · unfold eqGuard; split <;> simp
    | ptr eb =>
      refine ⟨fun w => ?_, fun op c d w => ?_, fun op hop => by subst hop; rfl, fun op hop => by subst hop; rfl⟩
      · rw [run_equal_of ht, Op.equalIn]; simp [run_underlying ht, hr, isN_eq]
      · unfold eqGuard; split <;> simp
  · have hr := (Option.some.inj h).symm
    cases hy
    cases hx with
    | ptr eb =>
      refine ⟨fun w => ?_, fun op c d w => ?_, fun op hop => by subst hop; rfl, fun op hop => by subst hop; rfl⟩
      · rw [run_equal_of ht, Op.equalIn]; simp [run_underlying ht, hr]
      · unfold eqGuard; split <;> simp
  · cases h
theorem eqSl_ok {t e : TypeId} (ht : P.underlying t = some (.slice e)) : EqOK P t eqSl := fun ι x y x' y' r h hx hy => by
  unfold eqSl at h
  split at h
  · rename_i b n c
    have hr := (Option.some.inj h).symm
    cases hx
    cases hy with
    | slcN =>
      refine ⟨fun w => ?_, fun op c d w => ?_, fun op hop => by subst hop; rfl, fun op hop => by subst hop; rfl⟩
      · rw [run_equal_of ht, Op.equalIn]; simp [run_underlying ht, hr, isN_eq]
      · unfold eqGuard; split <;> simp
    | slc eb _ _ _ =>
      refine ⟨fun w => ?_, fun op c d w => ?_, fun op hop => by subst hop; rfl, fun op hop => by subst hop; rfl⟩
      · rw [run_equal_of ht, Op.equalIn]; simp [run_underlying ht, hr, isN_eq]
      · unfold eqGuard; split <;> simp
  · have hr := (Option.some.inj h).symm
    cases hy
    cases hx with
    | slc eb _ _ _ =>
      refine ⟨fun w => ?_, fun op c d w => ?_, fun op hop => by subst hop; rfl, fun op hop => by subst hop; rfl⟩
      · rw [run_equal_of ht, Op.equalIn]; simp [run_underlying ht, hr]
      · unfold eqGuard; split <;> simp
  · cases h
theorem eqF_ok {t : TypeId} {ps rs : Array TypeId} {vr : Bool} (ht : P.underlying t = some (.func ps rs vr)) : EqOK P t eqF := fun ι x y x' y' r h hx hy => by
  unfold eqF at h
  split at h
  · have hr := (Option.some.inj h).symm
    cases hx
    cases hy
    refine ⟨fun w => ?_, fun op c d w => ?_, fun op hop => by subst hop; rfl, fun op hop => by subst hop; rfl⟩
    · rw [run_equal_of ht, Op.equalIn]; simp [run_underlying ht, hr]
    · unfold eqGuard; split <;> simp
  · have hr := (Option.some.inj h).symm
    cases hx
    cases hy
    refine ⟨fun w => ?_, fun op c d w => ?_, fun op hop => by subst hop; rfl, fun op hop => by subst hop; rfl⟩
    · rw [run_equal_of ht, Op.equalIn]; simp [run_underlying ht, hr]
    · unfold eqGuard; split <;> simp
  · have hr := (Option.some.inj h).symm
    cases hx
    cases hy
    refine ⟨fun w => ?_, fun op c d w => ?_, fun op hop => by subst hop; rfl, fun op hop => by subst hop; rfl⟩
    · rw [run_equal_of ht, Op.equalIn]; simp [run_underlying ht, hr]
    · unfold eqGuard; split <;> simp
  · cases h
theorem ps_eq {g : Value → Value → Option Bool} {t t' : TypeId} {x y : Operand} {x' y' : AO} (hg : EqOK P t g) (ho : o.op = .binOp .eql t x y t') (hx : cO x = some x') (hy : cO y = some y') :
    PS P o (pEq g x' y') := fun ι ρ a v e h => by
  obtain ⟨r, h1, h2⟩ := opt_some h
  rw [bv_ok h2]
  obtain ⟨g1, g2, g3, g4⟩ := hg ι _ _ _ _ r h1 (e.val hx (by simp [ho, Op.operands])) (e.val hy (by simp [ho, Op.operands]))
  refine ⟨_, .bool r, fun w => ?_⟩
  simp only [execOp, ho, Sem.run_bind, g2, Result.andThen_ok]
  rw [g3 .eql rfl]
  simp [g1]
theorem ps_ne {g : Value → Value → Option Bool} {t t' : TypeId} {x y : Operand} {x' y' : AO} (hg : EqOK P t g) (ho : o.op = .binOp .neq t x y t') (hx : cO x = some x') (hy : cO y = some y') :
    PS P o (pNe g x' y') := fun ι ρ a v e h => by
  obtain ⟨r, h1, h2⟩ := opt_some h
  rw [bv_ok h2, bnot_eq]
  obtain ⟨g1, g2, g3, g4⟩ := hg ι _ _ _ _ r h1 (e.val hx (by simp [ho, Op.operands])) (e.val hy (by simp [ho, Op.operands]))
  refine ⟨_, .bool (!r), fun w => ?_⟩
  simp only [execOp, ho, Sem.run_bind, g2, Result.andThen_ok]
  rw [g4 .neq rfl]
  simp [g1]

/-! ### operations of one operand -/
theorem ps_not {t : TypeId} {x : Operand} {x' : AO} (ho : o.op = .unOp .not t x) (hx : cO x = some x') : PS P o (pNot x') := fun ι ρ a v e h => by
  obtain ⟨b, hb, hv⟩ := vBool_some h
  have ex := e.val hx (by simp [ho, Op.operands])
  rw [hb] at ex
  generalize hq : a.eval x = q at ex
  cases ex
  rw [bv_ok hv, bnot_eq]
  exact ⟨_, .bool _, fun w => by simp only [execOp, ho, hq]; rfl⟩
theorem ps_neg {t : TypeId} {x : Operand} {x' : AO} (ho : o.op = .unOp .neg t x) (hx : cO x = some x') : PS P o (pNeg x') := fun ι ρ a v e h => by
  obtain ⟨k, n, hb, hv⟩ := vInt_some h
  have ex := e.val hx (by simp [ho, Op.operands])
  rw [hb] at ex
  generalize hq : a.eval x = q at ex
  cases ex
  rw [iv_some hv, isub_eq]
  exact ⟨_, .int _ _, fun w => by simp only [execOp, ho, hq]; rfl⟩
theorem ps_com {t : TypeId} {x : Operand} {x' : AO} (ho : o.op = .unOp .xor t x) (hx : cO x = some x') : PS P o (pCom x') := fun ι ρ a v e h => by
  obtain ⟨k, n, hb, hv⟩ := vInt_some h
  have ex := e.val hx (by simp [ho, Op.operands])
  rw [hb] at ex
  generalize hq : a.eval x = q at ex
  cases ex
  rw [iv_some hv, not_toNat]
  refine ⟨_, .int _ _, fun w => ?_⟩
  simp only [execOp, ho, hq, Op.unary, Op.intBits, Sem.run_bind, Sem.run_pure, Result.andThen_ok]
  congr 4
  have hall : BitVec.ofInt k.bits (if k.signed = true then -1 else k.max) = BitVec.allOnes k.bits := by cases k <;> decide
  rw [hall, BitVec.allOnes_xor]
  rfl
theorem ps_conv {s d : TypeId} {k k0 : IntKind} {x : Operand} {x' : AO} (hs : P.underlying s = some (.int k0)) (hd : P.underlying d = some (.int k)) (ho : o.op = .convert s d x) (hx : cO x = some x') : PS P o (pConv k x') := fun ι ρ a v e h => by
  obtain ⟨k', n, hb, hv⟩ := vInt_some h
  have ex := e.val hx (by simp [ho, Op.operands])
  rw [hb] at ex
  generalize hq : a.eval x = q at ex
  cases ex
  rw [iv_some hv]
  exact ⟨_, .int _ _, fun w => by simp [execOp, ho, hq, convert, run_underlying hs, run_underlying hd, Conv.intToInt]⟩
theorem ps_convStr {s d : TypeId} {x : Operand} {x' : AO} (hs : P.underlying s = some .string) (hd : P.underlying d = some .string) (ho : o.op = .convert s d x) (hx : cO x = some x') :
    PS P o (pStrId x') := fun ι ρ a v e h => by
  obtain ⟨t, hb, hv⟩ := vStr_some h
  have ex := e.val hx (by simp [ho, Op.operands])
  rw [hb] at ex
  generalize hq : a.eval x = q at ex
  cases ex
  cases hv
  exact ⟨_, .string _, fun w => by simp [execOp, ho, hq, convert, run_underlying hs, run_underlying hd]⟩
end
end Go.Proofs.Ytndfelbgppbncaa.Ev
