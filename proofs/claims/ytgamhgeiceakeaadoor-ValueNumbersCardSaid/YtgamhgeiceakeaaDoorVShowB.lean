/- value.shown, Show, by contract. -/
import Derived.Test.YtgamhgeiceakeaaDoorVShowA
import Derived.Lib.AppendIntMem
set_option linter.unusedVariables false
set_option linter.unusedSimpArgs false
namespace Go.Proofs.YtgamhgeiceakeaaDoor
open Go.RowKit
open Va (V)
def Tab (w : World) : Prop := Lib.TabIs Tryd.prog w "internal/strconv.uint64pow10" .u64 Lib.pow10Tab
theorem Tab.past {w w' : World} (h : Tab w) (hb : Below w.heap.size w w') : Tab w' := Lib.tabBelow_of_tabIs h w' hb
theorem rv_wf {ok : Nat → Prop} {w : World} {v : V} {x : Value} (h : RV ok w v x) : Va.wf v := by
  induction h with
  | mk k n s l ba cap xs a1 a2 a3 a4 a5 a6 hat hrec ih =>
    unfold Va.wf
    exact ⟨a1, a2, (Va.wfL_iff l).2 fun v hv => by obtain ⟨i, hi, rfl⟩ := List.getElem_of_mem hv; exact ih i hi⟩
theorem Tryd.info_str : (Tryd.prog.info? 9).map (fun i => (i.zero, i.size, i.bytes)) = some (some (.string ⟨#[]⟩), 1, 16) := by kernel_rfl
def strs (l : List (List UInt8)) : List Value := l.map fun b => Value.string ⟨b.toArray⟩
theorem strs_app (l r : List (List UInt8)) : strs (l ++ r) = strs l ++ strs r := by unfold strs; simp
/-- one string more -/
theorem wp_str {ops : Array Oper} {rest : List Oper} {o : Oper} {a : Act} {Q : Exit → Act → World → Prop} (w : World) (hgd : o.guard = none) (s x : Operand)
    (ho : o.op = .call { callee := .builtin .append, args := #[s, x], argTypes := #[91, 91] })
    (B : Nat) (v : Value) (r : List (List UInt8)) (hs : a.eval s = v) (hown : w.ownsRow B 9 1 v r.length (strs r)) (b : List UInt8) (hx : a.eval x = .slice (some ⟨w.heap.size, 0, none⟩) 1 1) (hl : r.length ≤ 2199023255552) (hB : B ≤ w.heap.size)
    (h : ∀ v' w', w'.ownsRow B 9 1 v' (r.length + 1) (strs (r ++ [b])) → Gw w w' v v' → wpList Tryd.prog ops Q rest (a.put o.dst v') w') : wpList Tryd.prog ops Q (o :: rest) a (w.alloc (.cells #[.string ⟨b.toArray⟩] 9)) := by
  obtain ⟨i0, hi, hz0, hz1, hz2⟩ := info_parts Tryd.info_str
  refine wpList_append_gw _ hgd s x 91 ho B 9 i0 (.string ⟨#[]⟩) 1 16 Tryd.underlying91 hi hz0 hz1 hz2 rfl (by decide) v r.length (strs r) hs (hown.alloc _) ⟨w.heap.size, 0, none⟩ 1 1 [.string ⟨b.toArray⟩] hx rfl ?_ ?_ ?_ ?_ ?_ ?_
  · intro j u hj
    match j, hj with
    | 0, hj => simp only [List.getElem?_cons_zero, Option.some.injEq] at hj; subst hj; exact cell_new1 _ _ _
  · intro u hu; simp only [List.mem_singleton] at hu; subst hu; rfl
  · unfold maxLen; omega
  · omega
  · simp; omega
  · intro v' w' h1 h2 h3
    refine h v' w' ?_ (Gw.of ((Below.refl _ _).alloc (Nat.le_refl _) _) h2 (fun i hi => (hown.lt i hi).2))
    rw [strs_app]; exact h1
theorem fmtInt_any (n : Int) (h : Va.I64 n) (w : World) (ht : Tab w) : Calls Tryd.prog 53 #[.int .i64 n, .int .i64 10] w (SB (Lib.itoa n) w) :=
  (Tryd.strconv_FormatInt_10 n h.1 h.2 w ht).mono fun e w' ⟨he, k, os, hw⟩ => ⟨he, by rw [hw]; exact Lib.below_grow _ _ (Nat.le_refl _) _ _⟩
theorem fmtBool_any (b : Bool) (w : World) : Calls Tryd.prog 51 #[.bool b] w (SB (Va.bt b) w) :=
  (Tryd.strconv_FormatBool b w).mono fun e w' ⟨he, hw⟩ => ⟨by rw [he]; cases b <;> rfl, by rw [hw]; exact Below.refl _ _⟩
/-- joined, with a comma and a blank between -/
theorem join_any (B : Nat) (v : Value) (ps : List (List UInt8)) (w : World) (ho : w.ownsRow B 9 1 v ps.length (strs ps)) (hl : (Lib.join ps [44, 32]).length ≤ 140737488355328) (hn : ps.length ≤ 1000000) :
    ∃ a c, v = .slice a ps.length c ∧ Calls Tryd.prog 54 #[.slice a ps.length c, .string ⟨#[44, 32]⟩] w (SB (Lib.join ps [44, 32]) w) := by
  rcases ho.2 with ⟨rfl, h0⟩ | ⟨g, cap, cur, rfl, hb, hg, hcap, _⟩
  · refine ⟨none, 0, by rw [h0], ?_⟩
    have hps : ps = [] := List.eq_nil_of_length_eq_zero h0
    subst hps
    exact (Tryd.strings_Join_none none 0 ⟨#[44, 32]⟩ w).mono fun e w' ⟨he, hw⟩ => ⟨he, by rw [hw]; exact Below.refl _ _⟩
  · refine ⟨_, cap, rfl, ?_⟩
    have hm : (ps.map (fun b => (⟨b.toArray⟩ : ByteArray))).map (·.data.toList) = ps := by
      rw [List.map_map]; exact List.map_id'' (fun x => rfl) ps
    have := Tryd.strings_Join g 0 cap (ps.map fun b => (⟨b.toArray⟩ : ByteArray)) ⟨#[44, 32]⟩ w (fun j x hj => by
      have h1 := ho.cells (g := g) rfl j (.string x) (by
        unfold strs
        rw [List.getElem?_map] at hj ⊢
        cases hp : ps[j]? with
        | none => rw [hp] at hj; cases hj
        | some p => rw [hp] at hj; simp only [Option.map_some, Option.some.injEq] at hj ⊢; rw [hj])
      rw [addPl] at h1; exact h1) (Array.getElem?_eq_some_iff.1 hg).1 (by simp; omega) (by simp; exact hcap) (by rw [hm]; exact hl)
    rw [hm] at this
    rw [List.length_map] at this
    exact this.mono fun e w' ⟨he, hw⟩ => ⟨he, hw⟩
end Go.Proofs.YtgamhgeiceakeaaDoor
