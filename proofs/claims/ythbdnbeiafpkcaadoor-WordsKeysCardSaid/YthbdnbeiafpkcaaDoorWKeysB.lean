/- droverlaw08.WordsKeys: what is read of a []byte; names. -/
import Derived.Test.YthbdnbeiafpkcaaDoorWKeysA
import Derived.Laws.OwnMore
set_option linter.unusedVariables false
namespace Go.Proofs.YthbdnbeiafpkcaaDoor
open Go.RowKit
/-- what the law reads of its first argument -/
def Reads (w : World) (v : Value) (l : List UInt8) : Prop := (v = .slice none 0 0 ∧ l = []) ∨ ∃ (b o cap : Nat), v = .slice (some ⟨b, o, none⟩) l.length cap ∧ b < w.heap.size ∧ ∀ i (h : i < l.length), w.cell? ⟨b, o + i, none⟩ = some (.int .u8 (l[i].toNat))
theorem Reads.below {w w' : World} {v : Value} {l : List UInt8} (h : Reads w v l) (hb : Below w.heap.size w w') : Reads w' v l := by
  rcases h with h | ⟨b, o, cap, e, hlt, hc⟩
  · exact Or.inl h
  · refine Or.inr ⟨b, o, cap, e, Nat.lt_of_lt_of_le hlt hb.size, fun i hi => ?_⟩
    rw [hb.cell (p := ⟨b, o + i, none⟩) hlt]; exact hc i hi
/-- the names that the loop makes -/
def IsName (D : List UInt8) : Prop := (∀ x ∈ D, Wo.alnum x = true) ∧ ∀ c r, D = c :: r → Wo.isLetter c = true
theorem IsName.nil : IsName [] := ⟨(fun x hx => by cases hx), (fun c r h => by cases h)⟩
theorem IsName.add {D : List UInt8} (h : IsName D) (hD : D ≠ []) (c : UInt8) (hc : Wo.alnum c = true) : IsName (D ++ [c]) := by
  refine ⟨fun x hx => ?_, fun d r e => ?_⟩
  · rcases List.mem_append.1 hx with h1 | h1
    · exact h.1 x h1
    · simp only [List.mem_singleton] at h1; rw [h1]; exact hc
  · cases D with
    | nil => exact absurd rfl hD
    | cons a l => simp only [List.cons_append, List.cons.injEq] at e; exact e.1 ▸ h.2 a l rfl
theorem IsName.first (c : UInt8) (hc : Wo.isLetter c = true) : IsName [c] := by
  refine ⟨fun x hx => ?_, fun d r e => ?_⟩
  · simp only [List.mem_singleton] at hx; rw [hx]; unfold Wo.alnum; rw [hc]; rfl
  · simp only [List.cons.injEq] at e; exact e.1 ▸ hc
theorem IsName.next {D : List UInt8} (h : IsName D) (hD : D ≠ []) (hl : D.length ≤ 40) : Wo.nextL D 0 = ⟨if Wo.keys.contains D then 4 else 3, D, 0, 1, 0, D.length, 0, 0⟩ := by
  cases D with
  | nil => exact absurd rfl hD
  | cons c r => exact Wo.next_name c r (h.2 c r rfl) (fun x hx => h.1 x (by simp [hx])) (by omega)
theorem own_belowK {w w' : World} {B : Nat} {e : TypeId} {v : Value} {n : Nat} {xs : List Value} (h : w.ownsRow B e 1 v n xs) (hb : Below w.heap.size w w') : w'.ownsRow B e 1 v n xs :=
  h.kept (row := none) ⟨hb.os, hb.tape, hb.output, hb.size, fun k hk _ => hb.block k hk⟩ (by cases v.ownBlock with | none => exact Or.inl rfl | some k => exact Or.inr (by simp))
theorem keys_take (x : List UInt8) (q : Nat) (hq : q < 18) : (Wo.keys.take (q + 1)).contains x = ((Wo.keys.take q).contains x || x == (keyB q).data.toList) := by
  have hq' : q < Wo.keys.length := hq
  have e : (keyB q).data.toList = Wo.keys[q] := by unfold keyB; simp [List.getD, hq']
  rw [List.take_succ_eq_append_getElem hq', e]
  rw [Bool.eq_iff_iff, Bool.or_eq_true, List.contains_iff_mem, List.contains_iff_mem, List.mem_append, List.mem_singleton, beq_iff_eq]
end Go.Proofs.YthbdnbeiafpkcaaDoor
