/- Arguments of the rows of droverlaw02: a list of values that came in reads as one. -/
import Derived.Test.YtgamhgeiceakeaaDoorVArg
set_option linter.unusedVariables false
set_option linter.unusedSimpArgs false
namespace Go.Proofs.YtgamhgeiceakeaaDoor
open Go.ChangeShapes Go.WideShapes Go.ChangeAt Go.RowKit Go.Deep
open Va (V)
section
variable {H : Type} {enc : TypeId × Value → H}
set_option maxRecDepth 100000 in
/-- an argument of type []api.Value -/
theorem open_values {r : Reach} {base : Nat} {W : World} {v0 : Value} {d0 : DataW H} {p0 : List MemPlace} (hval : Value.okWide Tryd.prog W r base 23 v0) (h : DataW.Trod enc Tryd.prog W 0 (fun _ => true) true 23 v0 d0 p0) :
    ∃ (l : List V) (ba : Option Addr) (cap : Nat), v0 = .slice ba l.length cap ∧ RL (fun b => b < W.heap.size) W l ba cap := by
  obtain ⟨a1, len, cap, rfl⟩ := okWide_slice Tryd.underlying23 hval
  obtain ⟨fuel, hf⟩ := h
  rcases DataW.trod_slice Tryd.underlying23 hf with ⟨e, _⟩ | ⟨a, len', cap', elems, rest, m2, rfl, e, _, _, hlc, hcm, hel, helem, _, _⟩
  · simp [Value.cells] at e
    obtain ⟨rfl, rfl, rfl⟩ := e
    exact ⟨[], none, 0, rfl, ⟨by simp, by simp [maxLen], fun _ => rfl, fun i hi => by simp at hi⟩⟩
  · simp [Value.cells] at e
    obtain ⟨rfl, rfl, rfl⟩ := e
    rw [cellsOf_value] at helem
    have hex : ∀ i, i < len → ∃ (v : V) (b o : Nat) (z : Value), a.add (i * 4) = ⟨b, o, none⟩ ∧ At4 W b o z ∧ RV (fun b => b < W.heap.size) W v z := fun i hi => by
      have h1 := helem i hi
      rw [List.getElem?_eq_getElem (by omega)] at h1
      obtain ⟨cs', hc, ht⟩ := Option.bind_eq_some_iff.1 h1
      obtain ⟨v, hv⟩ := rv_of_trod m2 cs' _ ht
      obtain ⟨k', nn', s', a3', _, _, _, rfl, _⟩ := trod_fields ht
      obtain ⟨b, o, e, h4⟩ := at4_of hc
      exact ⟨v, b, o, _, e, h4, hv⟩
    let vs : List V := (List.range len).attach.map fun i => (hex i.1 (List.mem_range.1 i.2)).choose
    have hvl : vs.length = len := by simp [vs]
    refine ⟨vs, some a, cap, by rw [hvl], ⟨by omega, hcm, (fun e => by cases e), fun i hi => ?_⟩⟩
    have hi' : i < len := by omega
    have hsp := (hex i hi').choose_spec
    have hvi : vs[i] = (hex i hi').choose := by simp [vs]
    obtain ⟨b, o, z, e, h4, hv⟩ := hsp
    obtain ⟨ab, ao, asp⟩ := a
    have hspot : asp = none := by
      obtain ⟨_, b0, o0, _, e0, _, _⟩ := hex 0 (by omega)
      rw [Nat.zero_mul] at e0
      have e1 : (⟨ab, ao, asp⟩ : Addr).add 0 = ⟨ab, ao, asp⟩ := by simp [Addr.add]
      rw [e1] at e0
      cases e0; rfl
    subst hspot
    rw [addPl] at e
    have eb : b = ab := (congrArg Addr.block e).symm
    have eo : o = ao + i * 4 := (congrArg Addr.off e).symm
    rw [eb, eo] at h4
    exact ⟨ab, ao, z, rfl, h4.lt, h4, by rw [hvi]; exact hv⟩
end
end Go.Proofs.YtgamhgeiceakeaaDoor
