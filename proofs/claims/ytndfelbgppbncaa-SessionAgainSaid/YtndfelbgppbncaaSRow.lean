/- What the rows of droverlaw07 share: a []byte that came in; 'post' of a call behind which all that was there is as it was. -/
import Derived.Test.YtndfelbgppbncaaSFive
import Derived.Test.YtndfelbgppbncaaRows
import Derived.ProofKit
import Derived.Carry
import Derived.ChangeSlices
import Derived.OpenShut
set_option linter.unusedVariables false
namespace Go.Proofs.Ytndfelbgppbncaa
open Go.ChangeShapes Go.WideShapes Go.ChangeAt Go.RowKit
theorem zz_own : ownKnob Try.prog.godebug = none := by kernel_rfl
theorem zz_laid : laidOutB Try.prog = true := by kernel_rfl
section
variable {H : Type} {enc : TypeId × Value → H}
set_option maxRecDepth 100000 in
theorem open_bytes {W : World} {base : Nat} {v1 : Value} {d1 : DataW H} {p1 : List MemPlace} (hval : Value.okWide Try.prog W .any base 25 v1) (h1 : DataW.Trod enc Try.prog W 0 (fun _ => true) true 25 v1 d1 p1) :
    ∃ (ba : Option Addr) (n cap : Nat) (l : List UInt8), v1 = .slice ba n cap ∧ n ≤ cap ∧ n ≤ maxLen ∧ (ba = none → n = 0) ∧ In W ba n l := by
  obtain ⟨a1, len, cap, rfl⟩ := okWide_slice Try.underlying25 hval
  obtain ⟨fuel, hf⟩ := h1
  rcases open_ints Try.underlying25 Try.underlying5 (by kernel_rfl) hf with ⟨hcs, hx⟩ | ⟨a, len', cap', zs, hcs, _, hl, hm, hz, hx, hcell, hwz⟩
  · simp [Value.cells] at hcs
    obtain ⟨rfl, rfl, rfl⟩ := hcs
    exact ⟨none, 0, 0, [], rfl, Nat.le_refl _, Nat.zero_le _, fun _ => rfl, rfl, Or.inl rfl⟩
  · simp [Value.cells] at hcs
    obtain ⟨rfl, rfl, rfl⟩ := hcs
    simp only [if_true] at hz
    by_cases h0 : len = 0
    · subst h0
      exact ⟨some a, 0, cap, [], rfl, Nat.zero_le _, Nat.zero_le _, fun _ => rfl, rfl, Or.inl rfl⟩
    · obtain ⟨ab, ao, spot⟩ := a
      have hspot : spot = none := by simpa [Addr.add] using World.cell?_spot (hcell 0 (by omega))
      subst hspot
      have hlen : ((zs.take len).map fun n => UInt8.ofNat n.toNat).length = len := by simp; omega
      refine ⟨_, len, cap, (zs.take len).map fun n => UInt8.ofNat n.toNat, rfl, hl, by omega, (fun e => by cases e), hlen, Or.inr ⟨ab, ao, rfl, ?_, fun i hi => ?_⟩⟩
      · have h := hcell 0 (by omega)
        rw [addPl] at h
        unfold World.cell? at h
        split at h
        · rename_i hb; exact (Array.getElem?_eq_some_iff.1 hb).1
        · cases h
      · rw [hlen] at hi
        have hc := hcell i (by omega)
        rw [addPl] at hc
        rw [hc]
        have e : zs.getD i 0 = zs[i]'(by omega) := by simp [List.getD, List.getElem?_eq_getElem (show i < zs.length by omega)]
        have hw := hwz (zs[i]'(by omega)) (List.getElem_mem _)
        rw [e]
        simp only [List.getElem_map, List.getElem_take]
        generalize zs[i]'(by omega) = z at hw
        have hb := bounds_u8 hw
        congr 2
        simp only [UInt8.toNat_ofNat']
        omega
end
end Go.Proofs.Ytndfelbgppbncaa
