/- droverlaw08.WordsKeys: what a []byte that came in gives; the law for every one. -/
import Derived.Test.YthbdnbeiafpkcaaDoorWKeysC
import Derived.ChangeSlices
import Derived.OpenShut
set_option linter.unusedVariables false
namespace Go.Proofs.YthbdnbeiafpkcaaDoor
open Go.ChangeShapes Go.WideShapes Go.ChangeAt Go.RowKit
theorem addK (b o j : Nat) : (⟨b, o, none⟩ : Addr).add j = ⟨b, o + j, none⟩ := by
  unfold Addr.add
  split
  · subst_vars; rfl
  · rfl
theorem block_ltK {w : World} {a : Addr} {v : Value} (h : w.cell? a = some v) : a.block < w.heap.size := by
  unfold World.cell? at h
  split at h
  · rename_i hb; exact (Array.getElem?_eq_some_iff.1 hb).1
  · cases h
section
variable {H : Type} {enc : TypeId × Value → H}
/-- what a law reads of a []byte that came in -/
def ReadsAt (w : World) (v : Value) (l : List UInt8) : Prop := (l = [] ∧ ∃ a cap, v = .slice a 0 cap) ∨ ∃ (b o cap : Nat), v = .slice (some ⟨b, o, none⟩) l.length cap ∧ b < w.heap.size ∧ ∀ i (h : i < l.length), w.cell? ⟨b, o + i, none⟩ = some (.int .u8 (l[i].toNat))
set_option maxRecDepth 100000 in
theorem open_bytesK {W : World} {base : Nat} {v1 : Value} {d1 : DataW H} {p1 : List MemPlace} (hval : Value.okWide Tryd.prog W .any base 36 v1) (h1 : DataW.Trod enc Tryd.prog W 0 (fun _ => true) true 36 v1 d1 p1) :
    ∃ l : List UInt8, l.length ≤ maxLen ∧ ReadsAt W v1 l := by
  obtain ⟨a1, len, cap, rfl⟩ := okWide_slice Tryd.underlying36 hval
  obtain ⟨fuel, hf⟩ := h1
  rcases open_ints Tryd.underlying36 Tryd.underlying5 (by kernel_rfl) hf with ⟨hcs, hx⟩ | ⟨a, len', cap', zs, hcs, _, hl, hm, hz, hx, hcell, hwz⟩
  · simp [Value.cells] at hcs
    obtain ⟨rfl, rfl, rfl⟩ := hcs
    exact ⟨[], Nat.zero_le _, Or.inl ⟨rfl, none, 0, rfl⟩⟩
  · simp [Value.cells] at hcs
    obtain ⟨rfl, rfl, rfl⟩ := hcs
    simp only [if_true] at hz
    by_cases h0 : len = 0
    · subst h0
      exact ⟨[], Nat.zero_le _, Or.inl ⟨rfl, _, cap, rfl⟩⟩
    · obtain ⟨ab, ao, spot⟩ := a
      have hspot : spot = none := by simpa [Addr.add] using World.cell?_spot (hcell 0 (by omega))
      subst hspot
      have hlen : ((zs.take len).map fun n => UInt8.ofNat n.toNat).length = len := by simp; omega
      refine ⟨(zs.take len).map fun n => UInt8.ofNat n.toNat, by rw [hlen]; omega, Or.inr ⟨ab, ao, cap, by rw [hlen], ?_, fun i hi => ?_⟩⟩
      · have := block_ltK (hcell 0 (by omega)); simpa [addK] using this
      · rw [hlen] at hi
        have hc := hcell i (by omega)
        rw [addK] at hc
        rw [hc]
        have e : zs.getD i 0 = zs[i]'(by omega) := by simp [List.getD, List.getElem?_eq_getElem (show i < zs.length by omega)]
        have hw := hwz (zs[i]'(by omega)) (List.getElem_mem _)
        rw [e]
        simp only [List.getElem_map, List.getElem_take]
        generalize zs[i]'(by omega) = z at hw
        have hb := bounds_u8 hw
        congr 2
        simp only [UInt8.toNat_ofNat']
        omega
end
theorem keys_true (v : Value) (l : List UInt8) (x : Int) (w : World) (hl : LaidW w) (hs : l.length ≤ maxLen) (hr : ReadsAt w v l) {p : Prop} (hx : p) : Calls Tryd.prog 6 #[v, .int .i64 x] w (TruePost w) := by
  rcases hr with ⟨rfl, a, cap, rfl⟩ | ⟨b, o, cap, rfl, hb, hc⟩
  · exact keys_nil a cap x w hl
  · exact keys_some b o cap l x w hl hb hc hs
end Go.Proofs.YthbdnbeiafpkcaaDoor
