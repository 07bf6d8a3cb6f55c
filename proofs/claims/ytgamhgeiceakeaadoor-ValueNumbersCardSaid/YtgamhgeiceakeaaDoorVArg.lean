/- Arguments of the rows of droverlaw02: a value that came in reads as one. -/
import Derived.Test.YtgamhgeiceakeaaDoorVMem
import Derived.Test.YtgamhgeiceakeaaDoorRows
import Derived.ProofKit
import Derived.Carry
import Derived.ChangeSlices
import Derived.OpenShut
import Derived.Deep.Matrix
import Derived.WideKeyArgs
import Derived.ChangeSame
import Derived.ChangeMaps5
import Derived.ChangeArms
set_option linter.unusedVariables false
set_option linter.unusedSimpArgs false
namespace Go.Proofs.YtgamhgeiceakeaaDoor
open Go.ChangeShapes Go.WideShapes Go.ChangeAt Go.RowKit Go.Deep
open Va (V)
section
variable {H : Type} {enc : TypeId × Value → H}
theorem cellsOf_value : Tryd.prog.cellsOf 25 = 4 := by kernel_rfl
theorem cellsOf_kind : Tryd.prog.cellsOf 22 = 1 := by kernel_rfl
theorem cellsOf_int64 : Tryd.prog.cellsOf 2 = 1 := by kernel_rfl
theorem cellsOf_string : Tryd.prog.cellsOf 9 = 1 := by kernel_rfl
theorem cellsOf_values : Tryd.prog.cellsOf 23 = 1 := by kernel_rfl
theorem at4_of {w : World} {a : Addr} {a0 a1 a2 a3 : Value} (h : w.cells? 0 a 4 = some [a0, a1, a2, a3]) : ∃ b o, a = ⟨b, o, none⟩ ∧ At4 w b o (.agg #[a0, a1, a2, a3]) := by
  obtain ⟨_, hlen, hall⟩ := World.cells?_some h
  obtain ⟨b, o, s⟩ := a
  have h0 := hall 0 (by omega)
  have hs : s = none := by simpa [Addr.add] using World.cell?_spot h0
  subst hs
  have hc : ∀ i, i < 4 → w.cell? ⟨b, o + i, none⟩ = [a0, a1, a2, a3][i]? := fun i hi => by rw [← addPl]; exact hall i (by omega)
  refine ⟨b, o, rfl, ?_, a0, a1, a2, a3, rfl, hc 0 (by omega), hc 1 (by omega), hc 2 (by omega), hc 3 (by omega)⟩
  have h1 := hc 0 (by omega)
  unfold World.cell? at h1
  split at h1
  · rename_i hb; exact (Array.getElem?_eq_some_iff.1 hb).1
  · cases h1
set_option maxRecDepth 100000 in
theorem trod_fields {w : World} {n : Nat} {cs : List Value} {x : DataW H × List MemPlace} (h : DataW.trod enc Tryd.prog w 0 (fun _ => true) true n 25 cs = some x) :
    ∃ (k : Nat) (nn : Int) (s : ByteArray) (a3 : Value) (m : Nat) (y : DataW H × List MemPlace), n = m + 1 ∧ cs = [.int .u8 k, .int .i64 nn, .string s, a3] ∧ k < 256 ∧ Va.I64 nn ∧ s.size ≤ maxLen ∧ DataW.trod enc Tryd.prog w 0 (fun _ => true) true m 23 [a3] = some y := by
  obtain ⟨xs, m, rfl, hx, hlen, hxl, hall⟩ := DataW.trod_struct Tryd.underlying25 h
  rw [cellsOf_value] at hlen
  obtain ⟨a0, a1, a2, a3, rfl⟩ : ∃ a0 a1 a2 a3, cs = [a0, a1, a2, a3] := by
    match cs, hlen with
    | [a0, a1, a2, a3], _ => exact ⟨_, _, _, _, rfl⟩
  have hl4 : xs.length = 4 := hxl
  obtain ⟨x0, x1, x2, x3, rfl⟩ : ∃ x0 x1 x2 x3, xs = [x0, x1, x2, x3] := by
    match xs, hl4 with
    | [a0, a1, a2, a3], _ => exact ⟨_, _, _, _, rfl⟩
  have f0 := hall 0 _ rfl
  have f1 := hall 1 _ rfl
  have f2 := hall 2 _ rfl
  have f3 := hall 3 _ rfl
  simp only [cellsOf_kind, cellsOf_int64, cellsOf_string, cellsOf_values, List.drop_zero, List.drop_succ_cons, List.take_succ_cons, List.take_zero, List.getElem?_cons_zero, List.getElem?_cons_succ] at f0 f1 f2 f3
  obtain ⟨n0, e0, _, w0⟩ := DataW.trod_int Tryd.underlying22 f0
  obtain ⟨n1, e1, _, w1⟩ := DataW.trod_int Tryd.underlying2 f1
  obtain ⟨s2, e2, _, w2⟩ := DataW.trod_string Tryd.underlying9 f2
  cases e0
  cases e1
  cases e2
  have b0 := bounds_u8 w0
  have b1 := bounds_i64 w1
  exact ⟨n0.toNat, n1, s2, a3, m, x3, rfl, by rw [Int.toNat_of_nonneg b0.1], by omega, ⟨b1.1, by omega⟩, w2, f3⟩
set_option maxRecDepth 100000 in
theorem rv_of_trod {w : World} : ∀ (n : Nat) (cs : List Value) (x : DataW H × List MemPlace), DataW.trod enc Tryd.prog w 0 (fun _ => true) true n 25 cs = some x → ∃ v, RV (fun b => b < w.heap.size) w v (.agg cs.toArray) := by
  intro n
  induction n using Nat.strongRecOn with
  | _ n ih =>
    intro cs x h
    obtain ⟨k, nn, s, a3, m, y, rfl, rfl, hk, hn, hs, hl⟩ := trod_fields h
    rcases DataW.trod_slice Tryd.underlying23 hl with ⟨e, _⟩ | ⟨a, len, cap, elems, rest, m2, rfl, e, _, _, hlc, hcm, hel, helem, _, _⟩
    · cases e
      exact ⟨.mk k nn s [], RV.mk' (l := []) (ba := none) (cap := 0) hk hn hs ⟨by simp, by simp [maxLen], fun _ => rfl, fun i hi => by simp at hi⟩⟩
    · cases e
      rw [cellsOf_value] at helem
      have hex : ∀ i, i < len → ∃ (v : V) (b o : Nat) (z : Value), a.add (i * 4) = ⟨b, o, none⟩ ∧ At4 w b o z ∧ RV (fun b => b < w.heap.size) w v z := fun i hi => by
        have h1 := helem i hi
        rw [List.getElem?_eq_getElem (by omega)] at h1
        obtain ⟨cs', hc, ht⟩ := Option.bind_eq_some_iff.1 h1
        obtain ⟨v, hv⟩ := ih m2 (by omega) cs' _ ht
        obtain ⟨k', nn', s', a3', _, _, _, rfl, _⟩ := trod_fields ht
        obtain ⟨b, o, e, h4⟩ := at4_of hc
        exact ⟨v, b, o, _, e, h4, hv⟩
      let vs : List V := (List.range len).attach.map fun i => (hex i.1 (List.mem_range.1 i.2)).choose
      have hvl : vs.length = len := by simp [vs]
      refine ⟨.mk k nn s vs, ?_⟩
      have hRL : RL (fun b => b < w.heap.size) w vs (some a) cap := ⟨by omega, hcm, (fun e => by cases e), fun i hi => by
        have hi' : i < len := by omega
        have hsp := (hex i hi').choose_spec
        have hvi : vs[i] = (hex i hi').choose := by simp [vs]
        obtain ⟨b, o, z, e, h4, hv⟩ := hsp
        obtain ⟨ab, ao, asp⟩ := a
        have hspot : asp = none := by
          obtain ⟨_, b0, o0, _, e0, _, _⟩ := hex 0 (by omega)
          rw [Nat.zero_mul] at e0
          have e1 : (⟨ab, ao, asp⟩ : Addr).add 0 = ⟨ab, ao, asp⟩ := by simp [Addr.add]
          rw [e1] at e0
          cases e0; rfl
        subst hspot
        rw [addPl] at e
        have eb : b = ab := (congrArg Addr.block e).symm
        have eo : o = ao + i * 4 := (congrArg Addr.off e).symm
        rw [eb, eo] at h4
        exact ⟨ab, ao, z, rfl, h4.lt, h4, by rw [hvi]; exact hv⟩⟩
      have := RV.mk' (ok := fun b => b < w.heap.size) (k := k) (n := nn) (s := s) hk hn hs hRL
      rw [hvl] at this
      exact this
set_option maxRecDepth 100000 in
/-- an argument of type api.Value -/
theorem open_value {r : Reach} {base : Nat} {W : World} {v0 : Value} {d0 : DataW H} {p0 : List MemPlace} (hval : Value.okWide Tryd.prog W r base 25 v0) (h : DataW.Trod enc Tryd.prog W 0 (fun _ => true) true 25 v0 d0 p0) :
    ∃ v, RV (fun b => b < W.heap.size) W v v0 := by
  obtain ⟨cs, rfl, _⟩ := okWide_struct Tryd.underlying25 hval
  obtain ⟨fuel, hf⟩ := h
  obtain ⟨v, hv⟩ := rv_of_trod fuel _ _ hf
  exact ⟨v, by simpa [Value.cells] using hv⟩
end
end Go.Proofs.YtgamhgeiceakeaaDoor
