/- package bytes: sealed bytes, by contract. -/
import Derived.Test.YtndfelbgppbncaaBThree
set_option linter.unusedVariables false
namespace Go.Proofs.Ytndfelbgppbncaa
open Go.RowKit
theorem be_or (a b c d : Nat) (ha : a < 256) (hb : b < 256) (hc : c < 256) (hd : d < 256) :
    bits .or .u32 ((a : Int) * 16777216) ((b : Int) * 65536) = (a : Int) * 16777216 + (b : Int) * 65536 ∧
    bits .or .u32 ((a : Int) * 16777216 + (b : Int) * 65536) ((c : Int) * 256) = (a : Int) * 16777216 + (b : Int) * 65536 + (c : Int) * 256 ∧
    bits .or .u32 ((a : Int) * 16777216 + (b : Int) * 65536 + (c : Int) * 256) (d : Int) = (a : Int) * 16777216 + (b : Int) * 65536 + (c : Int) * 256 + (d : Int) := by
  refine ⟨?_, ?_, ?_⟩
  · exact bits_join .u32 32 (by decide) wraps_u32 24 _ _ (by omega) (by omega) (by omega) (by omega) (by omega) (by omega)
  · exact bits_join .u32 32 (by decide) wraps_u32 16 _ _ (by omega) (by omega) (by omega) (by omega) (by omega) (by omega)
  · exact bits_join .u32 32 (by decide) wraps_u32 8 _ _ (by omega) (by omega) (by omega) (by omega) (by omega) (by omega)
set_option maxHeartbeats 1600000 in
set_option maxRecDepth 100000 in
theorem number_any (b o cap : Nat) (l : List UInt8) (w : World) (hl : l.length = 4) (hr : ∀ i (h : i < l.length), w.cell? ⟨b, o + i, none⟩ = some (.int .u8 (l[i].toNat : Nat))) :
    Calls Try.prog 84 #[.slice (some ⟨b, o, none⟩) 4 cap] w fun e w' => e = .returned (.int .u32 (By.num4 l)) ∧ ∃ n, w' = w.drewN n := by
  match l, hl with
  | [x0, x1, x2, x3], _ =>
    have h0 := hr 0 (by simp)
    have h1 := hr 1 (by simp)
    have h2 := hr 2 (by simp)
    have h3 := hr 3 (by simp)
    simp only [List.getElem_cons_zero, List.getElem_cons_succ, Nat.add_zero] at h0 h1 h2 h3
    have b0 : x0.toNat < 256 := x0.toNat_lt
    have b1 : x1.toNat < 256 := x1.toNat_lt
    have b2 : x2.toNat < 256 := x2.toNat_lt
    have b3 : x3.toNat < 256 := x3.toNat_lt
    have hv : (By.num4 [x0, x1, x2, x3] : Int) = (x0.toNat : Int) * 16777216 + (x1.toNat : Int) * 65536 + (x2.toNat : Int) * 256 + (x3.toNat : Int) := by
      unfold By.num4; simp only [List.foldl_cons, List.foldl_nil]; omega
    generalize By.num4 [x0, x1, x2, x3] = N at hv
    have HV := Lib.hid hv
    obtain ⟨o1, o2, o3⟩ := be_or x0.toNat x1.toNat x2.toNat x3.toNat b0 b1 b2 b3
    clear hr hv
    go_enter Try.func84, Try.ntmps84
    go_wp2
    go_quiet (fail)
    go_wp2
    go_ret
    exact ⟨ret_int (by rw [HV.out]), _, rfl⟩
theorem belowN {B : Nat} {a w : World} (h : Below B a w) (n : Nat) : Below B a (w.drewN n) := h.trans ⟨rfl, rfl, rfl, Nat.le_refl _, fun _ _ => rfl⟩
theorem quiet_flip {P : Program} {f : FuncId} {args : Array Value} {w : World} {v : Value} (h : Calls P f args w fun e w' => e = .returned v ∧ w = w') : Calls P f args w fun e w' => e = .returned v ∧ w' = w := h.mono fun _ _ ⟨a, b⟩ => ⟨a, b.symm⟩
/-- a row of its own, told whole -/
def NewPost (l : List UInt8) (w : World) (e : Ending) (w' : World) : Prop := ∃ v', e = .returned v' ∧ Ow w' w.heap.size v' l ∧ Below w.heap.size w w' ∧ v' ≠ .slice none 0 0
theorem Ow.mono {w : World} {B B' : Nat} {v : Value} {l : List UInt8} (h : Ow w B v l) (hB : B' ≤ B) : Ow w B' v l := by
  refine ⟨h.1, ?_⟩
  rcases h.2 with h1 | ⟨g, cap, cur, h1, h2, h3⟩
  · exact Or.inl h1
  · exact Or.inr ⟨g, cap, cur, h1, Nat.le_trans hB h2, h3⟩
set_option maxHeartbeats 1600000 in
set_option maxRecDepth 100000 in
theorem seal_any (ba : Option Addr) (n cap : Nat) (l : List UInt8) (w : World) (hn : l.length = n) (hr : Rd w ba l) (hb : ba = none → n = 0) (hl : n ≤ 1099511627776) :
    Calls Try.prog 75 #[.slice ba n cap] w (NewPost (By.shut l) w) := by
  have HR := Lib.hid hr
  have HN := Lib.hid hn
  have C1 := Lib.hid (clone_any ba n cap l w hn hr hb hl)
  have hcrc := By.crc_lt l
  clear hr hn hb
  go_enter Try.func75, Try.ntmps75
  go_wp2_with fail
  with_reducible refine (C1.out).mono ?_
  rintro e w1 ⟨v1, rfl, ho, hb1, hnn⟩
  have HO := Lib.hid ho
  have HB := Lib.hid hb1
  clear ho hb1 hnn
  go_wp2_with fail
  with_reducible refine (crc_any ba n cap l _ HN.out (HR.out.below HB.out) hl).mono ?_
  rintro e w2 ⟨rfl, rfl⟩
  go_wp2_with fail
  with_reducible refine (four_any w.heap.size v1 l (By.crc l) _ hcrc HO.out HB.out.size (by rw [HN.out]; exact hl)).mono ?_
  rintro e w2 ⟨v2, rfl, ho2, hg2, hn2⟩
  have HO2 := Lib.hid ho2
  have HB2 := Lib.hid (hg2.less HB.out HB.out.size (fun i hi => (HO.out.lt i hi).1))
  have HN2 : Hid (v2 ≠ .slice none 0 0) := Lib.hid (hn2 (by unfold By.be4; simp))
  clear ho2 hg2 hn2
  go_wp2
  go_ret
  exact ⟨_, rfl, HO2.out, HB2.out, HN2.out⟩
/-- a result that is a row of its own, and an error -/
def NewErr (l : List UInt8) (er : Nat) (w : World) (e : Ending) (w' : World) : Prop := ∃ v', e = .returned (.tuple #[v', .int .i64 er]) ∧ Ow w' w.heap.size v' l ∧ Below w.heap.size w w'
set_option maxHeartbeats 1600000 in
set_option maxRecDepth 100000 in
theorem unseal_any (ba : Option Addr) (n cap : Nat) (l : List UInt8) (w : World) (hn : l.length = n) (hr : Rd w ba l) (hb : ba = none → n = 0) (hl : n ≤ 1099511627776) (hc : n ≤ cap) :
    Calls Try.prog 77 #[.slice ba n cap] w (NewErr (By.opn l).1 (By.opn l).2 w) := by
  have HR := Lib.hid hr
  have HN := Lib.hid hn
  by_cases h4 : n < 4
  · have ho : By.opn l = ([], 11) := by unfold By.opn; rw [if_pos (by omega)]
    rw [ho]
    clear hr hn hb ho
    go_enter Try.func77, Try.ntmps77
    go_wp2
    go_ret2
    exact ⟨_, rfl, Ow.nil _ _, Below.refl _ _⟩
  · obtain ⟨m, rfl⟩ : ∃ m, n = m + 4 := ⟨n - 4, by omega⟩
    obtain ⟨b, o, rfl, hlt, hcell⟩ : ∃ b o, ba = some (⟨b, o, none⟩ : Addr) ∧ b < w.heap.size ∧ ∀ i (h : i < l.length), w.cell? ⟨b, o + i, none⟩ = some (.int .u8 (l[i].toNat : Nat)) := by
      rcases hr with h | h
      · rw [h] at hn; simp at hn
      · exact h
    have hR : ∀ k, Rd (w.drewN k) (some ⟨b, o, none⟩) (l.take m) := fun k => Rd.below (Rd.take HR.out m) (belowN (Below.refl _ _) k)
    have hnum := fun k => number_any b (o + m) (cap - m) (l.drop m) (w.drewN k) (by rw [List.length_drop]; omega) (fun i h => by
      rw [List.length_drop] at h
      rw [(belowN (Below.refl w.heap.size w) k).cell (p := ⟨b, o + m + i, none⟩) hlt, Nat.add_assoc, hcell (m + i) (by omega), List.getElem_drop])
    have hcr := fun k => quiet_flip (crc_any (some ⟨b, o, none⟩) m cap (l.take m) (w.drewN k) (by rw [List.length_take]; omega) (hR k) (by omega))
    have hcl := fun k => clone_any (some ⟨b, o, none⟩) m cap (l.take m) (w.drewN k) (by rw [List.length_take]; omega) (hR k) (fun h => by cases h) (by omega)
    have hop : By.opn l = if By.num4 (l.drop m) = By.crc (l.take m) then (l.take m, 0) else ([], 12) := by
      unfold By.opn; rw [if_neg (by omega), hn, Nat.add_sub_cancel]
    generalize By.num4 (l.drop m) = N1 at hnum hop
    generalize By.crc (l.take m) = N2 at hcr hop
    have HC1 := Lib.hid hnum
    have HC2 := Lib.hid hcr
    have HC3 := Lib.hid hcl
    have hm1 : m ≤ cap := by omega
    have hm2 : ¬ cap = m := by omega
    clear hnum hcr hcl hcell hr hn hb hR
    by_cases hs : N1 = N2
    · rw [if_pos hs] at hop
      have HOP := Lib.hid hop
      have hs1 : ((N1 : Int) != (N2 : Int)) = false := by simp [hs]
      clear hop hs
      go_enter Try.func77, Try.ntmps77
      go_wp2_with fail
      go_quiet ((first | (go_at_call 84; exact Calls.quiet_of (HC1.out _)) | (go_at_call 83; exact Calls.quiet_of_same (HC2.out _))))
      go_wp2_with fail
      with_reducible refine (HC3.out _).mono ?_
      rintro e w2 ⟨v2, rfl, ho2, hb2, _⟩
      have HO2 := Lib.hid ho2
      have HB2 := Lib.hid ((belowN (Below.refl w.heap.size w) nq).trans hb2)
      clear ho2 hb2
      go_wp2
      go_ret2
      exact ⟨v2, by rw [HOP.out]; rfl, by rw [HOP.out]; exact HO2.out, HB2.out⟩
    · rw [if_neg hs] at hop
      have HOP := Lib.hid hop
      have hs1 : ((N1 : Int) != (N2 : Int)) = true := by rw [bne_iff_ne]; omega
      clear hop hs
      go_enter Try.func77, Try.ntmps77
      go_wp2_with fail
      go_quiet ((first | (go_at_call 84; exact Calls.quiet_of (HC1.out _)) | (go_at_call 83; exact Calls.quiet_of_same (HC2.out _))))
      go_wp2
      go_ret2
      exact ⟨_, by rw [HOP.out]; rfl, by rw [HOP.out]; exact Ow.nil _ _, belowN (Below.refl _ _) _⟩
end Go.Proofs.Ytndfelbgppbncaa
