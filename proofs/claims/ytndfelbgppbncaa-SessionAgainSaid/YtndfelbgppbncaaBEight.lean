/- package frame: Pack, by contract. -/
import Derived.Test.YtndfelbgppbncaaBSeven
set_option linter.unusedVariables false
namespace Go.Proofs.Ytndfelbgppbncaa
open Go.RowKit
theorem Ow.rd {w : World} {B : Nat} {v : Value} {l : List UInt8} (h : Ow w B v l) : ∃ ba cap, v = .slice ba l.length cap ∧ Rd w ba l ∧ (ba = none → l.length = 0) ∧ l.length ≤ cap := by
  rcases h.2 with ⟨rfl, h0⟩ | ⟨g, cap, cur, rfl, hb, hg, hcap, _⟩
  · exact ⟨none, 0, by rw [h0], Or.inl (List.eq_nil_of_length_eq_zero h0), fun _ => h0, by omega⟩
  · refine ⟨_, cap, rfl, Or.inr ⟨g, 0, rfl, (Array.getElem?_eq_some_iff.1 hg).1, fun i hi => ?_⟩, (fun e => by cases e), hcap⟩
    have := h.cells (g := g) rfl i (.int .u8 (l[i].toNat : Nat)) (by unfold u8s; simp [hi])
    rw [addPl] at this; exact this
theorem cells_one {w1 w2 : World} {A : Array Value} {tA : TypeId} (hb : Below (w1.alloc (.cells A tA)).heap.size (w1.alloc (.cells A tA)) w2) :
    (∀ o, w2.cell? ⟨w1.heap.size, o, none⟩ = A[o]?) ∧ w1.heap.size < w2.heap.size ∧ Below w1.heap.size w1 w2 := by
  have hs := hb.size
  simp at hs
  have h1 : (w1.alloc (.cells A tA)).heap[w1.heap.size]? = some (.cells A tA (0, 0)) := heap_alloc_new _ _
  refine ⟨fun o => ?_, by omega, ((Below.refl w1.heap.size w1).alloc (Nat.le_refl _) _).trans (hb.mono (by simp))⟩
  rw [hb.cell (p := ⟨w1.heap.size, o, none⟩) (by simp)]
  unfold World.cell?; simp only [h1]; rfl
/-- the numbers' bytes so far -/
def pre (f l s a : Nat) : Nat → List UInt8
  | 0 => []
  | 1 => By.uv f
  | 2 => By.uv f ++ By.uv l
  | 3 => By.uv f ++ By.uv l ++ By.uv s
  | _ => By.uv f ++ By.uv l ++ By.uv s ++ By.uv a
theorem pre_len (f l s a j : Nat) : (pre f l s a j).length ≤ 40 := by
  have h1 := (By.uv_len f).1
  have h2 := (By.uv_len l).1
  have h3 := (By.uv_len s).1
  have h4 := (By.uv_len a).1
  unfold pre
  split
  · exact Nat.zero_le _
  · omega
  · simp only [List.length_append]; omega
  · simp only [List.length_append]; omega
  · simp only [List.length_append]; omega
set_option maxHeartbeats 3200000 in
set_option maxRecDepth 100000 in
theorem pack_yes (f l s a : Nat) (ba : Option Addr) (n cap : Nat) (d : List UInt8) (w : World) (hn : d.length = n) (hr : Rd w ba d) (hb : ba = none → n = 0) (hp : (⟨f, l, s, a, d⟩ : By.Pk).right) :
    Calls Try.prog 56 #[.agg #[.int .i64 f, .int .i64 l, .int .i64 s, .int .i64 a, .slice ba n cap]] w (NewErr (By.pack ⟨f, l, s, a, d⟩) 0 w) := by
  obtain ⟨p1, p2, p3, p4, p5, p6⟩ := hp
  simp only at p1 p2 p3 p4 p5 p6
  unfold By.top at p1 p2 p3 p4
  have hrt : rightB f l s a n = true := by
    unfold rightB
    rw [(okN_iff f).2 (by omega), (okN_iff l).2 (by omega), (okN_iff s).2 (by omega), (okN_iff a).2 (by omega)]
    have h1 : n ≤ 1048576 := by omega
    rcases p6 with h | h
    · simp [h1, h]
    · have : n = 0 := by rw [← hn, h]; rfl
      simp [this]
  have c1 := fun w => right_any f l s a ba n cap w
  rw [hrt] at c1
  have C1 := Lib.hid c1
  have HR := Lib.hid hr
  have HN := Lib.hid hn
  have HBA := Lib.hid hb
  have i0 : ∀ w, (Instr.index 103 (.agg #[.int .i64 f, .int .i64 l, .int .i64 s, .int .i64 a]) (.int .i64 0)).run Try.prog w = .ok (.int .i64 f) w := fun _ => by kernel_rfl
  have i1 : ∀ w, (Instr.index 103 (.agg #[.int .i64 f, .int .i64 l, .int .i64 s, .int .i64 a]) (.int .i64 1)).run Try.prog w = .ok (.int .i64 l) w := fun _ => by kernel_rfl
  have i2 : ∀ w, (Instr.index 103 (.agg #[.int .i64 f, .int .i64 l, .int .i64 s, .int .i64 a]) (.int .i64 2)).run Try.prog w = .ok (.int .i64 s) w := fun _ => by kernel_rfl
  have i3 : ∀ w, (Instr.index 103 (.agg #[.int .i64 f, .int .i64 l, .int .i64 s, .int .i64 a]) (.int .i64 3)).run Try.prog w = .ok (.int .i64 a) w := fun _ => by kernel_rfl
  clear hr hn hb c1 hrt p6
  go_enter Try.func56, Try.ntmps56
  go_wp2_with fail
  with_reducible refine (C1.out _).mono ?_
  rintro e w2 ⟨rfl, hb2⟩
  obtain ⟨q1, q2, q3⟩ := cells_one hb2
  have HB2 := Lib.hid q3
  have HQ := Lib.hid q1
  clear hb2 q3
  go_wp2_with fail
  clear q1
  go_loopw [4, 19] (fun v i wr => ∃ j : Nat, j ≤ 4 ∧ i = .int .i64 j ∧ Ow wr w2.heap.size v (pre f l s a j) ∧ Below w2.heap.size w2 wr) (fun _ i _ => 4 - (intOf i).toNat)
  case atStart => exact ⟨0, by omega, rfl, Ow.nil _ _, Below.refl _ _⟩
  case round =>
    obtain ⟨j, hj, rfl, ho, hbl⟩ := hrel
    have HO := Lib.hid ho
    have HBL := Lib.hid hbl
    have hsz := hbl.size
    have hpl := pre_len f l s a j
    have HPL := Lib.hid hpl
    clear ho hbl hpl
    have step : ∀ (x k : Nat), x < 18446744073709551616 → pre f l s a (k + 1) = pre f l s a k ++ By.uv x → k = j → Calls Try.prog 74 #[u4, .int .u64 x] wr (OwPost w2.heap.size u4 (pre f l s a (k + 1)) wr) := fun x k hx hk e => by
      subst e
      rw [hk]
      exact uint_any w2.heap.size u4 _ x wr hx HO.out hsz (by have := HPL.out; omega)
    have STEP := Lib.hid step
    clear step
    have hcase : j = 0 ∨ j = 1 ∨ j = 2 ∨ j = 3 ∨ j = 4 := by omega
    rcases hcase with rfl | rfl | rfl | rfl | rfl
    · go_wp2_with fail
      with_reducible refine (STEP.out f 0 (by omega) rfl rfl).mono ?_
      rintro e w3 ⟨v3, rfl, ho3, hg3, _⟩
      have HO3 := Lib.hid ho3
      have HB3 := Lib.hid (hg3.less HBL.out hsz (fun i hi => (HO.out.lt i hi).1))
      clear ho3 hg3
      go_wp2
      go_roundw
      case rel => exact ⟨1, by omega, by go_num, HO3.out, HB3.out⟩
      case measure => simp [intOf]
    · go_wp2_with fail
      with_reducible refine (STEP.out l 1 (by omega) rfl rfl).mono ?_
      rintro e w3 ⟨v3, rfl, ho3, hg3, _⟩
      have HO3 := Lib.hid ho3
      have HB3 := Lib.hid (hg3.less HBL.out hsz (fun i hi => (HO.out.lt i hi).1))
      clear ho3 hg3
      go_wp2
      go_roundw
      case rel => exact ⟨2, by omega, by go_num, HO3.out, HB3.out⟩
      case measure => simp [intOf]
    · go_wp2_with fail
      with_reducible refine (STEP.out s 2 (by omega) rfl rfl).mono ?_
      rintro e w3 ⟨v3, rfl, ho3, hg3, _⟩
      have HO3 := Lib.hid ho3
      have HB3 := Lib.hid (hg3.less HBL.out hsz (fun i hi => (HO.out.lt i hi).1))
      clear ho3 hg3
      go_wp2
      go_roundw
      case rel => exact ⟨3, by omega, by go_num, HO3.out, HB3.out⟩
      case measure => simp [intOf]
    · go_wp2_with fail
      with_reducible refine (STEP.out a 3 (by omega) rfl rfl).mono ?_
      rintro e w3 ⟨v3, rfl, ho3, hg3, _⟩
      have HO3 := Lib.hid ho3
      have HB3 := Lib.hid (hg3.less HBL.out hsz (fun i hi => (HO.out.lt i hi).1))
      clear ho3 hg3
      go_wp2
      go_roundw
      case rel => exact ⟨4, by omega, by go_num, HO3.out, HB3.out⟩
      case measure => simp [intOf]
    · have hq : ∀ o, wr.cell? ⟨w.heap.size, o, none⟩ = #[Value.int .i64 f, .int .i64 l, .int .i64 s, .int .i64 a, .slice ba n cap][o]? := fun o => by rw [HBL.out.cell (p := ⟨w.heap.size, o, none⟩) q2]; exact HQ.out o
      have hRr : Rd wr ba d := Rd.below (Rd.below HR.out HB2.out) HBL.out
      have cb := blobPut_any w2.heap.size u4 (pre f l s a 4) ba n cap d wr HN.out hRr HBA.out HO.out hsz (by have := HPL.out; omega) (by have := HN.out; omega) (fun i b o hi hbo hd e => by
        have h1 := (HO.out.lt i hi).1
        rcases HR.out with h | ⟨b', o', e', hlt, _⟩
        · exact hd h
        · rw [hbo] at e'; cases e'; have := HB2.out.size; omega)
      have CB := Lib.hid cb
      clear cb hRr i0 i1 i2 i3
      go_wp2_with fail
      with_reducible refine (CB.out).mono ?_
      rintro e w3 ⟨v3, rfl, ho3, hg3, _⟩
      obtain ⟨b3, c3, rfl, hr3, hn3, hc3⟩ := ho3.rd
      have hlen : (pre f l s a 4 ++ By.blob d).length ≤ 1099511627776 := by
        have h1 := HPL.out
        have h2 := (By.uv_len d.length).1
        have h3 := HN.out
        unfold By.blob
        simp only [List.length_append]; omega
      rw [List.length_append] at hlen hn3
      have CS := Lib.hid (seal_any b3 ((pre f l s a 4).length + (By.blob d).length) c3 _ w3 List.length_append hr3 hn3 hlen)
      have HB3 := Lib.hid (hg3.less HBL.out hsz (fun i hi => (HO.out.lt i hi).1))
      clear ho3 hg3 hr3 hn3 hc3 hlen hq
      go_wp2_with fail
      with_reducible refine (CS.out).mono ?_
      rintro e w4 ⟨v4, rfl, ho4, hb4, _⟩
      have hfin : pre f l s a 4 ++ By.blob d = By.pk ⟨f, l, s, a, d⟩ := by
        show (By.uv f ++ By.uv l ++ By.uv s ++ By.uv a) ++ By.blob d = By.uv f ++ (By.uv l ++ (By.uv s ++ (By.uv a ++ By.blob d)))
        simp only [List.append_assoc]
      rw [hfin] at ho4
      have HO4 := Lib.hid (ho4.mono (Nat.le_trans HB2.out.size HB3.out.size))
      have HB4 := Lib.hid ((HB2.out.trans (HB3.out.mono HB2.out.size)).trans (hb4.mono (Nat.le_trans HB2.out.size HB3.out.size)))
      clear ho4 hb4 hfin
      go_wp2
      go_ret2
      exact ⟨_, rfl, HO4.out, HB4.out⟩
end Go.Proofs.Ytndfelbgppbncaa
