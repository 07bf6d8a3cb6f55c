/- package bytes, what values ask of it: numbers and blobs, told and put, by contract. Printed by pick.py out of wip/frame's XBTwo..XBSix. -/
import Derived.Test.YtgamhgeiceakeaaDoorBOne
import Derived.WalkSpells
import Derived.WalkSpells
set_option linter.unusedVariables false
set_option linter.unusedSimpArgs false
namespace Go.Proofs.YtgamhgeiceakeaaDoor
open Go.RowKit
/-- what a slice of bytes reads as -/
def Rd (w : World) (ba : Option Addr) (l : List UInt8) : Prop := l = [] ∨ ∃ b o, ba = some (⟨b, o, none⟩ : Addr) ∧ b < w.heap.size ∧ ∀ i (h : i < l.length), w.cell? ⟨b, o + i, none⟩ = some (.int .u8 (l[i].toNat : Nat))
theorem Rd.below {w w' : World} {ba : Option Addr} {l : List UInt8} (h : Rd w ba l) (hb : Below w.heap.size w w') : Rd w' ba l := by
  rcases h with h | ⟨b, o, e, hlt, hc⟩
  · exact Or.inl h
  · refine Or.inr ⟨b, o, e, Nat.lt_of_lt_of_le hlt hb.size, fun i hi => ?_⟩
    rw [hb.cell (p := ⟨b, o + i, none⟩) hlt]; exact hc i hi
theorem Rd.take {w : World} {ba : Option Addr} {l : List UInt8} (h : Rd w ba l) (n : Nat) : Rd w ba (l.take n) := by
  rcases h with h | ⟨b, o, e, hlt, hc⟩
  · exact Or.inl (by rw [h]; simp)
  · refine Or.inr ⟨b, o, e, hlt, fun i hi => ?_⟩
    rw [List.length_take] at hi
    rw [hc i (by omega), List.getElem_take]
theorem Rd.drop {w : World} {b o : Nat} {l : List UInt8} (h : Rd w (some ⟨b, o, none⟩) l) (n : Nat) : Rd w (some ⟨b, o + n, none⟩) (l.drop n) := by
  rcases h with h | ⟨b, o, e, hlt, hc⟩
  · exact Or.inl (by rw [h]; simp)
  · cases e
    refine Or.inr ⟨b, o + n, rfl, hlt, fun i hi => ?_⟩
    rw [List.length_drop] at hi
    rw [Nat.add_assoc, hc (n + i) (by omega), List.getElem_drop]
theorem ret_int {k : IntKind} {a b : Int} (h : a = b) : Ending.returned (.int k a) = .returned (.int k b) := by rw [h]
theorem addPl (B o j : Nat) : (⟨B, o, none⟩ : Addr).add j = ⟨B, o + j, none⟩ := by
  unfold Addr.add
  split
  · subst_vars; rfl
  · rfl
theorem cells_new (w : World) (vs : Array Value) (T : TypeId) (b : Nat) (hb : b = w.heap.size) (j : Nat) (u : Value) (h : vs[j]? = some u) : (w.alloc (.cells vs T)).cell? ((⟨b, 0, none⟩ : Addr).add j) = some u := by
  subst hb
  rw [addPl, Nat.zero_add]
  have hb : (w.alloc (.cells vs T)).heap[w.heap.size]? = some (.cells vs T) := heap_alloc_new _ _
  simp only [World.cell?, hb]; simp [h]
/-- a copy in memory of its own -/
def ClPost (ba : Option Addr) (l : List UInt8) (w : World) (e : Ending) (w' : World) : Prop := ∃ v', e = .returned v' ∧ Ow w' w.heap.size v' l ∧ Below w.heap.size w w' ∧ (v' = .slice none 0 0 ↔ ba = none)
set_option maxHeartbeats 1600000 in
set_option maxRecDepth 100000 in
theorem clone_any (ba : Option Addr) (n cap : Nat) (l : List UInt8) (w : World) (hn : l.length = n) (hr : Rd w ba l) (hb : ba = none → n = 0) (hl : n ≤ 1099511627776) :
    Calls Tryd.prog 64 #[.slice ba n cap] w (ClPost ba l w) := by
  subst hn
  have q22 : ∀ (w : World) (a : Option Addr) (n c n' c' : Nat), (binOp .eql 26 (.slice a n c) (.slice none n' c')).run Tryd.prog w = .ok (.bool a.isNone) w := fun w a n c n' c' => Lib.run_eql_slice_nil w _ _ a n c n' c' Tryd.underlying26
  obtain ⟨i0, hi, hz0, hz1, hz2⟩ := info_parts Tryd.info_u8
  have HR := Lib.hid hr
  clear hr
  cases ba with
  | none =>
    have h0 := hb rfl
    have hl0 : l = [] := List.eq_nil_of_length_eq_zero h0
    have HL := Lib.hid hl0
    clear h0 hl0 hb
    go_enter Tryd.func64, Tryd.ntmps64
    go_wp2
    go_ret
    exact ⟨_, rfl, by rw [HL.out]; exact Ow.nil _ _, Below.refl _ _, Iff.intro (fun _ => rfl) (fun _ => rfl)⟩
  | some a0 =>
    clear hb
    go_enter Tryd.func64, Tryd.ntmps64
    go_wp2_with (at_builtin; refine wpList_append_gw _ rfl _ _ 26 rfl w.heap.size 5 i0 (.int .u8 0) 1 1 Tryd.underlying26 hi hz0 hz1 hz2 rfl (by decide) _ 0 [] rfl (World.ownsRow_made w #[] 0 (Nat.le_refl _) (Nat.zero_le _) rfl) a0 l.length cap (u8s l) rfl ?c0 ?c1 ?c2 ?c3 ?c4 ?c5 ?_)
    case c0 => rw [u8s_len]; omega
    case c1 =>
      intro j u hj
      have hjl : j < l.length := by have := (List.getElem?_eq_some_iff.1 hj).1; rw [u8s_len] at this; exact this
      rcases HR.out with h | ⟨b, o, e, hlt, hc⟩
      · rw [h] at hjl; simp at hjl
      · cases e
        rw [Addr.add_lit]
        rw [((Below.refl w.heap.size w).alloc (Nat.le_refl _) _).cell (p := ⟨b, o + j, none⟩) hlt, hc j hjl, ← hj]
        unfold u8s; simp [hjl]
    case c2 => exact u8s_one l
    case c3 => unfold maxLen; omega
    case c4 => omega
    case c5 => simp
    intro v' w1 hown' hgrow hnn
    have hown1 : Ow w1 w.heap.size v' l := by unfold Ow; simpa using hown'
    have hb1 : Below w.heap.size w w1 := ((Below.refl _ w).alloc (Nat.le_refl _) _).grown hgrow.grown (by simp) (by intro k hk; simp [Value.ownBlock] at hk; omega)
    have hnn1 : v' ≠ .slice none 0 0 := hnn
    have HO1 := Lib.hid hown1
    have HB1 := Lib.hid hb1
    have HN1 := Lib.hid hnn1
    clear hown' hgrow hnn hown1 hb1 hnn1
    go_wp2
    go_ret
    exact ⟨_, rfl, HO1.out, HB1.out, Iff.intro (fun e => absurd e HN1.out) (fun e => by cases e)⟩
theorem belowN {B : Nat} {a w : World} (h : Below B a w) (n : Nat) : Below B a (w.drewN n) := h.trans ⟨rfl, rfl, rfl, Nat.le_refl _, fun _ _ => rfl⟩
theorem quiet_flip {P : Program} {f : FuncId} {args : Array Value} {w : World} {v : Value} (h : Calls P f args w fun e w' => e = .returned v ∧ w = w') : Calls P f args w fun e w' => e = .returned v ∧ w' = w := h.mono fun _ _ ⟨a, b⟩ => ⟨a, b.symm⟩
/-- a row of its own, told whole -/
def NewPost (l : List UInt8) (w : World) (e : Ending) (w' : World) : Prop := ∃ v', e = .returned v' ∧ Ow w' w.heap.size v' l ∧ Below w.heap.size w w' ∧ v' ≠ .slice none 0 0
theorem Ow.mono {w : World} {B B' : Nat} {v : Value} {l : List UInt8} (h : Ow w B v l) (hB : B' ≤ B) : Ow w B' v l := by
  refine ⟨h.1, ?_⟩
  rcases h.2 with h1 | ⟨g, cap, cur, h1, h2, h3⟩
  · exact Or.inl h1
  · exact Or.inr ⟨g, cap, cur, h1, Nat.le_trans hB h2, h3⟩
/-- a result that is a row of its own, and an error -/
def NewErr (l : List UInt8) (er : Nat) (w : World) (e : Ending) (w' : World) : Prop := ∃ v', e = .returned (.tuple #[v', .int .i64 er]) ∧ Ow w' w.heap.size v' l ∧ Below w.heap.size w w'
/-- what GetUint tells of what stands at a place -/
def GuPost (l : List UInt8) (at' : Nat) (w : World) (e : Ending) (w' : World) : Prop :=
  e = .returned (.tuple #[.int .u64 (if (By.gu (l.drop at')).2.2 = 0 then (By.gu (l.drop at')).1 else 0 : Nat), .int .i64 (if (By.gu (l.drop at')).2.2 = 0 then at' + (By.gu (l.drop at')).2.1 else 0 : Nat), .int .i64 (By.gu (l.drop at')).2.2]) ∧ w = w'
theorem gu_post {l : List UInt8} {at' n c er : Nat} {w : World} (h : By.gu (l.drop at') = (n, c, er)) (hz : er ≠ 0 → n = 0) : GuPost l at' w (.returned (.tuple #[.int .u64 n, .int .i64 (if er = 0 then at' + c else 0 : Nat), .int .i64 er])) w := by
  unfold GuPost
  rw [h]
  refine ⟨?_, rfl⟩
  by_cases he : er = 0
  · simp only [if_pos he]
  · simp only [if_neg he]; rw [hz he]
theorem p7 (j : Nat) : (128 : Nat) ^ j = 2 ^ (7 * j) := by rw [Nat.pow_mul]
theorem acc_lt (acc y j : Nat) (h : acc < 2 ^ (7 * j)) (hy : y < 128) : acc + y * 128 ^ j < 2 ^ (7 * (j + 1)) := by
  rw [← p7] at h ⊢
  rw [Nat.pow_succ, Nat.mul_comm (128 ^ j)]
  have : y * 128 ^ j ≤ 127 * 128 ^ j := Nat.mul_le_mul_right _ (by omega)
  omega
theorem or_step (acc y j : Nat) (hj : j ≤ 9) (h : acc < 2 ^ (7 * j)) (hy : y < 128) (h9 : j = 9 → y ≤ 1) :
    bits .or .u64 (acc : Int) (IntKind.u64.wrap ((y : Int) * 2 ^ (7 * j))) = ((acc + y * 128 ^ j : Nat) : Int) := by
  have hp : ((2 : Int) ^ (7 * j)) = ((2 ^ (7 * j) : Nat) : Int) := by rw [Int.natCast_pow]; rfl
  have hq : (2 : Nat) ^ (7 * j) ≤ 9223372036854775808 := by
    have := Nat.pow_le_pow_right (show 0 < 2 by decide) (show 7 * j ≤ 63 by omega)
    exact Nat.le_trans this (by decide)
  have hyx : y * 2 ^ (7 * j) < 18446744073709551616 := by
    by_cases e : j = 9
    · have := Nat.mul_le_mul_right (2 ^ (7 * j)) (h9 e); omega
    · have h2 : (2 : Nat) ^ (7 * j) ≤ 72057594037927936 := by
        have := Nat.pow_le_pow_right (show 0 < 2 by decide) (show 7 * j ≤ 56 by omega)
        exact Nat.le_trans this (by decide)
      have := Nat.mul_le_mul (show y ≤ 127 by omega) h2
      omega
  rw [hp, ← Int.natCast_mul, wraps_u64 _ (by omega) (by omega)]
  rw [bits_join_low .u64 64 (by decide) wraps_u64 (7 * j) _ _ (by omega) (by rw [hp]; omega) (by omega) (by omega) (by rw [hp, ← Int.natCast_emod, Nat.mul_mod_left]; rfl) (by omega), p7]
  omega
set_option maxHeartbeats 1600000 in
set_option maxRecDepth 100000 in
theorem getUint_any (ba : Option Addr) (n cap : Nat) (l : List UInt8) (at' : Nat) (w : World) (hn : l.length = n) (hr : Rd w ba l) (ha : at' ≤ n) (hl : n ≤ 1099511627776) :
    Calls Tryd.prog 47 #[.slice ba n cap, .int .i64 at'] w (GuPost l at' w) := by
  have HR := Lib.hid hr
  have HN := Lib.hid hn
  have b1 : ¬ (n : Int) < (at' : Int) := by omega
  clear hr hn
  go_enter Tryd.func47, Tryd.ntmps47
  go_wp2_with fail
  go_loop [7, 18] (fun nv iv => ∃ j acc : Nat, j ≤ 9 ∧ at' + j ≤ n ∧ iv = .int .i64 j ∧ nv = .int .u64 acc ∧ acc < 2 ^ (7 * j) ∧ By.gu (l.drop at') = By.guF j acc (l.drop (at' + j))) (fun _ i => 10 - (intOf i).toNat)
  case atStart => exact ⟨0, 0, by omega, by omega, rfl, rfl, by decide, rfl⟩
  case round =>
    obtain ⟨j, acc, hj, haj, rfl, rfl, hacc, hgu⟩ := hrel
    have HG := Lib.hid hgu
    have HACC := Lib.hid hacc
    clear hgu hacc
    by_cases hend : at' + j = n
    · have hfin : By.gu (l.drop at') = (0, 0, 11) := by
        rw [HG.out, List.drop_of_length_le (by have := HN.out; omega)]; rfl
      have HF := Lib.hid hfin
      have k1 : ((at' : Int) + (j : Int) == (n : Int)) = true := beqI (by omega)
      clear hfin
      go_wp2
      go_ret3
      exact gu_post HF.out (fun _ => rfl)
    · obtain ⟨b, o, rfl, hlt, hcell⟩ : ∃ b o, ba = some (⟨b, o, none⟩ : Addr) ∧ b < w.heap.size ∧ ∀ i (h : i < l.length), w.cell? ⟨b, o + i, none⟩ = some (.int .u8 (l[i].toNat : Nat)) := by
        rcases HR.out with h | h
        · have := HN.out; rw [h] at this; simp at this; omega
        · exact h
      have hlt2 : at' + j < l.length := by have := HN.out; omega
      have hc1 := hcell (at' + j) hlt2
      have hdr := List.drop_eq_getElem_cons hlt2
      have hx : l[at' + j].toNat < 256 := l[at' + j].toNat_lt
      generalize l[at' + j] = x at hc1 hdr hx
      have hgu2 := HG.out
      rw [hdr] at hgu2
      unfold By.guF at hgu2
      have k1 : ((at' : Int) + (j : Int) == (n : Int)) = false := bneI (by omega)
      clear hcell hdr
      by_cases hbad : (j = 9 ∧ 1 < x.toNat) ∨ (x.toNat = 0 ∧ 0 < j)
      · rw [if_pos hbad] at hgu2
        have HF := Lib.hid hgu2
        clear hgu2
        by_cases h9 : j = 9 ∧ 1 < x.toNat
        · obtain ⟨rfl, h1⟩ := h9
          have i1 : (1 : Int) < (x.toNat : Int) := by omega
          clear hbad
          go_wp2
          go_ret3
          exact gu_post HF.out (fun _ => rfl)
        · obtain ⟨h0, h1⟩ : x.toNat = 0 ∧ 0 < j := by omega
          have i1 : (((x.toNat : Nat) : Int) == 0) = true := beqI (by omega)
          have i2 : decide ((1 : Int) < (x.toNat : Int)) = false := by simp; omega
          clear hbad h9
          by_cases h9 : j = 9
          · subst h9
            go_wp2
            go_ret3
            exact gu_post HF.out (fun _ => rfl)
          · have i3 : ((j : Int) == 9) = false := bneI (by omega)
            go_wp2
            go_ret3
            exact gu_post HF.out (fun _ => rfl)
      · rw [if_neg hbad] at hgu2
        have hcase : (j = 9 ∧ x.toNat = 1) ∨ (j = 0 ∧ x.toNat = 0) ∨ (¬ j = 9 ∧ ¬ x.toNat = 0) := by omega
        have ham : bits .and .u8 ((x.toNat : Nat) : Int) 127 = (x.toNat : Int) % 128 := u8_and127 _ (by omega) (by omega)
        have hor := or_step acc (x.toNat % 128) j hj HACC.out (by omega) (by omega)
        have hlt' : acc + x.toNat % 128 * 128 ^ j < 2 ^ (7 * (j + 1)) := acc_lt acc (x.toNat % 128) j HACC.out (by omega)
        rw [Int.natCast_emod, show ((128 : Nat) : Int) = 128 from rfl] at hor
        generalize acc + x.toNat % 128 * 128 ^ j = A at hgu2 hor hlt'
        have HLT := Lib.hid hlt'
        clear hlt'
        by_cases h128 : x.toNat < 128
        · rw [if_pos h128] at hgu2
          have HF := Lib.hid hgu2
          clear hgu2
          rcases hcase with ⟨h9, h1⟩ | ⟨h9, h1⟩ | ⟨h9, h1⟩
          · have i3 : ((j : Int) == 9) = true := beqI (by omega)
            have i4 : (((x.toNat : Nat) : Int) == 0) = false := bneI (by omega)
            have i2 : decide ((1 : Int) < (x.toNat : Int)) = false := by simp; omega
            clear hbad h1 h9
            go_wp2
            go_ret3
            exact gu_post HF.out (fun h => absurd rfl h)
          · have i3 : ((j : Int) == 9) = false := bneI (by omega)
            have i4 : (((x.toNat : Nat) : Int) == 0) = true := beqI (by omega)
            have i2 : decide (0 < j) = false := by simp; omega
            have i5 : ¬ 0 < j := by omega
            clear hbad h1 h9
            go_wp2
            go_ret3
            exact gu_post HF.out (fun h => absurd rfl h)
          · have i3 : ((j : Int) == 9) = false := bneI (by omega)
            have i4 : (((x.toNat : Nat) : Int) == 0) = false := bneI (by omega)
            clear hbad h1 h9
            go_wp2
            go_ret3
            exact gu_post HF.out (fun h => absurd rfl h)
        · have h9 : ¬ j = 9 := by omega
          rw [if_neg h128, if_neg h9] at hgu2
          have HF := Lib.hid hgu2
          have i3 : ((j : Int) == 9) = false := bneI (by omega)
          have i4 : (((x.toNat : Nat) : Int) == 0) = false := bneI (by omega)
          clear hgu2 hbad hcase
          go_wp2
          go_round
          case rel => exact ⟨j + 1, A, by omega, by omega, by go_num, rfl, HLT.out, by rw [HF.out, Nat.add_assoc]⟩
          case measure => simp [intOf]; omega
/-- what GetBlob tells of what stands at a place -/
def GbPost (l : List UInt8) (at' most : Nat) (w : World) (e : Ending) (w' : World) : Prop :=
  ∃ v', e = .returned (.tuple #[v', .int .i64 (if (By.getBlob most (l.drop at')).2.2 = 0 then at' + (By.getBlob most (l.drop at')).2.1 else 0 : Nat), .int .i64 (By.getBlob most (l.drop at')).2.2]) ∧ Ow w' w.heap.size v' (By.getBlob most (l.drop at')).1 ∧ Below w.heap.size w w'
theorem gb_post {l : List UInt8} {at' most c er : Nat} {w w' : World} {v : Value} {d : List UInt8} {nx : Nat} (h : By.getBlob most (l.drop at') = (d, c, er)) (hx : nx = if er = 0 then at' + c else 0) (ho : Ow w' w.heap.size v d) (hb : Below w.heap.size w w') : GbPost l at' most w (.returned (.tuple #[v, .int .i64 nx, .int .i64 er])) w' := by
  unfold GbPost
  rw [h, hx]
  exact ⟨v, rfl, ho, hb⟩
set_option maxHeartbeats 1600000 in
set_option maxRecDepth 100000 in
theorem getBlob_any (ba : Option Addr) (n cap : Nat) (l : List UInt8) (at' most : Nat) (w : World) (hn : l.length = n) (hr : Rd w ba l) (hb : ba = none → n = 0) (ha : at' ≤ n) (hc : n ≤ cap) (hl : n ≤ 1099511627776) (hm : most ≤ 1099511627776) :
    Calls Tryd.prog 46 #[.slice ba n cap, .int .i64 at', .int .i64 most] w (GbPost l at' most w) := by
  have c1 := getUint_any ba n cap l at' w hn hr ha hl
  have hgl := By.gu_len (l.drop at')
  have hgb : By.getBlob most (l.drop at') = if (By.gu (l.drop at')).2.2 ≠ 0 then ([], 0, (By.gu (l.drop at')).2.2) else if most < (By.gu (l.drop at')).1 then ([], 0, 3) else if (l.drop at').length - (By.gu (l.drop at')).2.1 < (By.gu (l.drop at')).1 then ([], 0, 11) else
    (((l.drop at').drop (By.gu (l.drop at')).2.1).take (By.gu (l.drop at')).1, (By.gu (l.drop at')).2.1 + (By.gu (l.drop at')).1, 0) := rfl
  unfold GuPost at c1
  generalize By.gu (l.drop at') = r at c1 hgl hgb
  obtain ⟨N, c, er⟩ := r
  simp only at c1 hgl hgb
  rw [List.length_drop, hn] at hgl hgb
  have HR := Lib.hid hr
  have HN := Lib.hid hn
  by_cases he : er = 0
  · subst he
    obtain ⟨g1, g2⟩ := hgl rfl
    rw [if_neg (by simp)] at hgb
    simp only [if_true] at c1
    have C1 := Lib.hid c1
    have hnx : at' + c ≤ n := by omega
    have hN : 0 ≤ (N : Int) := by omega
    clear c1 hr hn hgl
    by_cases h1 : most < N
    · rw [if_pos h1] at hgb
      have HG := Lib.hid hgb
      have i1 : (most : Int) < (N : Int) := by omega
      clear hgb
      go_enter Tryd.func46, Tryd.ntmps46
      go_wp2_with fail
      with_reducible refine (C1.out).mono ?_
      rintro e w1 ⟨rfl, rfl⟩
      go_wp2
      go_ret3
      exact gb_post HG.out rfl (Ow.nil _ _) (Below.refl _ _)
    · rw [if_neg h1] at hgb
      have i1 : ¬ (most : Int) < (N : Int) := by omega
      by_cases h2 : n - at' - c < N
      · rw [if_pos h2] at hgb
        have HG := Lib.hid hgb
        have i2 : (n : Int) - ((at' + c : Nat) : Int) < (N : Int) := by omega
        clear hgb
        go_enter Tryd.func46, Tryd.ntmps46
        go_wp2_with fail
        with_reducible refine (C1.out).mono ?_
        rintro e w1 ⟨rfl, rfl⟩
        go_wp2
        go_ret3
        exact gb_post HG.out rfl (Ow.nil _ _) (Below.refl _ _)
      · rw [if_neg h2, List.drop_drop] at hgb
        obtain ⟨b, o, rfl, hlt, hcell⟩ : ∃ b o, ba = some (⟨b, o, none⟩ : Addr) ∧ b < w.heap.size ∧ ∀ i (h : i < l.length), w.cell? ⟨b, o + i, none⟩ = some (.int .u8 (l[i].toNat : Nat)) := by
          rcases HR.out with h | h
          · have := HN.out; rw [h] at this; simp at this; omega
          · exact h
        have HG := Lib.hid hgb
        have hlen : ((l.drop (at' + c)).take N).length = N := by rw [List.length_take, List.length_drop, HN.out]; omega
        have i2 : ¬ (n : Int) - ((at' : Int) + (c : Int)) < (N : Int) := by omega
        clear hgb hcell
        by_cases hcap : cap = at' + c
        · obtain rfl : N = 0 := by omega
          subst hcap
          have cl := clone_any (some ⟨b, o, none⟩) 0 0 ((l.drop (at' + c)).take 0) w hlen (Or.inl rfl) (fun h => by cases h) (by omega)
          have CL := Lib.hid cl
          clear cl hlen
          go_enter Tryd.func46, Tryd.ntmps46
          go_wp2_with fail
          with_reducible refine (C1.out).mono ?_
          rintro e w1 ⟨rfl, rfl⟩
          go_wp2_with fail
          with_reducible refine (CL.out).mono ?_
          rintro e w2 ⟨v2, rfl, ho2, hb2, _⟩
          have HO2 := Lib.hid ho2
          have HB2 := Lib.hid hb2
          clear ho2 hb2
          go_wp2
          go_ret3
          exact gb_post HG.out (by rw [if_pos rfl]; omega) HO2.out HB2.out
        · have cl := clone_any (some ⟨b, o + (at' + c), none⟩) N (cap - (at' + c)) ((l.drop (at' + c)).take N) w hlen (Rd.take (Rd.drop HR.out _) _) (fun h => by cases h) (by omega)
          have CL := Lib.hid cl
          clear cl hlen
          go_enter Tryd.func46, Tryd.ntmps46
          go_wp2_with fail
          with_reducible refine (C1.out).mono ?_
          rintro e w1 ⟨rfl, rfl⟩
          go_wp2_with fail
          with_reducible refine (CL.out).mono ?_
          rintro e w2 ⟨v2, rfl, ho2, hb2, _⟩
          have HO2 := Lib.hid ho2
          have HB2 := Lib.hid hb2
          clear ho2 hb2
          go_wp2
          go_ret3
          exact gb_post HG.out (by rw [if_pos rfl]; omega) HO2.out HB2.out
  · have HG : Hid (By.getBlob most (l.drop at') = ([], 0, er)) := Lib.hid (by rw [hgb, if_pos he])
    simp only [if_neg he] at c1
    have C1 := Lib.hid c1
    have hE : ((er : Int) != 0) = true := by rw [bne_iff_ne]; omega
    clear c1 hr hn hgl hgb
    go_enter Tryd.func46, Tryd.ntmps46
    go_wp2_with fail
    with_reducible refine (C1.out).mono ?_
    rintro e w1 ⟨rfl, rfl⟩
    go_wp2
    go_ret3
    exact gb_post HG.out (by rw [if_neg he]) (Ow.nil _ _) (Below.refl _ _)
set_option maxHeartbeats 1600000 in
set_option maxRecDepth 100000 in
theorem blobPut_any (B : Nat) (v : Value) (l : List UInt8) (ba : Option Addr) (n cap : Nat) (d : List UInt8) (w : World) (hn : d.length = n) (hr : Rd w ba d) (hb : ba = none → n = 0) (ho : Ow w B v l) (hB : B ≤ w.heap.size) (hl : l.length ≤ 549755813888) (hd : n ≤ 549755813888)
    (hap : ∀ i b o, v.ownBlock = some i → ba = some (⟨b, o, none⟩ : Addr) → d ≠ [] → b ≠ i) :
    Calls Tryd.prog 48 #[v, .slice ba n cap] w (OwPost B v (l ++ By.blob d) w) := by
  obtain ⟨i0, hi, hz0, hz1, hz2⟩ := info_parts Tryd.info_u8
  have HR := Lib.hid hr
  have HN := Lib.hid hn
  have HA := Lib.hid hap
  have HBA := Lib.hid hb
  have c1 := uint_any B v l n w (by omega) ho hB (by omega)
  have C1 := Lib.hid c1
  have HO := Lib.hid ho
  clear hr hn ho hap hb c1
  go_enter Tryd.func48, Tryd.ntmps48
  go_wp2_with fail
  with_reducible refine (C1.out).mono ?_
  rintro e w1 ⟨v1, rfl, ho1, hg1, hn1⟩
  have HO1 := Lib.hid ho1
  have HG1 := Lib.hid hg1
  have hul := (By.uv_len n).1
  have HN1 : Hid (v1 ≠ .slice none 0 0) := Lib.hid (hn1 (by
    intro h
    have h2 := congrArg List.length h
    have := (By.uv_len n).2
    rw [List.length_append] at h2
    simp only [List.length_nil] at h2; omega))
  clear ho1 hg1 hn1
  go_wp2_with (at_builtin; refine wpList_append_rd _ rfl _ _ 26 rfl B 5 i0 (.int .u8 0) 1 1 Tryd.underlying26 hi hz0 hz1 hz2 rfl (by decide) v1 (l ++ By.uv n).length (u8s (l ++ By.uv n)) rfl HO1.out ba n cap (u8s d) rfl ?c0 HBA.out ?c1 (u8s_one d) ?c3 ?c4 ?c5 ?_)
  case c0 => rw [u8s_len, HN.out]; omega
  case c1 =>
    intro ad he j u hj
    have hjl : j < d.length := by have := (List.getElem?_eq_some_iff.1 hj).1; rw [u8s_len] at this; exact this
    rcases HR.out with h | ⟨b, o, e, hlt, hc⟩
    · rw [h] at hjl; simp at hjl
    · rw [he] at e; cases e
      have hblk := HG1.out.grown.block b hlt (fun e => HA.out b b o e.symm he (by intro h; rw [h] at hjl; simp at hjl) rfl)
      rw [addPl, World.cell?_of_block (w := w) hblk, hc j hjl, ← hj]
      unfold u8s; simp [hjl]
  case c3 => rw [List.length_append]; unfold maxLen; omega
  case c4 => rw [List.length_append]; omega
  case c5 => exact Nat.le_trans hB HG1.out.grown.size
  intro v2 w2 ho2 hg2 hn2
  have hown2 : Ow w2 B v2 (l ++ By.blob d) := by
    obtain rfl := HN.out
    unfold Ow By.blob
    rw [← List.append_assoc, u8s_app, show ((l ++ By.uv d.length) ++ d).length = l.length + (By.uv d.length).length + d.length by rw [List.length_append, List.length_append]]
    exact ho2
  have HO2 := Lib.hid hown2
  have HG2 := Lib.hid (HG1.out.trans hg2)
  have HN2 : Hid (v2 ≠ .slice none 0 0) := Lib.hid (fun e => HN1.out (hn2.1 e).1)
  clear ho2 hg2 hn2 hown2
  go_wp2
  go_ret
  exact ⟨_, rfl, HO2.out, HG2.out, fun _ => HN2.out⟩
end Go.Proofs.YtgamhgeiceakeaaDoor
