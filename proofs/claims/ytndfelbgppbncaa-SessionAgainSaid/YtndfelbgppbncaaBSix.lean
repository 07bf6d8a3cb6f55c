/- package bytes: blobs that are got and put, by contract. -/
import Derived.Test.YtndfelbgppbncaaBFive
set_option linter.unusedVariables false
namespace Go.Proofs.Ytndfelbgppbncaa
open Go.RowKit
/-- what GetBlob tells of what stands at a place -/
def GbPost (l : List UInt8) (at' most : Nat) (w : World) (e : Ending) (w' : World) : Prop :=
  ∃ v', e = .returned (.tuple #[v', .int .i64 (if (By.getBlob most (l.drop at')).2.2 = 0 then at' + (By.getBlob most (l.drop at')).2.1 else 0 : Nat), .int .i64 (By.getBlob most (l.drop at')).2.2]) ∧ Ow w' w.heap.size v' (By.getBlob most (l.drop at')).1 ∧ Below w.heap.size w w'
theorem gb_post {l : List UInt8} {at' most c er : Nat} {w w' : World} {v : Value} {d : List UInt8} {nx : Nat} (h : By.getBlob most (l.drop at') = (d, c, er)) (hx : nx = if er = 0 then at' + c else 0) (ho : Ow w' w.heap.size v d) (hb : Below w.heap.size w w') : GbPost l at' most w (.returned (.tuple #[v, .int .i64 nx, .int .i64 er])) w' := by
  unfold GbPost
  rw [h, hx]
  exact ⟨v, rfl, ho, hb⟩
set_option maxHeartbeats 1600000 in
set_option maxRecDepth 100000 in
theorem getBlob_any (ba : Option Addr) (n cap : Nat) (l : List UInt8) (at' most : Nat) (w : World) (hn : l.length = n) (hr : Rd w ba l) (hb : ba = none → n = 0) (ha : at' ≤ n) (hc : n ≤ cap) (hl : n ≤ 1099511627776) (hm : most ≤ 1099511627776) :
    Calls Try.prog 80 #[.slice ba n cap, .int .i64 at', .int .i64 most] w (GbPost l at' most w) := by
  have c1 := getUint_any ba n cap l at' w hn hr ha hl
  have hgl := By.gu_len (l.drop at')
  have hgb : By.getBlob most (l.drop at') = if (By.gu (l.drop at')).2.2 ≠ 0 then ([], 0, (By.gu (l.drop at')).2.2) else if most < (By.gu (l.drop at')).1 then ([], 0, 3) else if (l.drop at').length - (By.gu (l.drop at')).2.1 < (By.gu (l.drop at')).1 then ([], 0, 11) else
    (((l.drop at').drop (By.gu (l.drop at')).2.1).take (By.gu (l.drop at')).1, (By.gu (l.drop at')).2.1 + (By.gu (l.drop at')).1, 0) := rfl
  unfold GuPost at c1
  generalize By.gu (l.drop at') = r at c1 hgl hgb
  obtain ⟨N, c, er⟩ := r
  simp only at c1 hgl hgb
  rw [List.length_drop, hn] at hgl hgb
  have HR := Lib.hid hr
  have HN := Lib.hid hn
  by_cases he : er = 0
  · subst he
    obtain ⟨g1, g2⟩ := hgl rfl
    rw [if_neg (by simp)] at hgb
    simp only [if_true] at c1
    have C1 := Lib.hid c1
    have hnx : at' + c ≤ n := by omega
    have hN : 0 ≤ (N : Int) := by omega
    clear c1 hr hn hgl
    by_cases h1 : most < N
    · rw [if_pos h1] at hgb
      have HG := Lib.hid hgb
      have i1 : (most : Int) < (N : Int) := by omega
      clear hgb
      go_enter Try.func80, Try.ntmps80
      go_wp2_with fail
      with_reducible refine (C1.out).mono ?_
      rintro e w1 ⟨rfl, rfl⟩
      go_wp2
      go_ret3
      exact gb_post HG.out rfl (Ow.nil _ _) (Below.refl _ _)
    · rw [if_neg h1] at hgb
      have i1 : ¬ (most : Int) < (N : Int) := by omega
      by_cases h2 : n - at' - c < N
      · rw [if_pos h2] at hgb
        have HG := Lib.hid hgb
        have i2 : (n : Int) - ((at' + c : Nat) : Int) < (N : Int) := by omega
        clear hgb
        go_enter Try.func80, Try.ntmps80
        go_wp2_with fail
        with_reducible refine (C1.out).mono ?_
        rintro e w1 ⟨rfl, rfl⟩
        go_wp2
        go_ret3
        exact gb_post HG.out rfl (Ow.nil _ _) (Below.refl _ _)
      · rw [if_neg h2, List.drop_drop] at hgb
        obtain ⟨b, o, rfl, hlt, hcell⟩ : ∃ b o, ba = some (⟨b, o, none⟩ : Addr) ∧ b < w.heap.size ∧ ∀ i (h : i < l.length), w.cell? ⟨b, o + i, none⟩ = some (.int .u8 (l[i].toNat : Nat)) := by
          rcases HR.out with h | h
          · have := HN.out; rw [h] at this; simp at this; omega
          · exact h
        have HG := Lib.hid hgb
        have hlen : ((l.drop (at' + c)).take N).length = N := by rw [List.length_take, List.length_drop, HN.out]; omega
        have i2 : ¬ (n : Int) - ((at' : Int) + (c : Int)) < (N : Int) := by omega
        clear hgb hcell
        by_cases hcap : cap = at' + c
        · obtain rfl : N = 0 := by omega
          subst hcap
          have cl := clone_any (some ⟨b, o, none⟩) 0 0 ((l.drop (at' + c)).take 0) w hlen (Or.inl rfl) (fun h => by cases h) (by omega)
          have CL := Lib.hid cl
          clear cl hlen
          go_enter Try.func80, Try.ntmps80
          go_wp2_with fail
          with_reducible refine (C1.out).mono ?_
          rintro e w1 ⟨rfl, rfl⟩
          go_wp2_with fail
          with_reducible refine (CL.out).mono ?_
          rintro e w2 ⟨v2, rfl, ho2, hb2, _⟩
          have HO2 := Lib.hid ho2
          have HB2 := Lib.hid hb2
          clear ho2 hb2
          go_wp2
          go_ret3
          exact gb_post HG.out (by rw [if_pos rfl]; omega) HO2.out HB2.out
        · have cl := clone_any (some ⟨b, o + (at' + c), none⟩) N (cap - (at' + c)) ((l.drop (at' + c)).take N) w hlen (Rd.take (Rd.drop HR.out _) _) (fun h => by cases h) (by omega)
          have CL := Lib.hid cl
          clear cl hlen
          go_enter Try.func80, Try.ntmps80
          go_wp2_with fail
          with_reducible refine (C1.out).mono ?_
          rintro e w1 ⟨rfl, rfl⟩
          go_wp2_with fail
          with_reducible refine (CL.out).mono ?_
          rintro e w2 ⟨v2, rfl, ho2, hb2, _⟩
          have HO2 := Lib.hid ho2
          have HB2 := Lib.hid hb2
          clear ho2 hb2
          go_wp2
          go_ret3
          exact gb_post HG.out (by rw [if_pos rfl]; omega) HO2.out HB2.out
  · have HG : Hid (By.getBlob most (l.drop at') = ([], 0, er)) := Lib.hid (by rw [hgb, if_pos he])
    simp only [if_neg he] at c1
    have C1 := Lib.hid c1
    have hE : ((er : Int) != 0) = true := by rw [bne_iff_ne]; omega
    clear c1 hr hn hgl hgb
    go_enter Try.func80, Try.ntmps80
    go_wp2_with fail
    with_reducible refine (C1.out).mono ?_
    rintro e w1 ⟨rfl, rfl⟩
    go_wp2
    go_ret3
    exact gb_post HG.out (by rw [if_neg he]) (Ow.nil _ _) (Below.refl _ _)
set_option maxHeartbeats 1600000 in
set_option maxRecDepth 100000 in
theorem blobPut_any (B : Nat) (v : Value) (l : List UInt8) (ba : Option Addr) (n cap : Nat) (d : List UInt8) (w : World) (hn : d.length = n) (hr : Rd w ba d) (hb : ba = none → n = 0) (ho : Ow w B v l) (hB : B ≤ w.heap.size) (hl : l.length ≤ 549755813888) (hd : n ≤ 549755813888)
    (hap : ∀ i b o, v.ownBlock = some i → ba = some (⟨b, o, none⟩ : Addr) → d ≠ [] → b ≠ i) :
    Calls Try.prog 76 #[v, .slice ba n cap] w (OwPost B v (l ++ By.blob d) w) := by
  obtain ⟨i0, hi, hz0, hz1, hz2⟩ := info_parts Try.info_u8
  have HR := Lib.hid hr
  have HN := Lib.hid hn
  have HA := Lib.hid hap
  have HBA := Lib.hid hb
  have c1 := uint_any B v l n w (by omega) ho hB (by omega)
  have C1 := Lib.hid c1
  have HO := Lib.hid ho
  clear hr hn ho hap hb c1
  go_enter Try.func76, Try.ntmps76
  go_wp2_with fail
  with_reducible refine (C1.out).mono ?_
  rintro e w1 ⟨v1, rfl, ho1, hg1, hn1⟩
  have HO1 := Lib.hid ho1
  have HG1 := Lib.hid hg1
  have hul := (By.uv_len n).1
  have HN1 : Hid (v1 ≠ .slice none 0 0) := Lib.hid (hn1 (by
    intro h
    have h2 := congrArg List.length h
    have := (By.uv_len n).2
    rw [List.length_append] at h2
    simp only [List.length_nil] at h2; omega))
  clear ho1 hg1 hn1
  go_wp2_with (at_builtin; refine wpList_append_rd _ rfl _ _ 25 rfl B 5 i0 (.int .u8 0) 1 1 Try.underlying25 hi hz0 hz1 hz2 rfl (by decide) v1 (l ++ By.uv n).length (u8s (l ++ By.uv n)) rfl HO1.out ba n cap (u8s d) rfl ?c0 HBA.out ?c1 (u8s_one d) ?c3 ?c4 ?c5 ?_)
  case c0 => rw [u8s_len, HN.out]; omega
  case c1 =>
    intro ad he j u hj
    have hjl : j < d.length := by have := (List.getElem?_eq_some_iff.1 hj).1; rw [u8s_len] at this; exact this
    rcases HR.out with h | ⟨b, o, e, hlt, hc⟩
    · rw [h] at hjl; simp at hjl
    · rw [he] at e; cases e
      have hblk := HG1.out.grown.block b hlt (fun e => HA.out b b o e.symm he (by intro h; rw [h] at hjl; simp at hjl) rfl)
      rw [addPl, World.cell?_of_block (w := w) hblk, hc j hjl, ← hj]
      unfold u8s; simp [hjl]
  case c3 => rw [List.length_append]; unfold maxLen; omega
  case c4 => rw [List.length_append]; omega
  case c5 => exact Nat.le_trans hB HG1.out.grown.size
  intro v2 w2 ho2 hg2 hn2
  have hown2 : Ow w2 B v2 (l ++ By.blob d) := by
    obtain rfl := HN.out
    unfold Ow By.blob
    rw [← List.append_assoc, u8s_app, show ((l ++ By.uv d.length) ++ d).length = l.length + (By.uv d.length).length + d.length by rw [List.length_append, List.length_append]]
    exact ho2
  have HO2 := Lib.hid hown2
  have HG2 := Lib.hid (HG1.out.trans hg2)
  have HN2 : Hid (v2 ≠ .slice none 0 0) := Lib.hid (fun e => HN1.out (hn2.1 e).1)
  clear ho2 hg2 hn2 hown2
  go_wp2
  go_ret
  exact ⟨_, rfl, HO2.out, HG2.out, fun _ => HN2.out⟩
end Go.Proofs.Ytndfelbgppbncaa
