/- The document's own words: Next. -/
import Derived.Test.YthbdnbeiafpkcaaDoorWTellF
import Derived.Test.YthbdnbeiafpkcaaDoorWTellE
set_option linter.unusedVariables false
namespace Go.Proofs.YthbdnbeiafpkcaaDoor
open Go.RowKit
theorem signL_kind (l : List UInt8) (h : (Wo.signL l).len ≠ 0) : (Wo.signL l).kind ≠ 0 := by
  unfold Wo.signL at *
  split
  · show (5 : Nat) ≠ 0; decide
  · rename_i hn; rw [hn] at h; exact absurd rfl h
theorem foundL_kind0 (l : List UInt8) (h : (Wo.foundL l).len ≠ 0) : (Wo.foundL l).kind ≠ 0 := by
  cases l with
  | nil => exact absurd rfl h
  | cons c r =>
    unfold Wo.foundL at *
    simp only at *
    split
    · split
      · show (1 : Nat) ≠ 0; decide
      · rename_i h1 h2; rw [if_pos h1, if_neg h2] at h; exact absurd rfl h
    · rename_i h1
      rw [if_neg h1] at h
      split
      · show (2 : Nat) ≠ 0; decide
      · rename_i h2
        rw [if_neg h2] at h
        split
        · show (if _ then 4 else 3 : Nat) ≠ 0; split <;> decide
        · rename_i h3
          rw [if_neg h3] at h
          exact signL_kind _ h
theorem rnext_long (s : ByteArray) (at' : Int) (w : World) (h : 32768 < s.size) (hs : s.size ≤ maxLen) : Calls Tryd.prog 11 #[.string s, .int .i64 at'] w (NextPost ⟨0, [], 0, 0, 0, 0, 3, 0⟩ w) := by
  unfold maxLen at hs
  have b : (32768 : Int) < (s.size : Int) := by omega
  go_enter Tryd.func11, Tryd.ntmps11
  go_wp2
  exact bodyPost_ret (v := .tuple #[wordV 0 [] 0 0 0 0, .agg #[.int .i64 3, .int .i64 0]]) (by unfold wordV; simp [results, Tryd.results11, go_sem]) rfl ⟨rfl, ((Below.refl w.heap.size w).alloc (Nat.le_refl _) _).alloc (by simp) _⟩
theorem rnext_arg (s : ByteArray) (at' : Int) (w : World) (h : s.size ≤ 32768) (ha : at' < 0 ∨ (s.size : Int) < at') : Calls Tryd.prog 11 #[.string s, .int .i64 at'] w (NextPost ⟨0, [], 0, 0, 0, 0, 2, 0⟩ w) := by
  have b : ¬ (32768 : Int) < (s.size : Int) := by omega
  rcases ha with ha | ha
  · go_enter Tryd.func11, Tryd.ntmps11
    go_wp2
    exact bodyPost_ret (v := .tuple #[wordV 0 [] 0 0 0 0, .agg #[.int .i64 2, .int .i64 0]]) (by unfold wordV; simp [results, Tryd.results11, go_sem]) rfl ⟨rfl, ((Below.refl w.heap.size w).alloc (Nat.le_refl _) _).alloc (by simp) _⟩
  · have ha' : ¬ at' < 0 := by omega
    go_enter Tryd.func11, Tryd.ntmps11
    go_wp2
    exact bodyPost_ret (v := .tuple #[wordV 0 [] 0 0 0 0, .agg #[.int .i64 2, .int .i64 0]]) (by unfold wordV; simp [results, Tryd.results11, go_sem]) rfl ⟨rfl, ((Below.refl w.heap.size w).alloc (Nat.le_refl _) _).alloc (by simp) _⟩
set_option maxHeartbeats 1600000 in
set_option maxRecDepth 100000 in
theorem rnext_end (s : ByteArray) (a : Nat) (w : World) (h : s.size ≤ 32768) (ha : a ≤ s.size) (he : a + Wo.passL (s.data.toList.drop a) = s.size) :
    Calls Tryd.prog 11 #[.string s, .int .i64 a] w (NextPost ⟨6, [], 0, Wo.lineL s.data.toList s.size, s.size, s.size, 0, 0⟩ w) := by
  have b1 : ¬ (32768 : Int) < (s.size : Int) := by omega
  have b2 : ¬ (s.size : Int) < (a : Int) := by omega
  have b3 : ¬ (a : Int) < 0 := by omega
  have c1 := fun w => passed_any s a w ha (by omega)
  rw [he] at c1
  have c2 := fun w => rline_any s s.size w (Nat.le_refl _) (by omega)
  generalize Wo.lineL s.data.toList s.size = ln at c2
  have C1 := Lib.hid c1
  have C2 := Lib.hid c2
  clear c1 c2 he
  go_enter Tryd.func11, Tryd.ntmps11
  go_wp2_with fail
  with_reducible refine (C1.out _).mono ?_
  rintro e w' ⟨rfl, rfl⟩
  go_wp2_with fail
  with_reducible refine (C2.out _).mono ?_
  rintro e w' ⟨rfl, rfl⟩
  go_wp2
  exact bodyPost_ret (v := .tuple #[wordV 6 [] 0 ln s.size s.size, .agg #[.int .i64 0, .int .i64 0]]) (by unfold wordV; simp [results, Tryd.results11, go_sem]) rfl ⟨rfl, ((Below.refl w.heap.size w).alloc (Nat.le_refl _) _).alloc (by simp) _⟩
set_option maxHeartbeats 4000000 in
set_option maxRecDepth 100000 in
theorem rnext_tok (s : ByteArray) (a q : Nat) (w : World) (h : s.size ≤ 32768) (ha : a ≤ s.size) (hq : a + Wo.passL (s.data.toList.drop a) = q) (he : q < s.size) :
    Calls Tryd.prog 11 #[.string s, .int .i64 a] w (NextPost (if (Wo.foundL (s.data.toList.drop q)).len = 0 then ⟨0, [], 0, 0, 0, 0, 100, Wo.lineL s.data.toList q⟩ else ⟨(Wo.foundL (s.data.toList.drop q)).kind, (Wo.foundL (s.data.toList.drop q)).s, (Wo.foundL (s.data.toList.drop q)).n, Wo.lineL s.data.toList q, q, q + (Wo.foundL (s.data.toList.drop q)).len, 0, 0⟩) w) := by
  have b1 : ¬ (32768 : Int) < (s.size : Int) := by omega
  have b2 : ¬ (s.size : Int) < (a : Int) := by omega
  have b3 : ¬ (a : Int) < 0 := by omega
  have c1 := fun w => passed_any s a w ha (by omega)
  rw [hq] at c1
  have c2 := fun w => rline_any s q w (by omega) (by omega)
  generalize Wo.lineL s.data.toList q = ln at c2
  have c3 := fun w => one_any s q w he (by omega)
  have hk := foundL_kind0 (s.data.toList.drop q)
  unfold OnePost at c3
  generalize Wo.foundL (s.data.toList.drop q) = f at c3 hk
  obtain ⟨fk, fs, fn, fl⟩ := f
  simp only at c3 hk
  have he' : ((q : Int) == (s.size : Int)) = false := bneI (by omega)
  have C1 := Lib.hid c1
  have C2 := Lib.hid c2
  clear c1 c2 hq
  by_cases h0 : fl = 0
  · simp only [h0, if_true] at c3 ⊢
    unfold wordV at c3
    have C3 := Lib.hid c3
    clear c3 hk h0
    go_enter Tryd.func11, Tryd.ntmps11
    go_wp2_with fail
    with_reducible refine (C1.out _).mono ?_
    rintro e w' ⟨rfl, rfl⟩
    go_wp2_with fail
    with_reducible refine (C3.out _).mono ?_
    rintro e w1 ⟨rfl, hb⟩
    obtain ⟨hcc, hff⟩ := bcell hb
    have hz1 : w.heap.size < w1.heap.size := by have := hb.size; simp at this; omega
    have hz2 : w.heap.size + 1 < w1.heap.size := by have := hb.size; simp at this; omega
    have q0 : w1.cell? ⟨w.heap.size, 0, none⟩ = some (.int .u8 0) := by rw [hcc _ _ (by simp; try omega)]; go_simp
    have q1 : w1.cell? ⟨w.heap.size, 1, none⟩ = some (.string ⟨#[]⟩) := by rw [hcc _ _ (by simp; try omega)]; go_simp
    have q2 : w1.cell? ⟨w.heap.size, 2, none⟩ = some (.int .i64 0) := by rw [hcc _ _ (by simp; try omega)]; go_simp
    have q3 : w1.cell? ⟨w.heap.size, 3, none⟩ = some (.int .i64 0) := by rw [hcc _ _ (by simp; try omega)]; go_simp
    have q4 : w1.cell? ⟨w.heap.size, 4, none⟩ = some (.int .i64 0) := by rw [hcc _ _ (by simp; try omega)]; go_simp
    have q5 : w1.cell? ⟨w.heap.size, 5, none⟩ = some (.int .i64 0) := by rw [hcc _ _ (by simp; try omega)]; go_simp
    have r0 : w1.cell? ⟨w.heap.size + 1, 0, none⟩ = some (.int .i64 0) := by rw [hcc _ _ (by simp; try omega)]; go_simp
    have r1 : w1.cell? ⟨w.heap.size + 1, 1, none⟩ = some (.int .i64 0) := by rw [hcc _ _ (by simp; try omega)]; go_simp
    have HBW := Lib.hid ((((Below.refl w.heap.size w).alloc (Nat.le_refl _) _).alloc (by simp) _).trans (hb.mono (by simp; omega)))
    clear hb
    go_wp2_with fail
    with_reducible refine (C2.out _).mono ?_
    rintro e w' ⟨rfl, rfl⟩
    go_wp2
    exact bodyPost_ret (v := .tuple #[wordV 0 [] 0 0 0 0, .agg #[.int .i64 100, .int .i64 ln]]) (by unfold wordV results; rw [Tryd.results11]; go_simp) rfl ⟨rfl, by repeat (first | (with_reducible refine Below.alloc ?_ ?_ _; rotate_left; (simp; omega)) | (with_reducible refine Below.setCell ?_ ?_ _; rotate_left; simp) | with_reducible exact HBW.out)⟩
  · simp only [h0, if_false] at c3 ⊢
    have k0 : ((fk : Int) == 0) = false := bneI (by have := hk h0; omega)
    unfold wordV at c3
    have C3 := Lib.hid c3
    clear c3 hk h0
    go_enter Tryd.func11, Tryd.ntmps11
    go_wp2_with fail
    with_reducible refine (C1.out _).mono ?_
    rintro e w' ⟨rfl, rfl⟩
    go_wp2_with fail
    with_reducible refine (C3.out _).mono ?_
    rintro e w1 ⟨rfl, hb⟩
    obtain ⟨hcc, hff⟩ := bcell hb
    have hz1 : w.heap.size < w1.heap.size := by have := hb.size; simp at this; omega
    have hz2 : w.heap.size + 1 < w1.heap.size := by have := hb.size; simp at this; omega
    have q0 : w1.cell? ⟨w.heap.size, 0, none⟩ = some (.int .u8 0) := by rw [hcc _ _ (by simp; try omega)]; go_simp
    have q1 : w1.cell? ⟨w.heap.size, 1, none⟩ = some (.string ⟨#[]⟩) := by rw [hcc _ _ (by simp; try omega)]; go_simp
    have q2 : w1.cell? ⟨w.heap.size, 2, none⟩ = some (.int .i64 0) := by rw [hcc _ _ (by simp; try omega)]; go_simp
    have q3 : w1.cell? ⟨w.heap.size, 3, none⟩ = some (.int .i64 0) := by rw [hcc _ _ (by simp; try omega)]; go_simp
    have q4 : w1.cell? ⟨w.heap.size, 4, none⟩ = some (.int .i64 0) := by rw [hcc _ _ (by simp; try omega)]; go_simp
    have q5 : w1.cell? ⟨w.heap.size, 5, none⟩ = some (.int .i64 0) := by rw [hcc _ _ (by simp; try omega)]; go_simp
    have r0 : w1.cell? ⟨w.heap.size + 1, 0, none⟩ = some (.int .i64 0) := by rw [hcc _ _ (by simp; try omega)]; go_simp
    have r1 : w1.cell? ⟨w.heap.size + 1, 1, none⟩ = some (.int .i64 0) := by rw [hcc _ _ (by simp; try omega)]; go_simp
    have HBW := Lib.hid ((((Below.refl w.heap.size w).alloc (Nat.le_refl _) _).alloc (by simp) _).trans (hb.mono (by simp; omega)))
    clear hb
    go_wp2_with fail
    with_reducible refine (C2.out _).mono ?_
    rintro e w' ⟨rfl, rfl⟩
    go_wp2
    exact bodyPost_ret (v := .tuple #[wordV fk fs fn ln q (q + fl), .agg #[.int .i64 0, .int .i64 0]]) (by unfold wordV results; rw [Tryd.results11]; go_simp) rfl ⟨rfl, by repeat (first | (with_reducible refine Below.alloc ?_ ?_ _; rotate_left; (simp; omega)) | (with_reducible refine Below.setCell ?_ ?_ _; rotate_left; simp) | with_reducible exact HBW.out)⟩
theorem rnext_any (s : ByteArray) (at' : Int) (w : World) (hs : s.size ≤ maxLen) : Calls Tryd.prog 11 #[.string s, .int .i64 at'] w (NextPost (Wo.nextL s.data.toList at') w) := by
  have hsz : s.data.toList.length = s.size := rfl
  unfold Wo.nextL
  rw [hsz]
  by_cases h : 32768 < s.size
  · rw [if_pos h]; exact rnext_long s at' w h hs
  · rw [if_neg h]
    by_cases ha : at' < 0 ∨ (s.size : Int) < at'
    · rw [if_pos ha]; exact rnext_arg s at' w (by omega) ha
    · rw [if_neg ha]
      obtain ⟨a, rfl⟩ := Int.eq_ofNat_of_zero_le (show 0 ≤ at' by omega)
      rw [Int.toNat_natCast]
      have hle := Wo.passL_le (s.data.toList.drop a)
      rw [List.length_drop, hsz] at hle
      simp only
      by_cases he : a + Wo.passL (s.data.toList.drop a) = s.size
      · rw [if_pos he, he]
        exact rnext_end s a w (by omega) (by omega) he
      · rw [if_neg he]
        exact rnext_tok s a _ w (by omega) (by omega) rfl (by omega)
end Go.Proofs.YthbdnbeiafpkcaaDoor
