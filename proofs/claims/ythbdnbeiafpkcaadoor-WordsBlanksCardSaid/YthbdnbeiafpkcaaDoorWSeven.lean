/- The token at a place of a text, by contract. -/
import Derived.Test.YthbdnbeiafpkcaaDoorWSix
set_option linter.unusedVariables false
namespace Go.Proofs.YthbdnbeiafpkcaaDoor
open Go.RowKit
def NextPost (r : Wo.Wd) (w : World) (e : Ending) (w' : World) : Prop := e = .returned (.tuple #[wordV r.kind r.s r.n r.line r.at' r.end', .agg #[.int .i64 r.err, .int .i64 r.fline]]) ∧ Below w.heap.size w w'
theorem next_long (s : ByteArray) (at' : Int) (w : World) (h : 32768 < s.size) (hs : s.size ≤ maxLen) : Calls Tryd.prog 10 #[.string s, .int .i64 at'] w (NextPost ⟨0, [], 0, 0, 0, 0, 3, 0⟩ w) := by
  unfold maxLen at hs
  have b : (32768 : Int) < (s.size : Int) := by omega
  go_enter Tryd.func10, Tryd.ntmps10
  go_wp2
  exact bodyPost_ret (v := .tuple #[wordV 0 [] 0 0 0 0, .agg #[.int .i64 3, .int .i64 0]]) (by unfold wordV; simp [results, Tryd.results10, go_sem]) rfl ⟨rfl, ((Below.refl w.heap.size w).alloc (Nat.le_refl _) _).alloc (by simp) _⟩
theorem next_arg (s : ByteArray) (at' : Int) (w : World) (h : s.size ≤ 32768) (ha : at' < 0 ∨ (s.size : Int) < at') : Calls Tryd.prog 10 #[.string s, .int .i64 at'] w (NextPost ⟨0, [], 0, 0, 0, 0, 2, 0⟩ w) := by
  have b : ¬ (32768 : Int) < (s.size : Int) := by omega
  rcases ha with ha | ha
  · go_enter Tryd.func10, Tryd.ntmps10
    go_wp2
    exact bodyPost_ret (v := .tuple #[wordV 0 [] 0 0 0 0, .agg #[.int .i64 2, .int .i64 0]]) (by unfold wordV; simp [results, Tryd.results10, go_sem]) rfl ⟨rfl, ((Below.refl w.heap.size w).alloc (Nat.le_refl _) _).alloc (by simp) _⟩
  · have ha' : ¬ at' < 0 := by omega
    go_enter Tryd.func10, Tryd.ntmps10
    go_wp2
    exact bodyPost_ret (v := .tuple #[wordV 0 [] 0 0 0 0, .agg #[.int .i64 2, .int .i64 0]]) (by unfold wordV; simp [results, Tryd.results10, go_sem]) rfl ⟨rfl, ((Below.refl w.heap.size w).alloc (Nat.le_refl _) _).alloc (by simp) _⟩
set_option maxHeartbeats 1600000 in
set_option maxRecDepth 100000 in
theorem next_end (s : ByteArray) (a n : Nat) (w : World) (h : s.size ≤ 32768) (ha : a ≤ s.size) (hn : Wo.passL (s.data.toList.drop a) = n) (he : a + n = s.size) :
    Calls Tryd.prog 10 #[.string s, .int .i64 a] w (NextPost ⟨6, [], 0, Wo.lineL s.data.toList s.size, s.size, s.size, 0, 0⟩ w) := by
  have b1 : ¬ (32768 : Int) < (s.size : Int) := by omega
  have b2 : ¬ (s.size : Int) < (a : Int) := by omega
  have b3 : ¬ (a : Int) < 0 := by omega
  have c1 := fun w => pass_any (s.extract a s.size) w (by simp; unfold maxLen; omega)
  rw [dropS, hn] at c1
  have c2 := fun w => Tryd.strings_Count_one (s.extract 0 (a + n)) 10 w
  rw [takeS] at c2
  unfold Lib.countByte at c2
  have hc : (s.data.toList.take (a + n)).count 10 ≤ s.size := by
    have h1 := List.count_le_length (a := (10 : UInt8)) (l := s.data.toList.take (a + n))
    have h2 : (s.data.toList.take (a + n)).length ≤ s.size := by rw [List.length_take]; have : s.data.toList.length = s.size := rfl; omega
    omega
  have hl : Wo.lineL s.data.toList s.size = 1 + (s.data.toList.take (a + n)).count 10 := by unfold Wo.lineL; rw [he]
  generalize Wo.lineL s.data.toList s.size = ln at hl
  generalize (s.data.toList.take (a + n)).count 10 = q at c2 hc hl
  have C1 := Lib.hid c1
  have C2 := Lib.hid c2
  have HL := Lib.hid hl
  have he' : ((a : Int) + (n : Int) == (s.size : Int)) = true := by rw [beq_iff_eq]; omega
  have he2 : a + n ≤ s.size := by omega
  have HE := Lib.hid he
  clear c1 c2 hl he hn
  go_enter Tryd.func10, Tryd.ntmps10
  go_wp2_with fail
  with_reducible refine (C1.out _).mono ?_
  rintro e w' ⟨rfl, rfl⟩
  go_wp2_with fail
  with_reducible refine (C2.out _).mono ?_
  rintro e w' ⟨rfl, rfl⟩
  go_wp2
  exact bodyPost_ret (v := .tuple #[wordV 6 [] 0 ln s.size s.size, .agg #[.int .i64 0, .int .i64 0]]) (by unfold wordV; simp [results, Tryd.results10, go_sem]; have h1 := HL.out; have h2 := HE.out; omega) rfl ⟨rfl, ((Below.refl w.heap.size w).alloc (Nat.le_refl _) _).alloc (by simp) _⟩
set_option maxHeartbeats 1600000 in
set_option maxRecDepth 100000 in
theorem next_tok (s : ByteArray) (a n : Nat) (f : Wo.Tok) (w : World) (hl : LaidW w) (h : s.size ≤ 32768) (ha : a ≤ s.size) (hn : Wo.passL (s.data.toList.drop a) = n) (he : a + n < s.size) (hf : Wo.foundL (s.data.toList.drop (a + n)) = f) (hfl : f.len ≤ s.size) :
    Calls Tryd.prog 10 #[.string s, .int .i64 a] w (NextPost (if f.len = 0 then ⟨0, [], 0, 0, 0, 0, 100, Wo.lineL s.data.toList (a + n)⟩ else ⟨f.kind, f.s, f.n, Wo.lineL s.data.toList (a + n), a + n, a + n + f.len, 0, 0⟩) w) := by
  have b1 : ¬ (32768 : Int) < (s.size : Int) := by omega
  have b2 : ¬ (s.size : Int) < (a : Int) := by omega
  have b3 : ¬ (a : Int) < 0 := by omega
  have c1 := fun w => pass_any (s.extract a s.size) w (by simp; unfold maxLen; omega)
  rw [dropS, hn] at c1
  have c2 := fun w => Tryd.strings_Count_one (s.extract 0 (a + n)) 10 w
  rw [takeS] at c2
  unfold Lib.countByte at c2
  have hc : (s.data.toList.take (a + n)).count 10 ≤ s.size := by
    have h1 := List.count_le_length (a := (10 : UInt8)) (l := s.data.toList.take (a + n))
    have h2 : (s.data.toList.take (a + n)).length ≤ s.size := by rw [List.length_take]; have : s.data.toList.length = s.size := rfl; omega
    omega
  have hl1 : Wo.lineL s.data.toList (a + n) = 1 + (s.data.toList.take (a + n)).count 10 := rfl
  have c3 := fun w hw => found_any (s.extract (a + n) s.size) w hw (by simp; omega) (by simp; omega)
  rw [dropS, hf] at c3
  unfold FoundPost wordV at c3
  generalize Wo.lineL s.data.toList (a + n) = ln at hl1
  generalize (s.data.toList.take (a + n)).count 10 = q at c2 hc hl1
  obtain ⟨fk, fs, fn, fl⟩ := f
  have C1 := Lib.hid c1
  have C2 := Lib.hid c2
  have C3 := Lib.hid c3
  have HL := Lib.hid hl1
  have HW := Lib.hid hl
  have he' : ((a : Int) + (n : Int) == (s.size : Int)) = false := by rw [beq_eq_false_iff_ne]; omega
  have he2 : a + n ≤ s.size := by omega
  simp only at hfl
  clear c1 c2 c3 hl hl1 he hn hf
  by_cases h0 : fl = 0
  · simp only [h0, if_true]
    have k0 : ((fl : Int) == 0) = true := beqI (by omega)
    clear h0
    go_enter Tryd.func10, Tryd.ntmps10
    go_wp2_with fail
    with_reducible refine (C1.out _).mono ?_
    rintro e w' ⟨rfl, rfl⟩
    go_wp2_with fail
    with_reducible refine (C2.out _).mono ?_
    rintro e w' ⟨rfl, rfl⟩
    go_wp2_with fail
    with_reducible refine (C3.out _ ?_).mono ?_
    · exact (HW.out.alloc _).alloc _
    rintro e w1 ⟨rfl, hb⟩
    obtain ⟨hcc, hff⟩ := bcell hb
    have hz1 : w.heap.size < w1.heap.size := by have := hb.size; simp at this; omega
    have hz2 : w.heap.size + 1 < w1.heap.size := by have := hb.size; simp at this; omega
    have q0 : w1.cell? ⟨w.heap.size, 0, none⟩ = some (.int .u8 0) := by rw [hcc _ _ (by simp; try omega)]; go_simp
    have q1 : w1.cell? ⟨w.heap.size, 1, none⟩ = some (.string ⟨#[]⟩) := by rw [hcc _ _ (by simp; try omega)]; go_simp
    have q2 : w1.cell? ⟨w.heap.size, 2, none⟩ = some (.int .i64 0) := by rw [hcc _ _ (by simp; try omega)]; go_simp
    have q3 : w1.cell? ⟨w.heap.size, 3, none⟩ = some (.int .i64 0) := by rw [hcc _ _ (by simp; try omega)]; go_simp
    have q4 : w1.cell? ⟨w.heap.size, 4, none⟩ = some (.int .i64 0) := by rw [hcc _ _ (by simp; try omega)]; go_simp
    have q5 : w1.cell? ⟨w.heap.size, 5, none⟩ = some (.int .i64 0) := by rw [hcc _ _ (by simp; try omega)]; go_simp
    have r0 : w1.cell? ⟨w.heap.size + 1, 0, none⟩ = some (.int .i64 0) := by rw [hcc _ _ (by simp; try omega)]; go_simp
    have r1 : w1.cell? ⟨w.heap.size + 1, 1, none⟩ = some (.int .i64 0) := by rw [hcc _ _ (by simp; try omega)]; go_simp
    have HBW := Lib.hid ((((Below.refl w.heap.size w).alloc (Nat.le_refl _) _).alloc (by simp) _).trans (hb.mono (by simp; omega)))
    clear hb
    go_wp2
    exact bodyPost_ret (v := .tuple #[wordV 0 [] 0 0 0 0, .agg #[.int .i64 100, .int .i64 ln]]) (by unfold wordV results; rw [Tryd.results10]; go_simp; have h1 := HL.out; omega) rfl ⟨rfl, by repeat (first | (with_reducible refine Below.alloc ?_ ?_ _; rotate_left; (simp; omega)) | (with_reducible refine Below.setCell ?_ ?_ _; rotate_left; simp) | with_reducible exact HBW.out)⟩
  · simp only [h0, if_false]
    have k0 : ((fl : Int) == 0) = false := bneI (by omega)
    clear h0
    go_enter Tryd.func10, Tryd.ntmps10
    go_wp2_with fail
    with_reducible refine (C1.out _).mono ?_
    rintro e w' ⟨rfl, rfl⟩
    go_wp2_with fail
    with_reducible refine (C2.out _).mono ?_
    rintro e w' ⟨rfl, rfl⟩
    go_wp2_with fail
    with_reducible refine (C3.out _ ?_).mono ?_
    · exact (HW.out.alloc _).alloc _
    rintro e w1 ⟨rfl, hb⟩
    obtain ⟨hcc, hff⟩ := bcell hb
    have hz1 : w.heap.size < w1.heap.size := by have := hb.size; simp at this; omega
    have hz2 : w.heap.size + 1 < w1.heap.size := by have := hb.size; simp at this; omega
    have q0 : w1.cell? ⟨w.heap.size, 0, none⟩ = some (.int .u8 0) := by rw [hcc _ _ (by simp; try omega)]; go_simp
    have q1 : w1.cell? ⟨w.heap.size, 1, none⟩ = some (.string ⟨#[]⟩) := by rw [hcc _ _ (by simp; try omega)]; go_simp
    have q2 : w1.cell? ⟨w.heap.size, 2, none⟩ = some (.int .i64 0) := by rw [hcc _ _ (by simp; try omega)]; go_simp
    have q3 : w1.cell? ⟨w.heap.size, 3, none⟩ = some (.int .i64 0) := by rw [hcc _ _ (by simp; try omega)]; go_simp
    have q4 : w1.cell? ⟨w.heap.size, 4, none⟩ = some (.int .i64 0) := by rw [hcc _ _ (by simp; try omega)]; go_simp
    have q5 : w1.cell? ⟨w.heap.size, 5, none⟩ = some (.int .i64 0) := by rw [hcc _ _ (by simp; try omega)]; go_simp
    have r0 : w1.cell? ⟨w.heap.size + 1, 0, none⟩ = some (.int .i64 0) := by rw [hcc _ _ (by simp; try omega)]; go_simp
    have r1 : w1.cell? ⟨w.heap.size + 1, 1, none⟩ = some (.int .i64 0) := by rw [hcc _ _ (by simp; try omega)]; go_simp
    have HBW := Lib.hid ((((Below.refl w.heap.size w).alloc (Nat.le_refl _) _).alloc (by simp) _).trans (hb.mono (by simp; omega)))
    clear hb
    go_wp2
    exact bodyPost_ret (v := .tuple #[wordV fk fs fn ln (a + n) (a + n + fl), .agg #[.int .i64 0, .int .i64 0]]) (by unfold wordV results; rw [Tryd.results10]; go_simp; have h1 := HL.out; omega) rfl ⟨rfl, by repeat (first | (with_reducible refine Below.alloc ?_ ?_ _; rotate_left; (simp; omega)) | (with_reducible refine Below.setCell ?_ ?_ _; rotate_left; simp) | with_reducible exact HBW.out)⟩
theorem next_any (s : ByteArray) (at' : Int) (w : World) (hl : LaidW w) (hs : s.size ≤ maxLen) : Calls Tryd.prog 10 #[.string s, .int .i64 at'] w (NextPost (Wo.nextL s.data.toList at') w) := by
  have hsz : s.data.toList.length = s.size := rfl
  unfold Wo.nextL
  rw [hsz]
  by_cases h : 32768 < s.size
  · rw [if_pos h]; exact next_long s at' w h hs
  · rw [if_neg h]
    by_cases ha : at' < 0 ∨ (s.size : Int) < at'
    · rw [if_pos ha]; exact next_arg s at' w (by omega) ha
    · rw [if_neg ha]
      obtain ⟨a, rfl⟩ := Int.eq_ofNat_of_zero_le (show 0 ≤ at' by omega)
      rw [Int.toNat_natCast]
      have hle := Wo.passL_le (s.data.toList.drop a)
      rw [List.length_drop, hsz] at hle
      simp only
      by_cases he : a + Wo.passL (s.data.toList.drop a) = s.size
      · rw [if_pos he, he]
        exact next_end s a _ w (by omega) (by omega) rfl he
      · rw [if_neg he]
        have hfl := Wo.foundL_len (s.data.toList.drop (a + Wo.passL (s.data.toList.drop a)))
        rw [List.length_drop, hsz] at hfl
        exact next_tok s a _ _ w hl (by omega) (by omega) rfl (by omega) rfl (by omega)
end Go.Proofs.YthbdnbeiafpkcaaDoor
