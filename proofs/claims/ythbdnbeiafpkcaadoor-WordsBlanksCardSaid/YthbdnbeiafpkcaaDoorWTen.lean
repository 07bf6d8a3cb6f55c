/- The chapter's examples: awake hands back true. -/
import Derived.Test.YthbdnbeiafpkcaaDoorWNine
set_option linter.unusedVariables false
namespace Go.Proofs.YthbdnbeiafpkcaaDoor
open Go.RowKit
theorem next1 : Wo.nextL [108, 101, 116, 32, 120] 0 = ⟨4, [108, 101, 116], 0, 1, 0, 3, 0, 0⟩ := by rfl
theorem aw1 (w : World) (hl : LaidW w) : Calls Tryd.prog 10 #[.string ⟨#[108, 101, 116, 32, 120]⟩, .int .i64 0] w fun e w' => e = .returned (.tuple #[.agg #[.int .u8 4, .string ⟨#[108, 101, 116]⟩, .int .i64 0, .int .i64 1, .int .i64 0, .int .i64 3], .agg #[.int .i64 0, .int .i64 0]]) ∧ Below w.heap.size w w' := by
  have c := next_any ⟨#[108, 101, 116, 32, 120]⟩ 0 w hl (by decide)
  rw [show (⟨#[108, 101, 116, 32, 120]⟩ : ByteArray).data.toList = [108, 101, 116, 32, 120] from rfl, next1] at c
  exact c
theorem next2 : Wo.nextL [97, 43, 43, 98] 1 = ⟨5, [43, 43], 0, 1, 1, 3, 0, 0⟩ := by rfl
theorem aw2 (w : World) (hl : LaidW w) : Calls Tryd.prog 10 #[.string ⟨#[97, 43, 43, 98]⟩, .int .i64 1] w fun e w' => e = .returned (.tuple #[.agg #[.int .u8 5, .string ⟨#[43, 43]⟩, .int .i64 0, .int .i64 1, .int .i64 1, .int .i64 3], .agg #[.int .i64 0, .int .i64 0]]) ∧ Below w.heap.size w w' := by
  have c := next_any ⟨#[97, 43, 43, 98]⟩ 1 w hl (by decide)
  rw [show (⟨#[97, 43, 43, 98]⟩ : ByteArray).data.toList = [97, 43, 43, 98] from rfl, next2] at c
  exact c
theorem next3 : Wo.nextL [49, 50] 1 = ⟨1, [], 2, 1, 1, 2, 0, 0⟩ := by rfl
theorem aw3 (w : World) (hl : LaidW w) : Calls Tryd.prog 10 #[.string ⟨#[49, 50]⟩, .int .i64 1] w fun e w' => e = .returned (.tuple #[.agg #[.int .u8 1, .string ⟨#[]⟩, .int .i64 2, .int .i64 1, .int .i64 1, .int .i64 2], .agg #[.int .i64 0, .int .i64 0]]) ∧ Below w.heap.size w w' := by
  have c := next_any ⟨#[49, 50]⟩ 1 w hl (by decide)
  rw [show (⟨#[49, 50]⟩ : ByteArray).data.toList = [49, 50] from rfl, next3] at c
  exact c
theorem next4 : Wo.nextL [57, 50, 50, 51, 51, 55, 50, 48, 51, 54, 56, 53, 52, 55, 55, 53, 56, 48, 56] 0 = ⟨0, [], 0, 0, 0, 0, 100, 1⟩ := by rfl
theorem aw4 (w : World) (hl : LaidW w) : Calls Tryd.prog 10 #[.string ⟨#[57, 50, 50, 51, 51, 55, 50, 48, 51, 54, 56, 53, 52, 55, 55, 53, 56, 48, 56]⟩, .int .i64 0] w fun e w' => e = .returned (.tuple #[.agg #[.int .u8 0, .string ⟨#[]⟩, .int .i64 0, .int .i64 0, .int .i64 0, .int .i64 0], .agg #[.int .i64 100, .int .i64 1]]) ∧ Below w.heap.size w w' := by
  have c := next_any ⟨#[57, 50, 50, 51, 51, 55, 50, 48, 51, 54, 56, 53, 52, 55, 55, 53, 56, 48, 56]⟩ 0 w hl (by decide)
  rw [show (⟨#[57, 50, 50, 51, 51, 55, 50, 48, 51, 54, 56, 53, 52, 55, 55, 53, 56, 48, 56]⟩ : ByteArray).data.toList = [57, 50, 50, 51, 51, 55, 50, 48, 51, 54, 56, 53, 52, 55, 55, 53, 56, 48, 56] from rfl, next4] at c
  exact c
theorem next5 : Wo.nextL [34, 97, 92, 120, 48, 48, 34] 0 = ⟨2, [97, 0], 0, 1, 0, 7, 0, 0⟩ := by rfl
theorem aw5 (w : World) (hl : LaidW w) : Calls Tryd.prog 10 #[.string ⟨#[34, 97, 92, 120, 48, 48, 34]⟩, .int .i64 0] w fun e w' => e = .returned (.tuple #[.agg #[.int .u8 2, .string ⟨#[97, 0]⟩, .int .i64 0, .int .i64 1, .int .i64 0, .int .i64 7], .agg #[.int .i64 0, .int .i64 0]]) ∧ Below w.heap.size w w' := by
  have c := next_any ⟨#[34, 97, 92, 120, 48, 48, 34]⟩ 0 w hl (by decide)
  rw [show (⟨#[34, 97, 92, 120, 48, 48, 34]⟩ : ByteArray).data.toList = [34, 97, 92, 120, 48, 48, 34] from rfl, next5] at c
  exact c
theorem awq (w : World) : Calls Tryd.prog 12 #[.string ⟨#[97, 255]⟩] w fun e w' => e = .returned (.string ⟨#[34, 97, 92, 120, 102, 102, 34]⟩) ∧ Below w.heap.size w w' := by
  have c := quote_any ⟨#[97, 255]⟩ w (by decide)
  unfold QuotePost at c
  rw [show (⟨#[97, 255]⟩ : ByteArray).data.toList = [97, 255] from rfl, show Wo.quoteL [97, 255] = [34, 97, 92, 120, 102, 102, 34] from rfl] at c
  exact c
theorem cells_two {w1 w2 : World} {A B : Array Value} {tA tB : TypeId} (hb : Below ((w1.alloc (.cells A tA)).alloc (.cells B tB)).heap.size ((w1.alloc (.cells A tA)).alloc (.cells B tB)) w2) :
    (∀ o, w2.cell? ⟨w1.heap.size, o, none⟩ = A[o]?) ∧ (∀ o, w2.cell? ⟨w1.heap.size + 1, o, none⟩ = B[o]?) ∧ w1.heap.size + 1 < w2.heap.size ∧ w1.heap.size < w2.heap.size ∧ Below w1.heap.size w1 w2 := by
  have hs := hb.size
  simp at hs
  have e1 : (w1.alloc (.cells A tA)).heap.size = w1.heap.size + 1 := by simp
  have h1 : ((w1.alloc (.cells A tA)).alloc (.cells B tB)).heap[w1.heap.size]? = some (.cells A tA (0, 0)) := by
    rw [Lib.alloc_old _ _ _ (by rw [e1]; omega)]; exact heap_alloc_new _ _
  have h2 : ((w1.alloc (.cells A tA)).alloc (.cells B tB)).heap[w1.heap.size + 1]? = some (.cells B tB (0, 0)) := by
    rw [← e1]; exact heap_alloc_new _ _
  refine ⟨fun o => ?_, fun o => ?_, by omega, by omega, (((Below.refl w1.heap.size w1).alloc (Nat.le_refl _) _).alloc (by rw [e1]; omega) _).trans (hb.mono (by simp; omega))⟩
  · rw [hb.cell (p := ⟨w1.heap.size, o, none⟩) (by simp; omega)]
    unfold World.cell?; simp only [h1]; rfl
  · rw [hb.cell (p := ⟨w1.heap.size + 1, o, none⟩) (by simp)]
    unfold World.cell?; simp only [h2]; rfl
def TruePost (w : World) (e : Ending) (w' : World) : Prop := e = .returned (.bool true) ∧ Below w.heap.size w w'
set_option maxHeartbeats 4000000 in
set_option maxRecDepth 100000 in
theorem awake_any (w : World) (hl : LaidW w) : Calls Tryd.prog 14 #[] w (TruePost w) := by
  have HW0 := Lib.hid hl
  clear hl
  have HB0 := Lib.hid (Below.refl w.heap.size w)
  go_enter Tryd.func14, Tryd.ntmps14
  go_wp2_with fail
  with_reducible refine (aw1 _ ?_).mono ?_
  · exact HW0.out
  rintro e w1 ⟨rfl, hb⟩
  have HW1 := Lib.hid (HW0.out.below hb (Nat.le_refl _))
  have HB1 := Lib.hid hb
  clear hb
  go_wp2_with fail
  with_reducible refine (aw2 _ ?_).mono ?_
  · exact (HW1.out.alloc _).alloc _
  rintro e w2 ⟨rfl, hb⟩
  have HW2 := Lib.hid (((HW1.out.alloc _).alloc _).below hb (Nat.le_refl _))
  have s2 : w1.heap.size + 1 < w2.heap.size := by have := hb.size; simp at this; omega
  have HB2 := Lib.hid (((HB1.out.alloc HB1.out.size _).alloc (by have := HB1.out.size; simp; omega) _).trans (hb.mono (by have := HB1.out.size; simp; omega)))
  have hc := (bcell hb).1
  clear hb
  have q1a0_2 : w2.cell? ⟨w1.heap.size, 0, none⟩ = some (.int .u8 4) := by rw [hc _ _ (by simp; try omega)]; go_simp
  have q1e0_2 : w2.cell? ⟨w1.heap.size + 1, 0, none⟩ = some (.int .i64 0) := by rw [hc _ _ (by simp; try omega)]; go_simp
  clear hc
  have t1_2 : w1.heap.size < w2.heap.size := by omega
  go_wp2_with fail
  with_reducible refine (aw3 _ ?_).mono ?_
  · exact (HW2.out.alloc _).alloc _
  rintro e w3 ⟨rfl, hb⟩
  have HW3 := Lib.hid (((HW2.out.alloc _).alloc _).below hb (Nat.le_refl _))
  have s3 : w2.heap.size + 1 < w3.heap.size := by have := hb.size; simp at this; omega
  have HB3 := Lib.hid (((HB2.out.alloc HB2.out.size _).alloc (by have := HB2.out.size; simp; omega) _).trans (hb.mono (by have := HB2.out.size; simp; omega)))
  have hc := (bcell hb).1
  clear hb
  have q1a0_3 : w3.cell? ⟨w1.heap.size, 0, none⟩ = some (.int .u8 4) := by rw [hc _ _ (by simp; try omega)]; go_simp
  have q1e0_3 : w3.cell? ⟨w1.heap.size + 1, 0, none⟩ = some (.int .i64 0) := by rw [hc _ _ (by simp; try omega)]; go_simp
  have q2a1_3 : w3.cell? ⟨w2.heap.size, 1, none⟩ = some (.string ⟨#[43, 43]⟩) := by rw [hc _ _ (by simp; try omega)]; go_simp
  have q2e0_3 : w3.cell? ⟨w2.heap.size + 1, 0, none⟩ = some (.int .i64 0) := by rw [hc _ _ (by simp; try omega)]; go_simp
  clear hc
  clear q1a0_2
  clear q1e0_2
  have t1_3 : w1.heap.size < w3.heap.size := by omega
  have u1_3 : w1.heap.size + 1 < w3.heap.size := by omega
  have t2_3 : w2.heap.size < w3.heap.size := by omega
  go_wp2_with fail
  with_reducible refine (aw4 _ ?_).mono ?_
  · exact (HW3.out.alloc _).alloc _
  rintro e w4 ⟨rfl, hb⟩
  have HW4 := Lib.hid (((HW3.out.alloc _).alloc _).below hb (Nat.le_refl _))
  have s4 : w3.heap.size + 1 < w4.heap.size := by have := hb.size; simp at this; omega
  have HB4 := Lib.hid (((HB3.out.alloc HB3.out.size _).alloc (by have := HB3.out.size; simp; omega) _).trans (hb.mono (by have := HB3.out.size; simp; omega)))
  have hc := (bcell hb).1
  clear hb
  have q1a0_4 : w4.cell? ⟨w1.heap.size, 0, none⟩ = some (.int .u8 4) := by rw [hc _ _ (by simp; try omega)]; go_simp
  have q1e0_4 : w4.cell? ⟨w1.heap.size + 1, 0, none⟩ = some (.int .i64 0) := by rw [hc _ _ (by simp; try omega)]; go_simp
  have q2a1_4 : w4.cell? ⟨w2.heap.size, 1, none⟩ = some (.string ⟨#[43, 43]⟩) := by rw [hc _ _ (by simp; try omega)]; go_simp
  have q2e0_4 : w4.cell? ⟨w2.heap.size + 1, 0, none⟩ = some (.int .i64 0) := by rw [hc _ _ (by simp; try omega)]; go_simp
  have q3a0_4 : w4.cell? ⟨w3.heap.size, 0, none⟩ = some (.int .u8 1) := by rw [hc _ _ (by simp; try omega)]; go_simp
  have q3a2_4 : w4.cell? ⟨w3.heap.size, 2, none⟩ = some (.int .i64 2) := by rw [hc _ _ (by simp; try omega)]; go_simp
  have q3e0_4 : w4.cell? ⟨w3.heap.size + 1, 0, none⟩ = some (.int .i64 0) := by rw [hc _ _ (by simp; try omega)]; go_simp
  clear hc
  clear q1a0_3
  clear q1e0_3
  clear q2a1_3
  clear q2e0_3
  have t1_4 : w1.heap.size < w4.heap.size := by omega
  have u1_4 : w1.heap.size + 1 < w4.heap.size := by omega
  have t2_4 : w2.heap.size < w4.heap.size := by omega
  have u2_4 : w2.heap.size + 1 < w4.heap.size := by omega
  have t3_4 : w3.heap.size < w4.heap.size := by omega
  go_wp2_with fail
  with_reducible refine (aw5 _ ?_).mono ?_
  · exact (HW4.out.alloc _).alloc _
  rintro e w5 ⟨rfl, hb⟩
  have HW5 := Lib.hid (((HW4.out.alloc _).alloc _).below hb (Nat.le_refl _))
  have s5 : w4.heap.size + 1 < w5.heap.size := by have := hb.size; simp at this; omega
  have HB5 := Lib.hid (((HB4.out.alloc HB4.out.size _).alloc (by have := HB4.out.size; simp; omega) _).trans (hb.mono (by have := HB4.out.size; simp; omega)))
  have hc := (bcell hb).1
  clear hb
  have q1a0_5 : w5.cell? ⟨w1.heap.size, 0, none⟩ = some (.int .u8 4) := by rw [hc _ _ (by simp; try omega)]; go_simp
  have q1e0_5 : w5.cell? ⟨w1.heap.size + 1, 0, none⟩ = some (.int .i64 0) := by rw [hc _ _ (by simp; try omega)]; go_simp
  have q2a1_5 : w5.cell? ⟨w2.heap.size, 1, none⟩ = some (.string ⟨#[43, 43]⟩) := by rw [hc _ _ (by simp; try omega)]; go_simp
  have q2e0_5 : w5.cell? ⟨w2.heap.size + 1, 0, none⟩ = some (.int .i64 0) := by rw [hc _ _ (by simp; try omega)]; go_simp
  have q3a0_5 : w5.cell? ⟨w3.heap.size, 0, none⟩ = some (.int .u8 1) := by rw [hc _ _ (by simp; try omega)]; go_simp
  have q3a2_5 : w5.cell? ⟨w3.heap.size, 2, none⟩ = some (.int .i64 2) := by rw [hc _ _ (by simp; try omega)]; go_simp
  have q3e0_5 : w5.cell? ⟨w3.heap.size + 1, 0, none⟩ = some (.int .i64 0) := by rw [hc _ _ (by simp; try omega)]; go_simp
  have q4e0_5 : w5.cell? ⟨w4.heap.size + 1, 0, none⟩ = some (.int .i64 100) := by rw [hc _ _ (by simp; try omega)]; go_simp
  have q4e1_5 : w5.cell? ⟨w4.heap.size + 1, 1, none⟩ = some (.int .i64 1) := by rw [hc _ _ (by simp; try omega)]; go_simp
  clear hc
  clear q1a0_4
  clear q1e0_4
  clear q2a1_4
  clear q2e0_4
  clear q3a0_4
  clear q3a2_4
  clear q3e0_4
  have t1_5 : w1.heap.size < w5.heap.size := by omega
  have u1_5 : w1.heap.size + 1 < w5.heap.size := by omega
  have t2_5 : w2.heap.size < w5.heap.size := by omega
  have u2_5 : w2.heap.size + 1 < w5.heap.size := by omega
  have t3_5 : w3.heap.size < w5.heap.size := by omega
  have u3_5 : w3.heap.size + 1 < w5.heap.size := by omega
  have t4_5 : w4.heap.size < w5.heap.size := by omega
  go_wp2_with fail
  with_reducible refine (awq _).mono ?_
  rintro e w6 ⟨rfl, hb⟩
  have HB6 := Lib.hid (((HB5.out.alloc HB5.out.size _).alloc (by have := HB5.out.size; simp; omega) _).trans (hb.mono (by have := HB5.out.size; simp; omega)))
  clear hb
  go_wp2
  go_ret
  exact ⟨rfl, HB6.out⟩
end Go.Proofs.YthbdnbeiafpkcaaDoor
