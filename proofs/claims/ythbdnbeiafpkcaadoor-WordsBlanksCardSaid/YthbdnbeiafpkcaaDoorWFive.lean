/- The token that a text begins with, by contract. -/
import Derived.Test.YthbdnbeiafpkcaaDoorWFour
import Derived.Test.YthbdnbeiafpkcaaDoorWSpecb
import Derived.Lib.SmallJoins
import Derived.Lib.LaidTab
set_option linter.unusedVariables false
namespace Go.Proofs.YthbdnbeiafpkcaaDoor
open Go.RowKit
/-- what the variables of Go's library hold -/
structure LaidW (w : World) : Prop where
  tab : Lib.TabIs Tryd.prog w "strings.asciiSpace" .u8 Lib.asciiSpaceTab
  rng : ∃ tp p, w.var? Tryd.prog "strconv.ErrRange" = some #[.iface tp p]
theorem LaidW.below {B : Nat} {w w' : World} (h : LaidW w) (hb : Below B w w') (hB : w.heap.size ≤ B) : LaidW w' := by
  obtain ⟨tp, p, hr⟩ := h.rng
  exact ⟨Go.Joins.var_stays (g := 0) (by kernel_rfl) h.tab hb hB, tp, p, Go.Joins.var_stays (g := 4) (by kernel_rfl) hr hb hB⟩
theorem LaidW.alloc {w : World} (h : LaidW w) (o : Obj) : LaidW (w.alloc o) := h.below ((Below.refl w.heap.size w).alloc (Nat.le_refl _) o) (Nat.le_refl _)
theorem var_alloc {w : World} {x : Array Value} (h : w.var? Tryd.prog "strconv.ErrRange" = some x) (o : Obj) : (w.alloc o).var? Tryd.prog "strconv.ErrRange" = some x :=
  Go.Joins.var_stays (g := 4) (by kernel_rfl) h ((Below.refl w.heap.size w).alloc (Nat.le_refl _) o) (Nat.le_refl _)
theorem bcell {W w1 : World} (hb : Below W.heap.size W w1) : (∀ b o, b < W.heap.size → w1.cell? ⟨b, o, none⟩ = W.cell? ⟨b, o, none⟩) ∧ (∀ b o, b < W.heap.size → w1.frozen? ⟨b, o, none⟩ = W.frozen? ⟨b, o, none⟩) :=
  ⟨fun b o h => hb.cell (p := ⟨b, o, none⟩) h, fun b o h => hb.frozen (p := ⟨b, o, none⟩) h⟩
def wordV (kind : Nat) (s : List UInt8) (n : Nat) (line at' en : Nat) : Value := .agg #[.int .u8 kind, .string ⟨s.toArray⟩, .int .i64 n, .int .i64 line, .int .i64 at', .int .i64 en]
theorem takeS (s : ByteArray) (n : Nat) : (s.extract 0 n).data.toList = s.data.toList.take n := by
  simp [ByteArray.extract, ByteArray.copySlice]
def keysBlk : Obj := .cells ((Wo.keys.map fun l => Value.string ⟨l.toArray⟩).toArray) 9
theorem fields_any (t : ByteArray) (ht : t.data.toList = Wo.keysText) (w : World) (h : Lib.TabIs Tryd.prog w "strings.asciiSpace" .u8 Lib.asciiSpaceTab) :
    Calls Tryd.prog 16 #[.string t] w fun e w' => e = .returned (.slice (some ⟨w.heap.size, 0, none⟩) 18 18) ∧ w' = w.alloc keysBlk := by
  have hsz : t.size < 4294967281 := by
    have : t.data.toList.length = t.size := rfl
    rw [ht] at this; rw [← this]; decide
  have c := Tryd.strings_Fields t w hsz (by rw [ht]; exact Wo.keys_ascii) h
  rw [ht, Wo.keys_fields] at c
  exact c
theorem contains_keys (x : ByteArray) (b : Nat) (w : World) (h : w.heap[b]? = some keysBlk) :
    Calls Tryd.prog 44 #[.slice (some ⟨b, 0, none⟩) 18 18, .string x] w fun e w' => e = .returned (.bool (Wo.keys.contains x.data.toList)) ∧ w' = w := by
  have c := Tryd.slices_Contains_string b 0 18 18 (Wo.keys.map fun l => (⟨l.toArray⟩ : ByteArray)) x w (by decide) (by decide) (fun j hj => by
    have e : w.cell? ⟨b, 0 + j, none⟩ = ((Wo.keys.map fun l => Value.string ⟨l.toArray⟩).toArray)[j]? := by
      unfold keysBlk at h
      rw [Nat.zero_add]; simp [World.cell?, h]
    rw [e]
    have hj' : j < Wo.keys.length := by simpa using hj
    simp [List.getD, hj'])
  rw [show (Wo.keys.map fun l => (⟨l.toArray⟩ : ByteArray)).take 18 = Wo.keys.map fun l => (⟨l.toArray⟩ : ByteArray) from rfl, Wo.keys_has] at c
  exact c
theorem contains_take (s : ByteArray) (n : Nat) (kb : Bool) (hk : Wo.keys.contains (s.data.toList.take n) = kb) (b : Nat) (w : World) (h : w.heap[b]? = some keysBlk) :
    Calls Tryd.prog 44 #[.slice (some ⟨b, 0, none⟩) 18 18, .string (s.extract 0 n)] w fun e w' => e = .returned (.bool kb) ∧ w' = w := by
  have c := contains_keys (s.extract 0 n) b w h
  rw [takeS, hk] at c
  exact c
theorem heap_two (w : World) (o : Obj) : ((w.alloc o).alloc keysBlk).heap[w.heap.size + 1]? = some keysBlk := by
  have : (w.alloc o).heap.size = w.heap.size + 1 := by simp
  rw [← this]; exact heap_alloc_new _ _
def FoundPost (f : Wo.Tok) (w : World) (e : Ending) (w' : World) : Prop := e = .returned (.tuple #[wordV f.kind f.s f.n 0 0 0, .int .i64 f.len]) ∧ Below w.heap.size w w'
theorem below6 {w w1 : World} (h : Below w.heap.size w w1) (a b c d e f : Value) : Below w.heap.size w ((((((w1.setCell ⟨w.heap.size, 0, none⟩ a).setCell ⟨w.heap.size, 1, none⟩ b).setCell ⟨w.heap.size, 2, none⟩ c).setCell ⟨w.heap.size, 3, none⟩ d).setCell ⟨w.heap.size, 4, none⟩ e).setCell ⟨w.heap.size, 5, none⟩ f) :=
  (((((h.setCell (p := ⟨w.heap.size, 0, none⟩) (Nat.le_refl _) _).setCell (p := ⟨w.heap.size, 1, none⟩) (Nat.le_refl _) _).setCell (p := ⟨w.heap.size, 2, none⟩) (Nat.le_refl _) _).setCell (p := ⟨w.heap.size, 3, none⟩) (Nat.le_refl _) _).setCell (p := ⟨w.heap.size, 4, none⟩) (Nat.le_refl _) _).setCell (p := ⟨w.heap.size, 5, none⟩) (Nat.le_refl _) _
theorem below_from {w w1 : World} {o : Obj} (h : Below (w.alloc o).heap.size (w.alloc o) w1) : Below w.heap.size w w1 :=
  ((Below.refl w.heap.size w).alloc (Nat.le_refl _) o).trans (h.mono (by simp))
theorem size_from {w w1 : World} {o : Obj} (h : Below (w.alloc o).heap.size (w.alloc o) w1) : w.heap.size + 1 ≤ w1.heap.size := by
  have := h.size; simp at this; exact this
set_option maxHeartbeats 1600000 in
set_option maxRecDepth 1000000 in
theorem found_range (s : ByteArray) (w : World) (hl : LaidW w) (h1 : 1 ≤ s.size) (hs : s.size ≤ 1048576) (hd : Wo.isDigit s[0] = true) (hr : ¬ Wo.decL (s.data.toList.take (Wo.runL Wo.isDigit s.data.toList)) < 9223372036854775808) :
    Calls Tryd.prog 20 #[.string s] w (FoundPost Wo.noTok w) := by
  have b1 : (0 : Int) < (s.size : Int) := by omega
  have b2 : 0 < s.size := by omega
  have hle := Wo.runL_le Wo.isDigit s.data.toList
  rw [Array.length_toList] at hle
  have hle' : Wo.runL Wo.isDigit s.data.toList ≤ s.size := hle
  have hpos : 1 ≤ Wo.runL Wo.isDigit s.data.toList := by
    have := Wo.runL_at Wo.isDigit s.data.toList 0 h1
    rw [List.drop_zero, if_pos (show Wo.isDigit s.data.toList[0] = true from hd)] at this
    omega
  have hall := Wo.runL_all Wo.isDigit s.data.toList
  have hrun := fun w => run_digit s w (by unfold maxLen; omega)
  generalize Wo.runL Wo.isDigit s.data.toList = n at *
  have hp := Wo.parse_digits (s.data.toList.take n) (by intro h; have := congrArg List.length h; rw [List.length_take, Array.length_toList] at this; have e : s.data.size = s.size := rfl; rw [e] at this; simp only [List.length_nil] at this; omega) hall
  rw [if_neg hr, ← takeS] at hp
  obtain ⟨tp, p, hv⟩ := hl.rng
  have c2 := fun w hv => Tryd.strconv_ParseInt_10_at64_range_var (s.extract 0 n) (by simp; omega) hp tp p w hv
  have C2 := Lib.hid c2
  have HD := Lib.hid hd
  have HR := Lib.hid hrun
  have HV := Lib.hid (var_alloc hv (.cells #[.int .u8 0, .string ⟨#[]⟩, .int .i64 0, .int .i64 0, .int .i64 0, .int .i64 0] 24))
  clear hle c2 hr hall hp hd hv hrun
  go_enter Tryd.func20, Tryd.ntmps20
  go_wp2_with fail
  with_reducible refine (digit_any _ _).mono ?_
  rintro e w' ⟨rfl, rfl⟩
  have hd := HD.out
  go_wp2_with fail
  with_reducible refine (HR.out _).mono ?_
  rintro e w' ⟨rfl, rfl⟩
  go_wp2_with fail
  with_reducible refine (C2.out _ ?_).mono ?_
  · exact HV.out
  rintro e w1 ⟨N, rfl, hN, hcell, hb⟩
  have HC := Lib.hid hcell
  have HN := Lib.hid hN
  obtain ⟨hc, hf⟩ := bcell hb
  have hz := size_from hb
  have HB := Lib.hid (below_from hb)
  clear hcell hN hb
  go_wp2
  exact bodyPost_ret (v := .tuple #[wordV 0 [] 0 0 0 0, .int .i64 0]) (by unfold wordV; simp [results, Tryd.results20, go_sem, hc]) rfl ⟨rfl, below6 HB.out _ _ _ _ _ _⟩
set_option maxHeartbeats 1600000 in
set_option maxRecDepth 1000000 in
theorem found_int (s : ByteArray) (w : World) (hl : LaidW w) (h1 : 1 ≤ s.size) (hs : s.size ≤ 1048576) (hd : Wo.isDigit s[0] = true) (hr : Wo.decL (s.data.toList.take (Wo.runL Wo.isDigit s.data.toList)) < 9223372036854775808) :
    Calls Tryd.prog 20 #[.string s] w (FoundPost ⟨1, [], Wo.decL (s.data.toList.take (Wo.runL Wo.isDigit s.data.toList)), Wo.runL Wo.isDigit s.data.toList⟩ w) := by
  have b1 : (0 : Int) < (s.size : Int) := by omega
  have b2 : 0 < s.size := by omega
  have hle := Wo.runL_le Wo.isDigit s.data.toList
  rw [Array.length_toList] at hle
  have hle' : Wo.runL Wo.isDigit s.data.toList ≤ s.size := hle
  have hpos : 1 ≤ Wo.runL Wo.isDigit s.data.toList := by
    have := Wo.runL_at Wo.isDigit s.data.toList 0 h1
    rw [List.drop_zero, if_pos (show Wo.isDigit s.data.toList[0] = true from hd)] at this
    omega
  have hall := Wo.runL_all Wo.isDigit s.data.toList
  have hrun := fun w => run_digit s w (by unfold maxLen; omega)
  generalize Wo.runL Wo.isDigit s.data.toList = n at *
  have hp := Wo.parse_digits (s.data.toList.take n) (by intro h; have := congrArg List.length h; rw [List.length_take, Array.length_toList] at this; have e : s.data.size = s.size := rfl; rw [e] at this; simp only [List.length_nil] at this; omega) hall
  rw [if_pos hr] at hp
  generalize Wo.decL (s.data.toList.take n) = d at hp hr
  rw [← takeS] at hp
  have c2 := fun w => (Tryd.strconv_ParseInt_10_at64_ok (s.extract 0 n) (by simp; omega) d hp w).mono (R' := fun e w' => e = .returned (.tuple #[.int .i64 d, .nilIface]) ∧ Below w.heap.size w w') (fun e w' ⟨he, hw⟩ => ⟨he, by rcases hw with rfl | ⟨t, rfl⟩; exact Below.refl _ _; exact Go.Joins.below_bytesWorld _ _ _ _ (Nat.le_refl _)⟩)
  have C2 := Lib.hid c2
  have HD := Lib.hid hd
  have HR := Lib.hid hrun
  clear hle c2 hall hp hd hrun
  go_enter Tryd.func20, Tryd.ntmps20
  go_wp2_with fail
  with_reducible refine (digit_any _ _).mono ?_
  rintro e w' ⟨rfl, rfl⟩
  have hd := HD.out
  go_wp2_with fail
  with_reducible refine (HR.out _).mono ?_
  rintro e w' ⟨rfl, rfl⟩
  go_wp2_with fail
  with_reducible refine (C2.out _).mono ?_
  rintro e w1 ⟨rfl, hb⟩
  obtain ⟨hc, hf⟩ := bcell hb
  have hz := size_from hb
  have HB := Lib.hid (below_from hb)
  clear hb
  go_wp2
  exact bodyPost_ret (v := .tuple #[wordV 1 [] d 0 0 0, .int .i64 n]) (by unfold wordV; simp [results, Tryd.results20, go_sem, hc]) rfl ⟨rfl, below6 HB.out _ _ _ _ _ _⟩
set_option maxHeartbeats 1600000 in
set_option maxRecDepth 1000000 in
theorem found_text (s : ByteArray) (w : World) (h1 : 1 ≤ s.size) (hs : s.size ≤ 1048576) (hd : Wo.isDigit s[0] = false) (hq : s[0].toNat = 34) :
    Calls Tryd.prog 20 #[.string s] w (FoundPost ⟨2, (Wo.textL s.data.toList).1, 0, (Wo.textL s.data.toList).2⟩ w) := by
  have b1 : (0 : Int) < (s.size : Int) := by omega
  have b2 : 0 < s.size := by omega
  have k34 : ((s[0].toNat : Int) == 34) = true := beqI (by omega)
  have c2 := fun w => text_any s w hs
  unfold TextPost at c2
  generalize Wo.textL s.data.toList = r at c2
  have C2 := Lib.hid c2
  have HD := Lib.hid hd
  clear c2 hd hq
  go_enter Tryd.func20, Tryd.ntmps20
  go_wp2_with fail
  with_reducible refine (digit_any _ _).mono ?_
  rintro e w' ⟨rfl, rfl⟩
  have hd := HD.out
  go_wp2_with fail
  with_reducible refine (C2.out _).mono ?_
  rintro e w1 ⟨rfl, hb⟩
  obtain ⟨hc, hf⟩ := bcell hb
  have hz := size_from hb
  have HB := Lib.hid (below_from hb)
  clear hb
  go_wp2
  exact bodyPost_ret (v := .tuple #[wordV 2 r.1 0 0 0 0, .int .i64 r.2]) (by unfold wordV; simp [results, Tryd.results20, go_sem, hc]) rfl ⟨rfl, below6 HB.out _ _ _ _ _ _⟩
set_option maxHeartbeats 1600000 in
set_option maxRecDepth 1000000 in
theorem found_name (s : ByteArray) (w : World) (hl : LaidW w) (h1 : 1 ≤ s.size) (hs : s.size ≤ 1048576) (hd : Wo.isDigit s[0] = false) (hq : s[0].toNat ≠ 34) (hn : Wo.isLetter s[0] = true) :
    Calls Tryd.prog 20 #[.string s] w (FoundPost ⟨if Wo.keys.contains (s.data.toList.take (Wo.runL Wo.alnum s.data.toList)) then 4 else 3, s.data.toList.take (Wo.runL Wo.alnum s.data.toList), 0, Wo.runL Wo.alnum s.data.toList⟩ w) := by
  generalize hkb : Wo.keys.contains (s.data.toList.take (Wo.runL Wo.alnum s.data.toList)) = kb
  have b1 : (0 : Int) < (s.size : Int) := by omega
  have b2 : 0 < s.size := by omega
  have k34 : ((s[0].toNat : Int) == 34) = false := bneI (by omega)
  have hle := Wo.runL_le Wo.alnum s.data.toList
  rw [Array.length_toList] at hle
  have hle' : Wo.runL Wo.alnum s.data.toList ≤ s.size := hle
  have hrun := fun w => run_alnum s w (by unfold maxLen; omega)
  generalize Wo.runL Wo.alnum s.data.toList = n at *
  have HK := Lib.hid (fun w b hb => contains_take s n kb hkb b w hb)
  clear hkb
  have HT := Lib.hid ((hl.alloc (.cells #[.int .u8 0, .string ⟨#[]⟩, .int .i64 0, .int .i64 0, .int .i64 0, .int .i64 0] 24)).tab)
  have HL := Lib.hid hl
  have HD := Lib.hid hd
  have HR := Lib.hid hrun
  clear hle hd hrun hl hq
  have hx : (s.extract 0 n) = ⟨(s.data.toList.take n).toArray⟩ := by
    have := takeS s n
    rw [← this]
  have HS := Lib.hid hx.symm
  clear hx
  cases kb with
  | true =>
    simp only [if_true]
    go_enter Tryd.func20, Tryd.ntmps20
    go_wp2_with fail
    with_reducible refine (digit_any _ _).mono ?_
    rintro e w' ⟨rfl, rfl⟩
    have hd := HD.out
    go_wp2_with fail
    with_reducible refine (letter_any _ _).mono ?_
    rintro e w' ⟨rfl, rfl⟩
    go_wp2_with fail
    with_reducible refine (HR.out _).mono ?_
    rintro e w' ⟨rfl, rfl⟩
    go_wp2_with fail
    go_region_with (first | (go_at_call 16; refine (fields_any _ ?_ _ ?_).mono ?_; rfl; exact HT.out; rintro e w' ⟨rfl, rfl⟩) | (go_at_call 44; refine (HK.out _ _ (by exact heap_two _ _)).mono ?_; rintro e w' ⟨rfl, rfl⟩))
    go_wp2
    exact bodyPost_ret (v := .tuple #[wordV 4 (s.data.toList.take n) 0 0 0 0, .int .i64 n]) (by unfold wordV; rw [HS.out]; simp [results, Tryd.results20, go_sem]) rfl ⟨rfl, (((Below.refl w.heap.size w).alloc (Nat.le_refl _) _).alloc (by simp) _).drew⟩
  | false =>
    simp only [if_neg Bool.false_ne_true]
    go_enter Tryd.func20, Tryd.ntmps20
    go_wp2_with fail
    with_reducible refine (digit_any _ _).mono ?_
    rintro e w' ⟨rfl, rfl⟩
    have hd := HD.out
    go_wp2_with fail
    with_reducible refine (letter_any _ _).mono ?_
    rintro e w' ⟨rfl, rfl⟩
    go_wp2_with fail
    with_reducible refine (HR.out _).mono ?_
    rintro e w' ⟨rfl, rfl⟩
    go_wp2_with fail
    go_region_with (first | (go_at_call 16; refine (fields_any _ ?_ _ ?_).mono ?_; rfl; exact HT.out; rintro e w' ⟨rfl, rfl⟩) | (go_at_call 44; refine (HK.out _ _ (by exact heap_two _ _)).mono ?_; rintro e w' ⟨rfl, rfl⟩))
    go_wp2
    exact bodyPost_ret (v := .tuple #[wordV 3 (s.data.toList.take n) 0 0 0 0, .int .i64 n]) (by unfold wordV; rw [HS.out]; simp [results, Tryd.results20, go_sem]) rfl ⟨rfl, (((Below.refl w.heap.size w).alloc (Nat.le_refl _) _).alloc (by simp) _).drew⟩
end Go.Proofs.YthbdnbeiafpkcaaDoor
