/- The document's own words: one at a sign; one. -/
import Derived.Test.YthbdnbeiafpkcaaDoorWTellD
set_option linter.unusedVariables false
namespace Go.Proofs.YthbdnbeiafpkcaaDoor
open Go.RowKit
def signB (k : Nat) : ByteArray := ⟨(Wo.signs.getD k []).toArray⟩
def signsBlk : Obj := .cells ((Wo.signs.map fun l => Value.string ⟨l.toArray⟩).toArray) 9
theorem sign_cell (b k : Nat) (w : World) (h : w.heap[b]? = some signsBlk) (hk : k < 24) : w.cell? ⟨b, k, none⟩ = some (.string (signB k)) := by
  unfold signsBlk at h
  have hk' : k < Wo.signs.length := hk
  unfold signB
  simp [World.cell?, h, List.getD, hk']
theorem sign_two (w : World) (o : Obj) : ((w.alloc o).alloc signsBlk).heap[w.heap.size + 1]? = some signsBlk := by
  have e1 : (w.alloc o).heap.size = w.heap.size + 1 := by simp
  rw [← e1]; exact heap_alloc_new _ _
theorem sign_len : ∀ k, k < 24 → (signB k).size ≤ 2 ∧ 1 ≤ (signB k).size := by decide
theorem prefix_iff (x l : List UInt8) : x.isPrefixOf l = (decide (x.length ≤ l.length) && (l.take x.length == x)) := by
  rw [Bool.eq_iff_iff, List.isPrefixOf_iff_prefix, List.prefix_iff_eq_take]
  simp only [Bool.and_eq_true, decide_eq_true_eq, beq_iff_eq]
  constructor
  · intro h
    refine ⟨?_, h.symm⟩
    have := congrArg List.length h
    rw [List.length_take] at this; omega
  · intro h; exact h.2.symm
theorem find_sign (l : List UInt8) (k : Nat) (h : k < 24) : (Wo.signs.drop k).find? (fun x => x.isPrefixOf l) = if (signB k).data.toList.isPrefixOf l then some (signB k).data.toList else (Wo.signs.drop (k + 1)).find? (fun x => x.isPrefixOf l) := by
  have h' : k < Wo.signs.length := h
  have e : (signB k).data.toList = Wo.signs[k] := by unfold signB; simp [List.getD, h']
  rw [List.drop_eq_getElem_cons h', List.find?_cons, e]
  cases (Wo.signs[k]).isPrefixOf l <;> rfl
set_option maxHeartbeats 4000000 in
set_option maxRecDepth 100000 in
theorem one_sign (s : ByteArray) (a : Nat) (w : World) (ha : a < s.size) (hs : s.size ≤ 1048576) (hd : Wo.isDigit s[a] = false) (hq : s[a].toNat ≠ 34) (hl : Wo.isLetter s[a] = false) :
    Calls Tryd.prog 23 #[.string s, .int .i64 a] w (OnePost (Wo.foundL (s.data.toList.drop a)) a w) := by
  have hf := foundL_cons s.data.toList a ha
  rw [if_neg (by rw [show s.data.toList[a] = s[a] from rfl, hd]; decide), if_neg (show ¬ s.data.toList[a].toNat = 34 from hq), if_neg (by rw [show s.data.toList[a] = s[a] from rfl, hl]; decide)] at hf
  have hf2 : Wo.signL (s.data.toList.drop a) = (match (Wo.signs.drop 0).find? (fun x => x.isPrefixOf (s.data.toList.drop a)) with
    | some x => ⟨5, x, 0, x.length⟩
    | none => Wo.noTok) := rfl
  have k34 : ((s[a].toNat : Int) == 34) = false := bneI (by omega)
  have HF := Lib.hid (hf.trans hf2)
  have HD := Lib.hid hd
  have HL := Lib.hid hl
  clear hf hf2 hd hl hq
  have hC : ∀ k, k < 24 → ((w.alloc (.cells #[.int .u8 0, .string ⟨#[]⟩, .int .i64 0, .int .i64 0, .int .i64 0, .int .i64 0] 24)).alloc (.cells #[.string ⟨#[38, 38]⟩, .string ⟨#[124, 124]⟩, .string ⟨#[61, 61]⟩, .string ⟨#[33, 61]⟩, .string ⟨#[60, 61]⟩, .string ⟨#[62, 61]⟩, .string ⟨#[43, 43]⟩, .string ⟨#[60]⟩, .string ⟨#[62]⟩, .string ⟨#[43]⟩, .string ⟨#[45]⟩, .string ⟨#[42]⟩, .string ⟨#[47]⟩, .string ⟨#[37]⟩, .string ⟨#[33]⟩, .string ⟨#[40]⟩, .string ⟨#[41]⟩, .string ⟨#[91]⟩, .string ⟨#[93]⟩, .string ⟨#[123]⟩, .string ⟨#[125]⟩, .string ⟨#[44]⟩, .string ⟨#[59]⟩, .string ⟨#[61]⟩] 9)).cell? ⟨w.heap.size + 1, k, none⟩ = some (.string (signB k)) := fun k hk => sign_cell _ k _ (sign_two w _) hk
  have hb : Below (w.alloc (.cells #[.int .u8 0, .string ⟨#[]⟩, .int .i64 0, .int .i64 0, .int .i64 0, .int .i64 0] 24)).heap.size (w.alloc (.cells #[.int .u8 0, .string ⟨#[]⟩, .int .i64 0, .int .i64 0, .int .i64 0, .int .i64 0] 24)) ((w.alloc (.cells #[.int .u8 0, .string ⟨#[]⟩, .int .i64 0, .int .i64 0, .int .i64 0, .int .i64 0] 24)).alloc (.cells #[.string ⟨#[38, 38]⟩, .string ⟨#[124, 124]⟩, .string ⟨#[61, 61]⟩, .string ⟨#[33, 61]⟩, .string ⟨#[60, 61]⟩, .string ⟨#[62, 61]⟩, .string ⟨#[43, 43]⟩, .string ⟨#[60]⟩, .string ⟨#[62]⟩, .string ⟨#[43]⟩, .string ⟨#[45]⟩, .string ⟨#[42]⟩, .string ⟨#[47]⟩, .string ⟨#[37]⟩, .string ⟨#[33]⟩, .string ⟨#[40]⟩, .string ⟨#[41]⟩, .string ⟨#[91]⟩, .string ⟨#[93]⟩, .string ⟨#[123]⟩, .string ⟨#[125]⟩, .string ⟨#[44]⟩, .string ⟨#[59]⟩, .string ⟨#[61]⟩] 9)) := (Below.refl _ _).alloc (Nat.le_refl _) _
  have HBB := Lib.hid hb
  have HC0 := Lib.hid hC
  clear hb hC
  go_enter Tryd.func23, Tryd.ntmps23
  go_wp2_with fail
  with_reducible refine (rdigit_any _ _).mono ?_
  rintro e w' ⟨rfl, rfl⟩
  rw [HD.out]
  go_wp2_with fail
  with_reducible refine (rletter_any _ _).mono ?_
  rintro e w' ⟨rfl, rfl⟩
  rw [HL.out]
  go_wp2_with fail
  generalize ((w.alloc (.cells #[.int .u8 0, .string ⟨#[]⟩, .int .i64 0, .int .i64 0, .int .i64 0, .int .i64 0] 24)).alloc (.cells #[.string ⟨#[38, 38]⟩, .string ⟨#[124, 124]⟩, .string ⟨#[61, 61]⟩, .string ⟨#[33, 61]⟩, .string ⟨#[60, 61]⟩, .string ⟨#[62, 61]⟩, .string ⟨#[43, 43]⟩, .string ⟨#[60]⟩, .string ⟨#[62]⟩, .string ⟨#[43]⟩, .string ⟨#[45]⟩, .string ⟨#[42]⟩, .string ⟨#[47]⟩, .string ⟨#[37]⟩, .string ⟨#[33]⟩, .string ⟨#[40]⟩, .string ⟨#[41]⟩, .string ⟨#[91]⟩, .string ⟨#[93]⟩, .string ⟨#[123]⟩, .string ⟨#[125]⟩, .string ⟨#[44]⟩, .string ⟨#[59]⟩, .string ⟨#[61]⟩] 9)) = W0 at HBB HC0
  have hb := HBB.out
  obtain ⟨hcc, hff⟩ := bcell hb
  have hz := size_from hb
  have HB := Lib.hid (below_from hb)
  have HC := Lib.hid HC0.out
  clear hb HBB HC0
  go_loopw [13] (fun i wr => ∃ k n : Nat, k ≤ 24 ∧ i = .int .i64 k ∧ wr = W0.drewN n ∧ (Wo.signs.drop 0).find? (fun x => x.isPrefixOf (s.data.toList.drop a)) = (Wo.signs.drop k).find? (fun x => x.isPrefixOf (s.data.toList.drop a))) (fun i _ => 24 - (intOf i).toNat)
  case atStart => exact ⟨0, 0, Nat.zero_le _, rfl, rfl, rfl⟩
  case round =>
    obtain ⟨k, nd, hk, rfl, rfl, hall⟩ := hrel
    have HA := Lib.hid hall
    clear hall
    by_cases hlt : k < 24
    · have hck := HC.out k hlt
      have hfs := find_sign (s.data.toList.drop a) k hlt
      obtain ⟨hz2, hz1⟩ := sign_len k hlt
      generalize signB k = y at hck hfs hz1 hz2
      have hpi := prefix_iff y.data.toList (s.data.toList.drop a)
      have hyl : y.data.toList.length = y.size := rfl
      have hll : (s.data.toList.drop a).length = s.size - a := by rw [List.length_drop]; rfl
      rw [hyl, hll] at hpi
      have hex : (s.extract a (a + y.size)).data.toList = (s.data.toList.drop a).take y.size := by rw [extractS, show a + y.size - a = y.size by omega]
      rw [← hex] at hpi
      by_cases hle : a + y.size ≤ s.size
      · have l1 : (a : Int) + (y.size : Int) ≤ (s.size : Int) := by omega
        rw [decide_eq_true (by omega), Bool.true_and] at hpi
        by_cases he : s.extract a (a + y.size) = y
        · rw [he, beq_self_eq_true] at hpi
          rw [hpi, if_pos rfl] at hfs
          have hx : Wo.foundL (s.data.toList.drop a) = ⟨5, y.data.toList, 0, a + y.size - a⟩ := by rw [HF.out, HA.out, hfs]; show (⟨5, y.data.toList, 0, y.size⟩ : Wo.Tok) = _; rw [show a + y.size - a = y.size by omega]
          have k1 : ((s.extract a (a + y.size)).toList == y.toList) = true := by rw [he]; exact beq_self_eq_true _
          have HX := Lib.hid hx
          have HY := Lib.hid (bs_back y)
          clear hx he hpi hex hfs hyl hll
          go_wp2_with fail
          go_quiet (fail)
          go_wp2_with fail
          have l2 : IntKind.i64.wrap ((a : Int) + (y.size : Int)) = (a : Int) + (y.size : Int) := IntWalk.i64_in _ (by omega)
          go_region_with (fail)
          all_goals
            go_wp2
            exact bodyPost_ret (v := wordV 5 y.data.toList 0 0 a (a + y.size)) (by unfold wordV; rw [show (⟨y.data.toList.toArray⟩ : ByteArray) = y from HY.out]; simp [results, Tryd.results23, go_sem, hck, hcc]) rfl ⟨one_some _ a (a + y.size) 5 _ 0 (by omega) HX.out, below6 (belowN HB.out _) _ _ _ _ _ _⟩
        · have he2 : ((s.extract a (a + y.size)).data.toList == y.data.toList) = false := by rw [beq_eq_false_iff_ne]; intro h; exact he (bs_ext _ _ h)
          have k1 : ((s.extract a (a + y.size)).toList == y.toList) = false := by rw [ByteArray.toList_eq, ByteArray.toList_eq]; exact he2
          rw [he2] at hpi
          rw [hpi, if_neg (by decide)] at hfs
          have HX := Lib.hid (HA.out.trans hfs)
          clear he he2 hpi hex hfs hyl hll
          go_wp2_with fail
          go_quiet (fail)
          go_wp2
          go_roundw
          case rel => exact ⟨k + 1, _, by omega, by go_num, rfl, HX.out⟩
          case measure => simp [intOf]; omega
      · have l1 : decide ((a : Int) + (y.size : Int) ≤ (s.size : Int)) = false := decide_eq_false (by omega)
        have l2 : IntKind.i64.wrap ((a : Int) + (y.size : Int)) = (a : Int) + (y.size : Int) := IntWalk.i64_in _ (by omega)
        rw [decide_eq_false (by omega), Bool.false_and] at hpi
        rw [hpi, if_neg (by decide)] at hfs
        have HX := Lib.hid (HA.out.trans hfs)
        clear hpi hex hfs hyl hll
        go_wp2_with fail
        go_quiet (fail)
        go_wp2
        go_roundw
        case rel => exact ⟨k + 1, _, by omega, by go_num, rfl, HX.out⟩
        case measure => simp [intOf]; omega
    · obtain rfl : k = 24 := by omega
      have hx : Wo.foundL (s.data.toList.drop a) = Wo.noTok := by rw [HF.out, HA.out]; rfl
      have HX := Lib.hid hx
      clear hx
      go_wp2
      exact bodyPost_ret (v := wordV 0 [] 0 0 0 0) (by unfold wordV; simp [results, Tryd.results23, go_sem, hcc]) rfl ⟨one_none _ _ HX.out, below6 (belowN HB.out _) _ _ _ _ _ _⟩
theorem one_any (s : ByteArray) (a : Nat) (w : World) (ha : a < s.size) (hs : s.size ≤ 1048576) :
    Calls Tryd.prog 23 #[.string s, .int .i64 a] w (OnePost (Wo.foundL (s.data.toList.drop a)) a w) := by
  by_cases h1 : Wo.isDigit s[a] = true
  · exact one_int s a w ha hs h1
  · by_cases h2 : s[a].toNat = 34
    · exact one_text s a w ha hs (Bool.eq_false_iff.2 h1) h2
    · by_cases h3 : Wo.isLetter s[a] = true
      · exact one_name s a w ha hs (Bool.eq_false_iff.2 h1) h2 h3
      · exact one_sign s a w ha hs (Bool.eq_false_iff.2 h1) h2 (Bool.eq_false_iff.2 h3)
end Go.Proofs.YthbdnbeiafpkcaaDoor
