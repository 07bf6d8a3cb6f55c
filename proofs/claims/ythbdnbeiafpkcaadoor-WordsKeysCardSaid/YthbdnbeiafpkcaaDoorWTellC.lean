/- The document's own words: in, and one at a number and at a text. -/
import Derived.Test.YthbdnbeiafpkcaaDoorWTellB
set_option linter.unusedVariables false
namespace Go.Proofs.YthbdnbeiafpkcaaDoor
open Go.RowKit
namespace Wo
theorem decF_take_run (p : UInt8 → Bool) (N : Nat) (L : Bs) (q : Nat) (h : q < L.length) (hp : p L[q] = true) :
    decF N ((L.drop q).take (runL p (L.drop q))) = decF (10 * N + (L[q].toNat - 48)) ((L.drop (q + 1)).take (runL p (L.drop (q + 1)))) := by
  rw [runL_at p L q h, if_pos hp, List.drop_eq_getElem_cons h, List.take_succ_cons, decF_cons]
theorem any_drop (x : Bs) (l : List Bs) (k : Nat) (h : k < l.length) : (l.drop k).contains x = (x == l[k] || (l.drop (k + 1)).contains x) := by
  rw [List.drop_eq_getElem_cons h, List.contains_cons]
end Wo
def OnePost (f : Wo.Tok) (a : Nat) (w : World) (e : Ending) (w' : World) : Prop := e = .returned (if f.len = 0 then wordV 0 [] 0 0 0 0 else wordV f.kind f.s f.n 0 a (a + f.len)) ∧ Below w.heap.size w w'
theorem one_none (f : Wo.Tok) (a : Nat) (h : f = Wo.noTok) : Ending.returned (wordV 0 [] 0 0 0 0) = .returned (if f.len = 0 then wordV 0 [] 0 0 0 0 else wordV f.kind f.s f.n 0 a (a + f.len)) := by rw [h]; rfl
theorem one_zero (f : Wo.Tok) (a : Nat) (h : f.len = 0) : Ending.returned (wordV 0 [] 0 0 0 0) = .returned (if f.len = 0 then wordV 0 [] 0 0 0 0 else wordV f.kind f.s f.n 0 a (a + f.len)) := by rw [if_pos h]
theorem one_some (f : Wo.Tok) (a q : Nat) (k : Nat) (t : List UInt8) (n : Nat) (hm : a < q) (h : f = ⟨k, t, n, q - a⟩) : Ending.returned (wordV k t n 0 a q) = .returned (if f.len = 0 then wordV 0 [] 0 0 0 0 else wordV f.kind f.s f.n 0 a (a + f.len)) := by
  rw [h]
  show _ = Ending.returned (if q - a = 0 then _ else wordV k t n 0 a (a + (q - a)))
  rw [if_neg (by omega), show a + (q - a) = q by omega]
theorem text_none (L : List UInt8) (a : Nat) (h : Wo.txAt L [] (a + 1) = none) : Wo.textL (L.drop a) = ([], 0) := by
  unfold Wo.txAt at h
  rw [Option.map_eq_none_iff] at h
  exact textL_none _ (by rw [List.drop_drop]; exact h)
theorem text_some (L o : List UInt8) (a n : Nat) (h : Wo.txAt L [] (a + 1) = some (o, n)) : Wo.textL (L.drop a) = (o, n + 1 - a) ∧ a < n + 1 := by
  unfold Wo.txAt at h
  obtain ⟨⟨o', n'⟩, h1, h2⟩ := Option.map_eq_some_iff.1 h
  simp only [List.nil_append, Prod.mk.injEq] at h2
  obtain ⟨rfl, rfl⟩ := h2
  exact ⟨by rw [textL_some (L.drop a) o' n' (by rw [List.drop_drop]; exact h1)]; congr 1; omega, by omega⟩
theorem foundL_cons (L : List UInt8) (a : Nat) (h : a < L.length) : Wo.foundL (L.drop a) = if Wo.isDigit L[a] then (if Wo.decL ((L.drop a).take (Wo.runL Wo.isDigit (L.drop a))) < 9223372036854775808 then ⟨1, [], Wo.decL ((L.drop a).take (Wo.runL Wo.isDigit (L.drop a))), Wo.runL Wo.isDigit (L.drop a)⟩ else Wo.noTok)
    else if L[a].toNat = 34 then ⟨2, (Wo.textL (L.drop a)).1, 0, (Wo.textL (L.drop a)).2⟩
    else if Wo.isLetter L[a] then ⟨if Wo.keys.contains ((L.drop a).take (Wo.runL Wo.alnum (L.drop a))) then 4 else 3, (L.drop a).take (Wo.runL Wo.alnum (L.drop a)), 0, Wo.runL Wo.alnum (L.drop a)⟩
    else Wo.signL (L.drop a) := by
  rw [List.drop_eq_getElem_cons h]; rfl
set_option maxHeartbeats 4000000 in
set_option maxRecDepth 100000 in
theorem one_int (s : ByteArray) (a : Nat) (w : World) (ha : a < s.size) (hs : s.size ≤ 1048576) (hd : Wo.isDigit s[a] = true) :
    Calls Tryd.prog 23 #[.string s, .int .i64 a] w (OnePost (Wo.foundL (s.data.toList.drop a)) a w) := by
  have hf := foundL_cons s.data.toList a ha
  rw [if_pos (show Wo.isDigit s.data.toList[a] = true from hd)] at hf
  have HF := Lib.hid hf
  have hrun := Wo.runL_at Wo.isDigit s.data.toList a ha
  rw [if_pos (show Wo.isDigit s.data.toList[a] = true from hd)] at hrun
  have HR := Lib.hid hrun
  have HD := Lib.hid hd
  clear hf hrun hd
  go_enter Tryd.func23, Tryd.ntmps23
  go_wp2_with fail
  with_reducible refine (rdigit_any _ _).mono ?_
  rintro e w' ⟨rfl, rfl⟩
  rw [HD.out]
  go_wp2_with fail
  go_loop [6, 7] (fun en n => ∃ q N : Nat, q ≤ s.size ∧ en = .int .i64 q ∧ n = .int .u64 N ∧ N < 9223372036854775808 ∧ a + Wo.runL Wo.isDigit (s.data.toList.drop a) = q + Wo.runL Wo.isDigit (s.data.toList.drop q) ∧
      Wo.decL ((s.data.toList.drop a).take (Wo.runL Wo.isDigit (s.data.toList.drop a))) = Wo.decF N ((s.data.toList.drop q).take (Wo.runL Wo.isDigit (s.data.toList.drop q))))
    (fun en _ => s.size - (intOf en).toNat)
  case atStart => exact ⟨a, 0, by omega, rfl, rfl, by omega, rfl, rfl⟩
  case round =>
    obtain ⟨q, N, hk, rfl, rfl, hN, hr, hdec⟩ := hrel
    have HR1 := Lib.hid hr
    have HE := Lib.hid hdec
    clear hr hdec
    have hfin : Wo.runL Wo.isDigit (s.data.toList.drop q) = 0 → Wo.foundL (s.data.toList.drop a) = ⟨1, [], N, q - a⟩ ∧ a < q := by
      intro h0
      have h1 := HE.out
      have h2 := HR1.out
      rw [h0] at h1 h2
      have h3 := HR.out
      have h4 := HF.out
      rw [h1, List.take_zero, show Wo.decF N [] = N from rfl, if_pos hN, show Wo.runL Wo.isDigit (s.data.toList.drop a) = q - a by omega] at h4
      exact ⟨h4, by omega⟩
    by_cases hlt : q < s.size
    · have hrn := Wo.runL_at Wo.isDigit s.data.toList q hlt
      change Wo.runL Wo.isDigit (s.data.toList.drop q) = (if Wo.isDigit s[q] then Wo.runL Wo.isDigit (s.data.toList.drop (q + 1)) + 1 else 0) at hrn
      by_cases hd : Wo.isDigit s[q] = true
      · have hc := (Wo.isDigit_iff _).1 hd
        have hst := Wo.decF_take_run Wo.isDigit N s.data.toList q hlt hd
        change Wo.decF N _ = Wo.decF (10 * N + (s[q].toNat - 48)) _ at hst
        rw [if_pos hd] at hrn
        have HS := Lib.hid (HE.out.trans hst)
        have HRN := Lib.hid hrn
        have HD1 := Lib.hid hd
        clear hst hrn hd hfin
        by_cases ho : 10 * N + (s[q].toNat - 48) < 9223372036854775808
        · have b1 : ¬ (9223372036854775807 - ((s[q].toNat : Int) - 48)) / 10 < (N : Int) := by omega
          go_wp2_with fail
          with_reducible refine (rdigit_any _ _).mono ?_
          rintro e w' ⟨rfl, rfl⟩
          rw [HD1.out]
          go_wp2
          go_roundw
          case rel => exact ⟨q + 1, 10 * N + (s[q].toNat - 48), by omega, by go_num, by congr 1; omega, ho, by have := HR1.out; have := HRN.out; omega, HS.out⟩
          case measure => simp [intOf]; omega
        · have b1 : (9223372036854775807 - ((s[q].toNat : Int) - 48)) / 10 < (N : Int) := by omega
          have hx : Wo.foundL (s.data.toList.drop a) = Wo.noTok := by
            rw [HF.out, HS.out, if_neg (by have := Wo.decF_ge ((s.data.toList.drop (q + 1)).take (Wo.runL Wo.isDigit (s.data.toList.drop (q + 1)))) (10 * N + (s[q].toNat - 48)); omega)]
          have HX := Lib.hid hx
          clear hx ho
          go_wp2_with fail
          with_reducible refine (rdigit_any _ _).mono ?_
          rintro e w' ⟨rfl, rfl⟩
          rw [HD1.out]
          go_wp2
          exact bodyPost_ret (v := wordV 0 [] 0 0 0 0) (by unfold wordV; simp [results, Tryd.results23, go_sem]) rfl ⟨one_none _ _ HX.out, (Below.refl w.heap.size w).alloc (Nat.le_refl _) _⟩
      · rw [if_neg hd] at hrn
        obtain ⟨hx, haq⟩ := hfin hrn
        have HX := Lib.hid hx
        have HD1 := Lib.hid (Bool.eq_false_iff.2 hd)
        clear hfin hx hrn hd
        go_wp2_with fail
        with_reducible refine (rdigit_any _ _).mono ?_
        rintro e w' ⟨rfl, rfl⟩
        rw [HD1.out]
        go_wp2
        exact bodyPost_ret (v := wordV 1 [] N 0 a q) (by unfold wordV; simp [results, Tryd.results23, go_sem]) rfl ⟨one_some _ a q 1 [] N haq HX.out, (Below.refl w.heap.size w).alloc (Nat.le_refl _) _⟩
    · obtain rfl : q = s.size := by omega
      obtain ⟨hx, haq⟩ := hfin (by rw [List.drop_of_length_le (by exact Nat.le_refl _)]; rfl)
      have HX := Lib.hid hx
      clear hfin hx
      go_wp2
      exact bodyPost_ret (v := wordV 1 [] N 0 a s.size) (by unfold wordV; simp [results, Tryd.results23, go_sem]) rfl ⟨one_some _ a s.size 1 [] N haq HX.out, (Below.refl w.heap.size w).alloc (Nat.le_refl _) _⟩
set_option maxHeartbeats 4000000 in
set_option maxRecDepth 100000 in
theorem one_text (s : ByteArray) (a : Nat) (w : World) (ha : a < s.size) (hs : s.size ≤ 1048576) (hd : Wo.isDigit s[a] = false) (hq : s[a].toNat = 34) :
    Calls Tryd.prog 23 #[.string s, .int .i64 a] w (OnePost (Wo.foundL (s.data.toList.drop a)) a w) := by
  have hf := foundL_cons s.data.toList a ha
  rw [if_neg (by rw [show s.data.toList[a] = s[a] from rfl, hd]; decide), if_pos (show s.data.toList[a].toNat = 34 from hq)] at hf
  have k34 : ((s[a].toNat : Int) == 34) = true := beqI (by omega)
  have cs := fun w => said_any s a w ha hs
  unfold SaidPost saidV at cs
  have HD := Lib.hid hd
  cases ht : Wo.txAt s.data.toList [] (a + 1) with
  | none =>
    rw [ht] at cs
    rw [text_none _ _ ht] at hf
    have HF := Lib.hid hf
    have CS := Lib.hid cs
    clear hf cs ht hd hq
    go_enter Tryd.func23, Tryd.ntmps23
    go_wp2_with fail
    with_reducible refine (rdigit_any _ _).mono ?_
    rintro e w' ⟨rfl, rfl⟩
    rw [HD.out]
    go_wp2_with fail
    with_reducible refine (CS.out _).mono ?_
    rintro e w1 ⟨rfl, hb⟩
    obtain ⟨hc, hf⟩ := bcell hb
    have hz := size_from hb
    have HB := Lib.hid (below_from hb)
    clear hb
    go_wp2
    exact bodyPost_ret (v := wordV 0 [] 0 0 0 0) (by unfold wordV; simp [results, Tryd.results23, go_sem, hc]) rfl ⟨one_zero _ _ (by rw [HF.out]), below6 HB.out _ _ _ _ _ _⟩
  | some r =>
    obtain ⟨o, n⟩ := r
    rw [ht] at cs
    obtain ⟨h1, h2⟩ := text_some _ _ _ _ ht
    rw [h1] at hf
    have HF := Lib.hid hf
    have CS := Lib.hid cs
    clear hf cs ht hd hq h1
    go_enter Tryd.func23, Tryd.ntmps23
    go_wp2_with fail
    with_reducible refine (rdigit_any _ _).mono ?_
    rintro e w' ⟨rfl, rfl⟩
    rw [HD.out]
    go_wp2_with fail
    with_reducible refine (CS.out _).mono ?_
    rintro e w1 ⟨rfl, hb⟩
    obtain ⟨hc, hf⟩ := bcell hb
    have hz := size_from hb
    have HB := Lib.hid (below_from hb)
    clear hb
    go_wp2
    exact bodyPost_ret (v := wordV 2 o 0 0 a (n + 1)) (by unfold wordV bsOf; simp [results, Tryd.results23, go_sem, hc]) rfl ⟨one_some _ a (n + 1) 2 o 0 h2 HF.out, below6 HB.out _ _ _ _ _ _⟩
end Go.Proofs.YthbdnbeiafpkcaaDoor
