/- droverlaw02.awake, by contract. -/
import Derived.Test.YtgamhgeiceakeaaDoorVAwA
set_option linter.unusedVariables false
set_option linter.unusedSimpArgs false
namespace Go.Proofs.YtgamhgeiceakeaaDoor
open Go.RowKit
open Va (V)
theorem rd_lit (w : World) (l : List UInt8) (cs : Array Value) (h : cs = (u8s l).toArray) : Rd (w.alloc (.cells cs 5)) (some ⟨w.heap.size, 0, none⟩) l := by
  subst h
  refine Or.inr ⟨w.heap.size, 0, rfl, by simp, fun i hi => ?_⟩
  rw [(Blk.new w _ _).cell]
  unfold u8s
  simp [hi]
theorem is_lit (v : V) (ok : Nat → Prop) (x : Value) (b cw : Nat) (w : World) (l : List UInt8) (nw : Nat) (hl : Va.enc v = l) (hn : l.length = nw) (h : RV ok w v x) (hr : Va.right v = true) (hw : Rd w (some ⟨b, 0, none⟩) l) :
    Calls Tryd.prog 31 #[x, .slice (some ⟨b, 0, none⟩) nw cw] w (BB true w) := by
  subst hl; subst hn; exact is_any v ok x b cw w h hr hw
def leaf (k : Nat) (n : Int) (s : ByteArray) : V := .mk k n s []
theorem rv_row {ok : Nat → Prop} {w : World} {b : Nat} {l : List V} {xs : List Value} {cs : Array Value} (hB : Blk w b cs 25) (hok : ok b) (hcs : cs.toList = vcs xs) (hf : Four xs) (hl : xs.length = l.length) (hm : l.length ≤ maxLen)
    (hv : ∀ i (h : i < l.length) (h' : i < xs.length), RV ok w l[i] xs[i]) : RV ok w (.mk 4 0 Va.em l) (.agg #[.int .u8 4, .int .i64 0, .string ⟨#[]⟩, .slice (some ⟨b, 0, none⟩) l.length l.length]) := by
  refine RV.mk' (k := 4) (s := Va.em) (by decide) (by unfold Va.I64; omega) (by decide) ⟨Nat.le_refl _, hm, (fun e => by cases e), fun i hi => ?_⟩
  have hi' : i < xs.length := by omega
  obtain ⟨p, q, r, t, e⟩ := hf xs[i] (List.getElem_mem hi')
  have hc : ∀ k, k < 4 → w.cell? ⟨b, 0 + i * 4 + k, none⟩ = (c4 xs[i])[k]? := fun k hk => by
    rw [hB.cell, ← Array.getElem?_toList, hcs, Nat.zero_add, vcs_at xs hf i k hi' hk]
  rw [e] at hc
  exact ⟨b, 0, xs[i], rfl, hok, ⟨hB.lt, p, q, r, t, e, hc 0 (by omega), hc 1 (by omega), hc 2 (by omega), hc 3 (by omega)⟩, hv i hi hi'⟩
def tv : V := .mk 4 0 Va.em [leaf 2 1 Va.em, leaf 5 3 Va.em]
def t1v : V := .mk 4 0 Va.em [leaf 1 1 Va.em]
theorem i64_lit (n : Int) (h : -1000 ≤ n ∧ n ≤ 1000) : Va.I64 n := ⟨by omega, by omega⟩
theorem tv_rv (w : World) (b : Nat) (hB : Blk w b #[.int .u8 2, .int .i64 1, .string ⟨#[]⟩, .slice none 0 0, .int .u8 5, .int .i64 3, .string ⟨#[]⟩, .slice none 0 0] 25) :
    RV (fun _ => True) w tv (.agg #[.int .u8 4, .int .i64 0, .string ⟨#[]⟩, .slice (some ⟨b, 0, none⟩) 2 2]) :=
  rv_row (l := [leaf 2 1 Va.em, leaf 5 3 Va.em]) (xs := [.agg #[.int .u8 2, .int .i64 1, .string ⟨#[]⟩, .slice none 0 0], .agg #[.int .u8 5, .int .i64 3, .string ⟨#[]⟩, .slice none 0 0]]) hB trivial rfl
    (fun x hx => by simp only [List.mem_cons, List.not_mem_nil, or_false] at hx; rcases hx with rfl | rfl <;> exact ⟨_, _, _, _, rfl⟩) rfl (by unfold maxLen; simp) (fun i h h' => by
      match i, h with
      | 0, _ => exact rv_leaf w 2 1 Va.em (by decide) (i64_lit _ (by omega)) (by decide)
      | 1, _ => exact rv_leaf w 5 3 Va.em (by decide) (i64_lit _ (by omega)) (by decide))
theorem t1v_rv (w : World) (b : Nat) (hB : Blk w b #[.int .u8 1, .int .i64 1, .string ⟨#[]⟩, .slice none 0 0] 25) :
    RV (fun _ => True) w t1v (.agg #[.int .u8 4, .int .i64 0, .string ⟨#[]⟩, .slice (some ⟨b, 0, none⟩) 1 1]) :=
  rv_row (l := [leaf 1 1 Va.em]) (xs := [.agg #[.int .u8 1, .int .i64 1, .string ⟨#[]⟩, .slice none 0 0]]) hB trivial rfl
    (fun x hx => by simp only [List.mem_cons, List.not_mem_nil, or_false] at hx; subst hx; exact ⟨_, _, _, _, rfl⟩) rfl (by unfold maxLen; simp) (fun i h h' => by
      match i, h with
      | 0, _ => exact rv_leaf w 1 1 Va.em (by decide) (i64_lit _ (by omega)) (by decide))
theorem enc_a : Va.enc (leaf 1 (-1) Va.em) = [1, 1] := by rfl
theorem enc_b : Va.enc (leaf 3 0 ⟨#[97, 98]⟩) = [3, 2, 97, 98] := by rfl
theorem enc_c : Va.enc tv = [4, 2, 2, 1, 5, 6] := by rfl
theorem get_a : Va.get [9] 0 = .error 10 := by rfl
theorem get_b : Va.get [2, 2] 0 = .error 10 := by rfl
theorem get_c : Va.get [3, 1] 0 = .error 11 := by rfl
theorem get_d : Va.get [5, 1] 0 = .error 13 := by rfl
theorem show_a : shownPost tv = [40, 116, 114, 117, 101, 44, 32, 64, 51, 41] := by
  have h3 : Lib.itoa 3 = [51] := by unfold Lib.itoa; rw [if_neg (by decide)]; rw [show (3 : Int).toNat = 3 from rfl, Lib.decDigits_one (by decide)]; rfl
  have hr : Va.right tv = true := by rfl
  unfold shownPost
  rw [if_pos hr]
  show Va.tup [Va.bt ((1 : Int) == 1), 64 :: Lib.itoa 3] = _
  rw [h3]; rfl
theorem show_b : shownPost t1v = [40, 49, 44, 41] := by
  have h3 : Lib.itoa 1 = [49] := by unfold Lib.itoa; rw [if_neg (by decide)]; rw [show (1 : Int).toNat = 1 from rfl, Lib.decDigits_one (by decide)]; rfl
  have hr : Va.right t1v = true := by rfl
  unfold shownPost
  rw [if_pos hr]
  show Va.tup [Lib.itoa 1] = _
  rw [h3]; rfl
theorem show_c : shownPost (leaf 3 0 ⟨#[97, 34]⟩) = [34, 97, 92, 50, 50, 34] := by rfl
theorem cmp_a : Va.cmpV (leaf 1 9 Va.em) (leaf 2 0 Va.em) 16 = -1 := by rfl
theorem cmp_b : Va.cmpV t1v (.mk 4 0 Va.em []) 16 = 1 := by rfl
theorem right_a : Va.right (leaf 1 (-1) Va.em) = true := by rfl
theorem right_b : Va.right (leaf 3 0 ⟨#[97, 98]⟩) = true := by rfl
theorem right_c : Va.right tv = true := by rfl
end Go.Proofs.YtgamhgeiceakeaaDoor
