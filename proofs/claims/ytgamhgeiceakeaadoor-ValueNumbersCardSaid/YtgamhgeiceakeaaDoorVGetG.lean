/- package value: the getter's value: a tuple's parts in their row, without the walk. -/
import Derived.Test.YtgamhgeiceakeaaDoorVGetF
set_option linter.unusedVariables false
set_option linter.unusedSimpArgs false
namespace Go.Proofs.YtgamhgeiceakeaaDoor
open Go.RowKit
open Va (V)
theorem Tryd.info_value : (Tryd.prog.info? 25).map (fun i => (i.zero, i.size, i.bytes)) = some (some (.agg #[.int .u8 0, .int .i64 0, .string ⟨#[]⟩, .slice none 0 0]), 4, 56) := by kernel_rfl
def c4 : Value → List Value
  | .agg cs => cs.toList
  | v => [v]
def vcs (xs : List Value) : List Value := xs.flatMap c4
theorem vcs_snoc (xs : List Value) (a b c d : Value) : vcs (xs ++ [.agg #[a, b, c, d]]) = vcs xs ++ [a, b, c, d] := by
  unfold vcs; simp [c4]
def Four (xs : List Value) : Prop := ∀ x ∈ xs, ∃ a b c d, x = Value.agg #[a, b, c, d]
theorem vcs_at : ∀ (xs : List Value), Four xs → ∀ (i k : Nat) (h : i < xs.length), k < 4 → (vcs xs)[i * 4 + k]? = (c4 xs[i])[k]?
  | [], _, i, _, h, _ => by simp at h
  | x :: xs, hf, i, k, h, hk => by
    obtain ⟨a, b, c, d, rfl⟩ := hf x (List.mem_cons_self ..)
    have e : vcs (.agg #[a, b, c, d] :: xs) = [a, b, c, d] ++ vcs xs := by unfold vcs; simp [c4]
    rw [e]
    match i, h with
    | 0, h =>
      rw [List.getElem?_append_left (by simp; omega)]
      simp [c4]
    | i + 1, h =>
      rw [List.getElem?_append_right (by simp; omega)]
      rw [show (i + 1) * 4 + k - [a, b, c, d].length = i * 4 + k by simp; omega]
      rw [vcs_at xs (fun y hy => hf y (List.mem_cons_of_mem _ hy)) i k (by simpa using h) hk]
      rfl
/-- the parts told so far: each reads so, and lies above r0, and not in the row -/
def Prs (r0 : Nat) (w : World) (sv : Value) (acc : List V) (xs : List Value) : Prop := acc.length = xs.length ∧ ∀ i (h : i < acc.length) (h' : i < xs.length), RV (fun b => r0 < b ∧ some b ≠ sv.ownBlock) w acc[i] xs[i]
theorem prs_rl {w : World} {r0 B : Nat} {sv : Value} {acc : List V} {xs : List Value} (hB : B ≤ r0 + 1) (hf : Four xs) (ho : w.ownsRow (r0 + 1) 25 4 sv xs.length (vcs xs)) (hp : Prs r0 w sv acc xs) :
    ∃ g cap, sv = .slice g acc.length cap ∧ RL (fun b => B ≤ b) w acc g cap := by
  obtain ⟨hl, hr⟩ := hp
  rcases ho.2 with ⟨rfl, h0⟩ | ⟨g, cap, cur, rfl, hb, hg, hcap, hm, _⟩
  · exact ⟨none, 0, by rw [hl, h0], ⟨by omega, by unfold maxLen; omega, fun _ => by omega, fun i h => by omega⟩⟩
  · refine ⟨_, cap, by rw [hl], ⟨by omega, hm, (fun e => by cases e), fun i h => ?_⟩⟩
    have hi : i < xs.length := by omega
    have hx := hr i h hi
    obtain ⟨a, b, c, d, e⟩ := hf xs[i] (List.getElem_mem hi)
    have hc : ∀ k, k < 4 → ∀ u, (c4 xs[i])[k]? = some u → w.cell? ⟨g, 0 + i * 4 + k, none⟩ = some u := fun k hk u hu => by
      have := ho.cells (g := g) rfl (i * 4 + k) u (by rw [vcs_at xs hf i k hi hk]; exact hu)
      rw [addPl] at this
      rw [Nat.add_assoc]; exact this
    rw [e] at hc
    refine ⟨g, 0, xs[i], rfl, by omega, ⟨(Array.getElem?_eq_some_iff.1 hg).1, a, b, c, d, e, hc 0 (by omega) _ rfl, hc 1 (by omega) _ rfl, hc 2 (by omega) _ rfl, hc 3 (by omega) _ rfl⟩, hx.mono fun b _ hb => by omega⟩
/-- the state of the loop over a tuple's parts -/
structure TuS (w : World) (p r0 : Nat) (bs : Value) (k a : Nat) (lf : Int) (er : Nat) (sv : Value) (xs : List Value) (W : World) : Prop where
  g : Gv W p bs a lf er
  t : Blk W r0 #[.int .u8 4, .int .i64 0, .string ⟨#[]⟩, sv] 25
  q : Blk W w.heap.size #[.int .u8 0, .int .i64 0, .string ⟨#[]⟩, .slice none 0 0] 25
  gr : w.grownBy W (some p)
  own : W.ownsRow (r0 + 1) 25 4 sv xs.length (vcs xs)
  four : Four xs
  len : xs.length + k ≤ 256
def TuR (RES : Except Nat (List V × Nat × Nat)) (n : Nat) (f : Nat → Nat → Va.Rs) (r0 k a : Nat) (lf : Int) (er : Nat) (sv : Value) (xs : List Value) (W : World) : Prop :=
  (er = 0 ∧ ∃ (lfn : Nat) (acc : List V), lf = (lfn : Nat) ∧ lfn ≤ 256 ∧ a ≤ n ∧ Va.gvN f k a lfn acc = RES ∧ Prs r0 W sv acc xs) ∨ (er ≠ 0 ∧ RES = .error er)
theorem TuS.past {w W W' : World} {p r0 k a er : Nat} {bs sv : Value} {lf : Int} {xs : List Value} (h : TuS w p r0 bs k a lf er sv xs W) (hb : Below W.heap.size W W') : TuS w p r0 bs k a lf er sv xs W' :=
  ⟨h.g.below hb, h.t.below hb, h.q.below hb, grown_below h.gr hb, row_below h.own hb, h.four, h.len⟩
theorem Prs.past {r0 : Nat} {W W' : World} {sv : Value} {acc : List V} {xs : List Value} (h : Prs r0 W sv acc xs) (hb : Below W.heap.size W W') : Prs r0 W' sv acc xs := ⟨h.1, fun i h1 h2 => (h.2 i h1 h2).past hb⟩
/-- what a part's call tells -/
def PartPost (p : Nat) (bs : Value) (R : Va.Rs) (W : World) (e : Ending) (W' : World) : Prop := ∃ (kk nn : Int) (s : ByteArray) (b2 : Option Addr) (m2 c2 a2 : Nat) (lf2 : Int) (er2 : Nat), e = .returned (.agg #[.int .u8 kk, .int .i64 nn, .string s, .slice b2 m2 c2]) ∧ Gv W' p bs a2 lf2 er2 ∧ W.grownBy W' (some p) ∧
  ((er2 = 0 ∧ ∃ (v : V) (lfn : Nat), R = .ok (v, a2, lfn) ∧ lf2 = (lfn : Nat) ∧ RV (fun b => W.heap.size ≤ b) W' v (.agg #[.int .u8 kk, .int .i64 nn, .string s, .slice b2 m2 c2])) ∨ (er2 ≠ 0 ∧ R = .error er2))
theorem part_of {p : Nat} {bs : Value} {R : Va.Rs} {W W' : World} {e : Ending} (h : VaPost p bs R W e W') : PartPost p bs R W e W' := by
  unfold VaPost at h
  rcases R with er | ⟨v, a2, lfn⟩
  · obtain ⟨k, n, s, ba, m, c, at2, left2, he, hne, hg, hr⟩ := h
    exact ⟨k, n, s, ba, m, c, at2, left2, er, he, hg, hr, Or.inr ⟨hne, rfl⟩⟩
  · obtain ⟨x, he, hrv, hg, hr⟩ := h
    obtain ⟨k, n, s, l⟩ := v
    obtain ⟨ba, cap, rfl, _⟩ := hrv.inv
    exact ⟨(k : Int), n, s, ba, l.length, cap, a2, _, 0, he, hg, hr, Or.inl ⟨rfl, _, lfn, rfl, rfl, hrv⟩⟩
/-- one part more -/
theorem tu_step {w W0 W w2 : World} {p r0 k a a2 er2 : Nat} {bs sv sv' : Value} {lf lf2 : Int} {xs : List Value} {o : Obj} {c0 c1 c2 c3 : Value} (hr0 : w.heap.size < r0) (hp : p < w.heap.size) (h : TuS w p r0 bs (k + 1) a lf 0 sv xs W0)
    (hV : Gv W p bs a2 lf2 er2) (hG : W0.grownBy W (some p)) (hgw : Gw (W.alloc o) w2 sv sv') (hown : w2.ownsRow (r0 + 1) 25 4 sv' (xs.length + 1) (vcs xs ++ [c0, c1, c2, c3])) :
    TuS w p r0 bs k a2 lf2 er2 sv' (xs ++ [.agg #[c0, c1, c2, c3]]) (w2.setCell ⟨r0, 3, none⟩ sv') := by
  have hlt := h.own.lt
  have hne : sv.ownBlock ≠ some r0 := fun e => by have := (hlt r0 e).1; omega
  have hneq : sv.ownBlock ≠ some w.heap.size := fun e => by have := (hlt _ e).1; omega
  have hnep : sv.ownBlock ≠ some p := fun e => by have := (hlt _ e).1; omega
  have hset : w2.grownBy (w2.setCell ⟨r0, 3, none⟩ sv') (some r0) := grown_set (grown_refl _ _) _ _
  have hal : Below W.heap.size W (W.alloc o) := (Below.refl _ _).alloc (Nat.le_refl _) _
  have e1 : some p ≠ some r0 := fun e => by cases e; omega
  have e2 : some w.heap.size ≠ some r0 := fun e => by cases e; omega
  have hlt' := hown.lt
  refine ⟨?_, ?_, ?_, ?_, ?_, ?_, ?_⟩
  · exact Blk.kept (Blk.kept (hV.below hal) hgw.grown (fun e => hnep e.symm)) hset e1
  · have h1 := Blk.kept ((h.t.kept hG (fun e => e1 e.symm)).below hal) hgw.grown (fun e => hne e.symm)
    exact h1.set 3 sv'
  · exact Blk.kept (Blk.kept ((h.q.kept hG (fun e => by cases e; omega)).below hal) hgw.grown (fun e => hneq e.symm)) hset e2
  · have h1 := grown_below (grown_trans h.gr hG) hal
    refine ⟨hset.os.trans (hgw.grown.os.trans h1.os), hset.tape.trans (hgw.grown.tape.trans h1.tape), hset.output.trans (hgw.grown.output.trans h1.output), Nat.le_trans h1.size (Nat.le_trans hgw.grown.size hset.size), fun i hi hnp => ?_⟩
    have hi1 : i < (W.alloc o).heap.size := Nat.lt_of_lt_of_le hi h1.size
    rw [hset.block i (Nat.lt_of_lt_of_le hi1 hgw.grown.size) (fun e => by cases e; omega), hgw.grown.block i hi1 (fun e => by have := (hlt i e.symm).1; omega), h1.block i hi hnp]
  · rw [vcs_snoc, List.length_append]
    exact World.ownsRow.kept hown hset (by
      cases hv : sv'.ownBlock with
      | none => exact Or.inl rfl
      | some j => exact Or.inr (fun e => by cases e; have := (hlt' _ hv).1; omega))
  · intro x hx
    rcases List.mem_append.1 hx with hx | hx
    · exact h.four x hx
    · obtain rfl := List.mem_singleton.1 hx; exact ⟨_, _, _, _, rfl⟩
  · have := h.len; rw [List.length_append, List.length_singleton]; omega
theorem prs_step {w W0 W w2 : World} {p r0 k a : Nat} {bs sv sv' : Value} {lf : Int} {xs : List Value} {acc : List V} {o : Obj} {v : V} {x : Value} (hr0 : w.heap.size < r0) (hp : p < w.heap.size) (h : TuS w p r0 bs (k + 1) a lf 0 sv xs W0)
    (hG : W0.grownBy W (some p)) (hgw : Gw (W.alloc o) w2 sv sv') (hx : RV (fun b => W0.heap.size ≤ b) W v x) (hpr : Prs r0 W0 sv acc xs) :
    Prs r0 (w2.setCell ⟨r0, 3, none⟩ sv') sv' (acc ++ [v]) (xs ++ [x]) := by
  have hlt := h.own.lt
  have htl := h.t.lt
  have hal : Below W.heap.size W (W.alloc o) := (Below.refl _ _).alloc (Nat.le_refl _) _
  have key : ∀ (u : V) (y : Value), RV (fun b => r0 < b ∧ some b ≠ sv.ownBlock) W u y → RV (fun b => r0 < b ∧ some b ≠ sv'.ownBlock) (w2.setCell ⟨r0, 3, none⟩ sv') u y := fun u y hu => by
    have h1 : RV (fun b => (r0 < b ∧ some b ≠ sv.ownBlock) ∧ some b ≠ sv'.ownBlock) W u y := hu.mono fun b hb ho => ⟨ho, fun e => by
      rcases hgw.own with q | ⟨j, q, hj⟩
      · exact ho.2 (e.trans q)
      · rw [q] at e; cases e; have := hal.size; omega⟩
    have h2 : RV (fun b => (r0 < b ∧ some b ≠ sv.ownBlock) ∧ some b ≠ sv'.ownBlock) (w2.setCell ⟨r0, 3, none⟩ sv') u y := h1.kept (by simp; exact Nat.le_trans hal.size hgw.grown.size) fun b ho hb => by
      rw [Below.heap_setCell _ _ _ _ (fun e => by
        have e' : r0 = b ∨ b = r0 := by first | exact Or.inl (by simpa using e) | exact Or.inr (by simpa using e)
        omega), hgw.grown.block b (Nat.lt_of_lt_of_le hb hal.size) ho.1.2, hal.block b hb]
    exact h2.mono fun b _ ho => ⟨ho.1.1, ho.2⟩
  have hl := hpr.1
  refine ⟨by simp [hl], fun i h1 h2 => ?_⟩
  by_cases hi : i < acc.length
  · rw [List.getElem_append_left hi, List.getElem_append_left (by omega)]
    refine key _ _ ((hpr.2 i hi (by omega)).kept hG.size fun b ho hb => hG.block b hb (fun e => by cases e; omega))
  · have : i = acc.length := by simp at h1; omega
    subst this
    have e1 : (acc ++ [v])[acc.length] = v := by simp
    have e2 : (xs ++ [x])[acc.length]'h2 = x := by simp [hl]
    rw [e1, e2]
    refine key _ _ (hx.mono fun b _ ho => ⟨by omega, fun e => ?_⟩)
    have := (hlt b e.symm).2
    omega
/-- what the tuple's loop leaves in the end -/
theorem tu_end {w W : World} {p r0 a er : Nat} {bs sv : Value} {lf : Int} {xs : List Value} {n k : Nat} {f : Nat → Nat → Va.Rs} {RES : Except Nat (List V × Nat × Nat)} (hr0 : w.heap.size < r0) (hk : er = 0 → k = 0) (hs : TuS w p r0 bs k a lf er sv xs W) (hr : TuR RES n f r0 k a lf er sv xs W) :
    (er ≠ 0 ∧ RES = .error er) ∨ (er = 0 ∧ ∃ (acc : List V) (lfn : Nat) (g : Option Addr) (cap : Nat), RES = .ok (acc, a, lfn) ∧ lf = (lfn : Nat) ∧ sv = .slice g acc.length cap ∧ RL (fun b => r0 < b) W acc g cap) := by
  rcases hr with ⟨he, lfn, acc, hlf, hl2, ha, hg, hp⟩ | h
  · right
    have := hk he
    subst this
    obtain ⟨g, cap, e, hrl⟩ := prs_rl (Nat.le_refl _) hs.four hs.own hp
    exact ⟨he, acc, lfn, g, cap, by rw [← hg]; rfl, hlf, e, hrl⟩
  · exact Or.inl h
theorem RL.kept {ok : Nat → Prop} {w w' : World} {l : List V} {g : Option Addr} {cap : Nat} (h : RL ok w l g cap) (hs : w.heap.size ≤ w'.heap.size) (hk : ∀ b, ok b → b < w.heap.size → w'.heap[b]? = w.heap[b]?) : RL ok w' l g cap :=
  ⟨h.le, h.max, h.nil, fun i hi => by
    obtain ⟨b, o, x, e, ho, h4, hx⟩ := h.at_ i hi
    exact ⟨b, o, x, e, ho, h4.kept hs (hk b ho h4.lt), hx.kept hs hk⟩⟩
theorem RL.mono {ok ok' : Nat → Prop} {w : World} {l : List V} {g : Option Addr} {cap : Nat} (h : RL ok w l g cap) (hk : ∀ b, b < w.heap.size → ok b → ok' b) : RL ok' w l g cap :=
  ⟨h.le, h.max, h.nil, fun i hi => by
    obtain ⟨b, o, x, e, ho, h4, hx⟩ := h.at_ i hi
    exact ⟨b, o, x, e, hk b h4.lt ho, h4, hx.mono hk⟩⟩
theorem rl_ret {W : World} {p q r0 : Nat} {acc : List V} {g : Option Addr} {cap : Nat} (h : RL (fun b => r0 < b) W acc g cap) (hp : p < q) (hq : q < r0) (u a b c d : Value) :
    RL (fun b => q ≤ b) (((((W.setCell ⟨p, 1, none⟩ u).setCell ⟨q, 0, none⟩ a).setCell ⟨q, 1, none⟩ b).setCell ⟨q, 2, none⟩ c).setCell ⟨q, 3, none⟩ d) acc g cap := by
  refine (h.kept (by simp) fun k hk hlt => ?_).mono fun b _ hb => by omega
  have e1 : ∀ (j : Nat) (i : Nat), j < r0 → ¬ ((⟨j, i, none⟩ : Addr).block = k) := fun j i hj e => by have e' : j = k := e; omega
  have e2 : ∀ (j : Nat) (i : Nat), j < r0 → ¬ (k = (⟨j, i, none⟩ : Addr).block) := fun j i hj e => by have e' : k = j := e; omega
  rw [Below.heap_setCell _ _ _ _ (by first | exact e1 q _ hq | exact e2 q _ hq), Below.heap_setCell _ _ _ _ (by first | exact e1 q _ hq | exact e2 q _ hq), Below.heap_setCell _ _ _ _ (by first | exact e1 q _ hq | exact e2 q _ hq), Below.heap_setCell _ _ _ _ (by first | exact e1 q _ hq | exact e2 q _ hq), Below.heap_setCell _ _ _ _ (by first | exact e1 p _ (by omega) | exact e2 p _ (by omega))]
theorem tur_step {RES : Except Nat (List V × Nat × Nat)} {n lv r0 k a lfn a5 er5 : Nat} {l : List UInt8} {F : Nat → Nat → Va.Rs} {lf5 : Int} {sv' x : Value} {xs : List Value} {acc : List V} {W0 W W3 : World}
    (hk : 0 < k) (hgv : Va.gvN F k a lfn acc = RES) (hl2 : lfn ≤ 256) (ht : Va.Told l lv a lfn (F a lfn)) (hn : l.length = n)
    (hres : (er5 = 0 ∧ ∃ (v : V) (lfn5 : Nat), F a lfn = .ok (v, a5, lfn5) ∧ lf5 = (lfn5 : Nat) ∧ RV (fun b => W0.heap.size ≤ b) W v x) ∨ (er5 ≠ 0 ∧ F a lfn = .error er5))
    (hp : ∀ v, RV (fun b => W0.heap.size ≤ b) W v x → Prs r0 W3 sv' (acc ++ [v]) (xs ++ [x])) : TuR RES n F r0 (k - 1) a5 lf5 er5 sv' (xs ++ [x]) W3 := by
  obtain ⟨j, rfl⟩ : ∃ j, k = j + 1 := ⟨k - 1, by omega⟩
  rw [Nat.add_sub_cancel]
  unfold Va.gvN at hgv
  rcases hres with ⟨he, v, lfn5, hf, hl, hx⟩ | ⟨he, hf⟩
  · rw [hf] at hgv ht
    obtain ⟨_, t2, t3, t4, _⟩ := ht v a5 lfn5 rfl
    exact Or.inl ⟨he, lfn5, acc ++ [v], hl, by omega, by omega, hgv, hp v hx⟩
  · rw [hf] at hgv
    exact Or.inr ⟨he, hgv.symm⟩
end Go.Proofs.YtgamhgeiceakeaaDoor
