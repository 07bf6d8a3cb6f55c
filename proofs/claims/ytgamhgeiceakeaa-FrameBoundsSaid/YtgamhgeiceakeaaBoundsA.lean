/- PROVED: Rows.FrameBoundsSaid: for every input droverlaw03.FrameBounds hands back true, and its arguments read as they did. No condition. As many Nums, Vals and Blobs as may be, and no more; a Blob as long; numbers of a packet up to 2^62; no Data with Seq 0. -/
import Derived.Test.YtgamhgeiceakeaaComE
import Derived.Laws.MakeOwn
import Derived.Deep.DeepCutAuto
import Derived.Deep.RegionHeld3
import Derived.Laws.IdiomArrays
/- Lists that make: what frame.Put makes of a message of so many nothings. -/
set_option linter.unusedVariables false
set_option linter.unusedSimpArgs false
namespace Go.Proofs.Ytgamhgeiceakeaa
open Go.RowKit
open By (Bs)
open Va (V)
open Me (Ms)
abbrev vz0 : Array Value := #[.int .u8 0, .int .i64 0, .string ⟨#[]⟩, .slice none 0 0]
set_option maxRecDepth 100000 in
theorem info_value0 : ∃ i : TypeInfo, Try.prog.info? 25 = some i ∧ i.zero = some (.agg vz0) ∧ i.size = 4 ∧ i.bytes = 56 := ⟨_, rfl, rfl, rfl, rfl⟩
theorem make_values (m : Nat) (hm : m ≤ 1000) (w : World) : (Instr.makeSlice 23 (.int .i64 (m : Int)) (.int .i64 (m : Int))).run Try.prog w = .ok (.slice (some ⟨w.heap.size, 0, none⟩) m m) (w.alloc (.cells (madeCells vz0 (m * 4)) 25)) := by
  obtain ⟨i, h0, h1, h2, h3⟩ := info_value0
  have := run_make (P := Try.prog) w 23 25 i _ Try.underlying23 h0 h1 .i64 .i64 m m (by omega) (Int.le_refl _) (by rw [h3]; omega) (by omega)
  rw [h2, Int.toNat_natCast] at this
  exact this
theorem make_nums (m : Nat) (hm : m ≤ 10000) (w : World) : (Instr.makeSlice 26 (.int .i64 (m : Int)) (.int .i64 (m : Int))).run Try.prog w = .ok (.slice (some ⟨w.heap.size, 0, none⟩) m m) (w.alloc (.cells (madeCells #[.int .i64 0] m) 2)) := by
  obtain ⟨i, hi0, hz0, hzi1, hzi2⟩ := info_parts Try.info_i64
  have := run_make (P := Try.prog) w 26 2 i _ Try.underlying26 hi0 hz0 .i64 .i64 m m (by omega) (Int.le_refl _) (by rw [hzi2]; omega) (by omega)
  rw [hzi1, Int.toNat_natCast, Nat.mul_one] at this
  exact this
theorem make_blobs (m : Nat) (hm : m ≤ 10000) (w : World) : (Instr.makeSlice 28 (.int .i64 (m : Int)) (.int .i64 (m : Int))).run Try.prog w = .ok (.slice (some ⟨w.heap.size, 0, none⟩) m m) (w.alloc (.cells (madeCells #[.slice none 0 0] m) 27)) := by
  obtain ⟨i, hi0, hz0, hzi1, hzi2⟩ := info_parts Try.info_bytes
  have := run_make (P := Try.prog) w 28 27 i _ Try.underlying28 hi0 hz0 .i64 .i64 m m (by omega) (Int.le_refl _) (by rw [hzi2]; omega) (by omega)
  rw [hzi1, Int.toNat_natCast, Nat.mul_one] at this
  exact this
theorem made_one (z : Value) (n i : Nat) (h : i < n) : (madeCells #[z] n)[i]? = some z := by
  unfold madeCells
  simp [h, Nat.mod_one]
namespace Me
def mv : V := .mk 1 0 ⟨#[]⟩ []
def mk (a b c : Nat) : Ms := ⟨7, List.replicate a 0, List.replicate b mv, List.replicate c []⟩
def okB (a b c : Nat) : Bool := decide (a ≤ 64) && (decide (b ≤ 64) && decide (c ≤ 16))
theorem flat_rep {α : Type} (x : α) (f : α → Bs) (k : Nat) (h : (f x).length = k) : ∀ n, ((List.replicate n x).flatMap f).length = n * k
  | 0 => by simp
  | n + 1 => by
    rw [List.replicate_succ, List.flatMap_cons, List.length_append, flat_rep x f k h n, h, Nat.add_mul]
    omega
theorem right_mk (a b c : Nat) (hc : c < 24) : right (mk a b c) = okB a b c := by
  rw [Bool.eq_iff_iff, right_iff]
  unfold mk okB
  simp only [List.length_replicate, Bool.and_eq_true, decide_eq_true_eq]
  constructor
  · rintro ⟨h1, h2, h3, _⟩; exact ⟨h1, h2, h3⟩
  · rintro ⟨h1, h2, h3⟩
    refine ⟨h1, h2, h3, fun v hv => ?_, fun l hl => ?_, ?_⟩
    · obtain rfl := List.eq_of_mem_replicate hv; rfl
    · obtain rfl := List.eq_of_mem_replicate hl; simp
    · have u1 := (By.uv_len a).1
      have u2 := (By.uv_len b).1
      have u3 := (By.uv_len c).1
      have f1 := flat_rep (0 : Int) numB 1 rfl a
      have f2 := flat_rep mv Va.enc 2 rfl b
      have f3 := flat_rep ([] : Bs) By.blob 1 rfl c
      unfold body
      simp only [encL_flat, List.length_cons, List.length_append, List.length_replicate, f1, f2, f3]
      omega
theorem put_mk (a b c : Nat) (hc : c < 24) : ∃ (L : Bs) (e : Nat), put (mk a b c) = (L, e) ∧ ((okB a b c = true ∧ e = 0 ∧ 0 < L.length) ∨ (okB a b c = false ∧ e = 14 ∧ L = [])) := by
  unfold put
  rw [right_mk a b c hc]
  cases okB a b c with
  | true => exact ⟨_, _, rfl, Or.inl ⟨rfl, rfl, by rw [By.shut_len]; omega⟩⟩
  | false => exact ⟨_, _, rfl, Or.inr ⟨rfl, rfl, rfl⟩⟩
end Me
/-- the row of values as VInt 0 -/
def VRow (W : World) (b3 b : Nat) : Prop := ∃ cur : Array Value, Blk W b3 cur 25 ∧ ∀ i, i < b → cur[i * 4]? = some (.int .u8 1) ∧ cur[i * 4 + 1]? = some (.int .i64 0) ∧ cur[i * 4 + 2]? = some (.string ⟨#[]⟩) ∧ cur[i * 4 + 3]? = some (.slice none 0 0)
theorem rv_mv (W : World) : RV (fun _ => True) W Me.mv (.agg #[.int .u8 1, .int .i64 0, .string ⟨#[]⟩, .slice none 0 0]) :=
  RV.mk 1 0 ⟨#[]⟩ [] none 0 (fun _ => .int .i64 0) (by decide) (by unfold Va.I64; omega) (by decide) (Nat.le_refl _) (by simp [maxLen]) (fun _ => rfl) (fun i h => by simp at h) (fun i h => by simp at h)
theorem rm_mk {W : World} {b1 b3 b5 a b c : Nat} (h1 : Blk W b1 (madeCells #[.int .i64 0] a) 2) (h3 : VRow W b3 b) (h5 : Blk W b5 (madeCells #[.slice none 0 0] c) 27) (ha : a ≤ 100) (hb : b ≤ 100) (hc : c ≤ 100) :
    RM (fun _ => True) W (Me.mk a b c) (some ⟨b1, 0, none⟩) (some ⟨b3, 0, none⟩) (some ⟨b5, 0, none⟩) a b c := by
  obtain ⟨cur, hk, hcur⟩ := h3
  unfold Me.mk
  refine ⟨by show 7 < 256; omega, fun n hn => ?_, ⟨by simp, by unfold maxLen; omega, (fun h => by cases h), fun i hi => ?_⟩, ⟨by simp, by unfold maxLen; omega, (fun h => by cases h), fun i hi => ?_⟩, ⟨by simp, by unfold maxLen; omega, (fun h => by cases h), fun i hi => ?_, fun i hi b o g n c' b' o' e1 e2 e3 hne => ?_⟩⟩
  · obtain rfl := List.eq_of_mem_replicate hn
    unfold Va.I64; omega
  · simp only [List.length_replicate] at hi
    refine ⟨b1, 0, rfl, trivial, h1.lt, ?_⟩
    rw [Nat.zero_add, h1.cell, made_one _ _ _ hi]
    simp
  · simp only [List.length_replicate] at hi
    obtain ⟨c0, c1, c2, c3⟩ := hcur i hi
    refine ⟨b3, 0, .agg #[.int .u8 1, .int .i64 0, .string ⟨#[]⟩, .slice none 0 0], rfl, trivial, ?_, ?_⟩
    · exact ⟨hk.lt, _, _, _, _, rfl, by rw [Nat.zero_add, hk.cell]; exact c0, by rw [Nat.zero_add, hk.cell]; exact c1, by rw [Nat.zero_add, hk.cell]; exact c2, by rw [Nat.zero_add, hk.cell]; exact c3⟩
    · simp only [List.getElem_replicate]; exact rv_mv W
  · simp only [List.length_replicate] at hi
    refine ⟨b5, 0, .slice none 0 0, rfl, trivial, h5.lt, ?_, ?_⟩
    · rw [Nat.zero_add, h5.cell, made_one _ _ _ hi]
    · simp only [List.getElem_replicate]
      exact ⟨none, 0, rfl, Or.inl rfl, fun _ => rfl, Nat.le_refl _, by simp [maxLen]⟩
  · simp only [List.getElem_replicate] at hne
    exact absurd rfl hne
theorem fourth {cs : Array Value} {j m t : Nat} {a b c d : Value} (hcs : cs.size = m * 4) (hj : j < m) (ht : t = j) :
    let ds := (((cs.setIfInBounds (j * 4) a).setIfInBounds (j * 4 + 1) b).setIfInBounds (j * 4 + 2) c).setIfInBounds (j * 4 + 3) d
    ds[t * 4]? = some a ∧ ds[t * 4 + 1]? = some b ∧ ds[t * 4 + 2]? = some c ∧ ds[t * 4 + 3]? = some d := by
  subst ht
  intro ds
  refine ⟨?_, ?_, ?_, ?_⟩ <;> (show (((((cs.setIfInBounds (t * 4) a).setIfInBounds (t * 4 + 1) b).setIfInBounds (t * 4 + 2) c).setIfInBounds (t * 4 + 3) d) : Array Value)[_]? = _)
  · rw [Array.getElem?_setIfInBounds_ne (by omega), Array.getElem?_setIfInBounds_ne (by omega), Array.getElem?_setIfInBounds_ne (by omega), Array.getElem?_setIfInBounds_self_of_lt (by omega)]
  · rw [Array.getElem?_setIfInBounds_ne (by omega), Array.getElem?_setIfInBounds_ne (by omega), Array.getElem?_setIfInBounds_self_of_lt (by simp; omega)]
  · rw [Array.getElem?_setIfInBounds_ne (by omega), Array.getElem?_setIfInBounds_self_of_lt (by simp; omega)]
  · rw [Array.getElem?_setIfInBounds_self_of_lt (by simp; omega)]
theorem fifth {cs : Array Value} {j o : Nat} {a b c d : Value} (h : o < j * 4 ∨ j * 4 + 3 < o) :
    ((((cs.setIfInBounds (j * 4) a).setIfInBounds (j * 4 + 1) b).setIfInBounds (j * 4 + 2) c).setIfInBounds (j * 4 + 3) d)[o]? = cs[o]? := by
  rw [Array.getElem?_setIfInBounds_ne (by omega), Array.getElem?_setIfInBounds_ne (by omega), Array.getElem?_setIfInBounds_ne (by omega), Array.getElem?_setIfInBounds_ne (by omega)]
theorem Blk.other {W : World} {p q i : Nat} {u : Value} {cs : Array Value} {T : TypeId} (h : Blk W p cs T) (hne : p ≠ q) : Blk (W.setCell ⟨q, i, none⟩ u) p cs T := by
  unfold Blk; rw [Below.heap_setCell _ _ _ _ (fun e => hne (by rw [e]))]; exact h
end Go.Proofs.Ytgamhgeiceakeaa
/- FrameBounds, the walk. -/
set_option linter.unusedVariables false
set_option linter.unusedSimpArgs false
namespace Go.Proofs.Ytgamhgeiceakeaa
open Go.RowKit
open By (Bs)
open Va (V)
open Me (Ms)
section
variable {P : Program} {ops : Array Oper} {Q : Exit → Act → World → Prop} {md : Region.Mode} {S : World → Prop} {k : Nat}
/-- what is asked of each operation that may come up -/
def AllOps (P : Program) (md : Region.Mode) (ops : Array Oper) (Q : Exit → Act → World → Prop) (S : World → Prop) (k fuel : Nat) (listed : Array Bool) (a : Act) (w : World) : List Nat → Prop
  | [] => True
  | i :: r => (∃ o, ops[i]? = some o ∧ Region.wanted o (yielded ops a.tmps) = true ∧ ∀ K : Act → World → Prop, (∀ a' w', (i ≠ k → S w') → wpAnyT P md ops Q S k fuel (listed.setIfInBounds i true) a' w' → K a' w') → o.wp P a w K Q) ∧ AllOps P md ops Q S k fuel listed a w r
theorem wpAnyT_all (l : List Nat) {fuel : Nat} {listed : Array Bool} {a : Act} {w : World} (hr : Region.ready md ops listed = l) (hl : l ≠ []) (h : AllOps P md ops Q S k fuel listed a w l) : wpAnyT P md ops Q S k (fuel + 1) listed a w := by
  refine ⟨(fun h0 => absurd (hr.symm.trans h0) hl), fun x hx => ?_⟩
  have key : ∀ l' : List Nat, AllOps P md ops Q S k fuel listed a w l' → x ∈ l' → ∃ o, ops[x]? = some o ∧ Region.wanted o (yielded ops a.tmps) = true ∧ ∀ K : Act → World → Prop, (∀ a' w', (x ≠ k → S w') → wpAnyT P md ops Q S k fuel (listed.setIfInBounds x true) a' w' → K a' w') → o.wp P a w K Q := by
    intro l'
    induction l' with
    | nil => intro _ hm; cases hm
    | cons i r ih =>
      rintro ⟨h1, h2⟩ hm
      rcases List.mem_cons.1 hm with rfl | hm
      · exact h1
      · exact ih h2 hm
  obtain ⟨o, ho, hw, hh⟩ := key l h (by rw [← hr]; exact hx)
  unfold wpOp
  simp only [ho, hw, if_true]
  refine Or.inl (hh _ fun a' w' h1 h2 => ⟨fun h3 => h1 ?_, h2⟩)
  rintro rfl
  exact getD_true_of (mem_ready.1 hx).1 h3
end
theorem Blk.alloc_ {w : World} {p : Nat} {cs : Array Value} {T : TypeId} (h : Blk w p cs T) (o : Obj) : Blk (w.alloc o) p cs T := h.below ((Below.refl _ _).alloc (Nat.le_refl _) o)
theorem Blk.drew_ {w : World} {p : Nat} {cs : Array Value} {T : TypeId} (h : Blk w p cs T) : Blk w.drew p cs T := h.below (Below.refl _ _).drew
theorem Blk.set_ {w : World} {p q i : Nat} {cs : Array Value} {T : TypeId} {u : Value} (h : Blk w p cs T) (hq : q ≠ p) : Blk (w.setCell ⟨q, i, none⟩ u) p cs T := h.kept (grown_set (grown_refl w (some q)) i u) (fun e => hq (Option.some.inj e).symm)
theorem Blk.new_ {w : World} {p : Nat} {cs : Array Value} {T : TypeId} (hp : p = w.heap.size) : Blk (w.alloc (.cells cs T)) p cs T := by subst hp; exact Blk.new _ _ _
/-- the first k numbers are ones of a packet -/
def isB (n0 n1 n2 n3 : Int) : Nat → Bool
  | 0 => true
  | 1 => okN n0
  | 2 => okN n0 && okN n1
  | 3 => okN n0 && okN n1 && okN n2
  | _ => okN n0 && okN n1 && okN n2 && okN n3
theorem okN_yes {x : Int} (h : 0 ≤ x) (h2 : x ≤ 4611686018427387904) : okN x = true := (okN_iff x).2 ⟨h, h2⟩
theorem okN_lo {x : Int} (h : ¬ 0 ≤ x) : okN x = false := (okN_no x).2 (by omega)
theorem okN_hi {x : Int} (h : ¬ x ≤ 4611686018427387904) : okN x = false := (okN_no x).2 (by omega)
theorem right_nil (n0 n1 n2 n3 : Int) : rightB n0 n1 n2 n3 0 = isB n0 n1 n2 n3 4 := by unfold rightB isB; simp
theorem right_one (n0 n1 n2 n3 : Int) : rightB n0 n1 n2 n3 1 = (isB n0 n1 n2 n3 4 && n2 != 0) := by
  rw [Bool.eq_iff_iff]
  unfold rightB isB okN
  simp only [Bool.and_eq_true, Bool.or_eq_true, decide_eq_true_eq, bne_iff_ne, ne_eq, beq_iff_eq]
  constructor
  · rintro ⟨h, h1, h2⟩; exact ⟨h, by omega⟩
  · rintro ⟨h, h1⟩; exact ⟨h, by omega, by omega⟩
theorem pack_cases (n0 n1 n2 n3 : Int) (d : Bs) : ∃ (L : Bs) (e : Int), Me.pack n0 n1 n2 n3 d = (L, e) ∧ ((rightB n0 n1 n2 n3 d.length = true ∧ e = 0 ∧ 0 < L.length) ∨ (rightB n0 n1 n2 n3 d.length = false ∧ e = 14 ∧ L = [])) := by
  unfold Me.pack
  cases rightB n0 n1 n2 n3 d.length with
  | true => exact ⟨_, _, rfl, Or.inl ⟨rfl, rfl, by unfold By.pack; rw [By.shut_len]; omega⟩⟩
  | false => exact ⟨_, _, rfl, Or.inr ⟨rfl, rfl, rfl⟩⟩
/-- three lists are made, and the message's box -/
def Made (w : World) (n0 n1 n2 n3 : Int) (a b c : Nat) (v : Value) (wx : World) : Prop := ∃ b1 b3 b5 b7, v = .pointer (some ⟨b7, 0, none⟩) ∧
  Blk wx b7 #[.int .u8 7, .slice (some ⟨b1, 0, none⟩) a a, .slice (some ⟨b3, 0, none⟩) b b, .slice (some ⟨b5, 0, none⟩) c c] 30 ∧
  Blk wx b1 (madeCells #[.int .i64 0] a) 2 ∧ Blk wx b3 (madeCells vz0 (b * 4)) 25 ∧ Blk wx b5 (madeCells #[.slice none 0 0] c) 27 ∧
  w.heap.size < b3 ∧ b1 ≠ b3 ∧ b5 ≠ b3 ∧ b7 ≠ b3 ∧ Below w.heap.size w wx ∧ Blk wx w.heap.size #[.int .i64 n0, .int .i64 n1, .int .i64 n2, .int .i64 n3] 60
theorem made_intro {w : World} {n0 n1 n2 n3 : Int} {a b c b1 b3 b5 b7 : Nat} {v : Value} {wx : World} (hv : v = .pointer (some ⟨b7, 0, none⟩))
    (k7 : Blk wx b7 #[.int .u8 7, .slice (some ⟨b1, 0, none⟩) a a, .slice (some ⟨b3, 0, none⟩) b b, .slice (some ⟨b5, 0, none⟩) c c] 30)
    (k1 : Blk wx b1 (madeCells #[.int .i64 0] a) 2) (k3 : Blk wx b3 (madeCells vz0 (b * 4)) 25) (k5 : Blk wx b5 (madeCells #[.slice none 0 0] c) 27)
    (d3 : w.heap.size < b3) (d13 : b1 ≠ b3) (d53 : b5 ≠ b3) (d73 : b7 ≠ b3) (hb : Below w.heap.size w wx) (hk : Blk wx w.heap.size #[.int .i64 n0, .int .i64 n1, .int .i64 n2, .int .i64 n3] 60) : Made w n0 n1 n2 n3 a b c v wx :=
  ⟨b1, b3, b5, b7, hv, k7, k1, k3, k5, d3, d13, d53, d73, hb, hk⟩
set_option maxHeartbeats 12800000 in
set_option maxRecDepth 100000 in
theorem bounds_row (nums vals blobs : Nat) (n0 n1 n2 n3 : Int) (data : Bool) (w : World) (h1 : nums < 256) (h2 : vals < 256) (h3 : blobs < 256) (hn : Va.I64 n0 ∧ Va.I64 n1 ∧ Va.I64 n2 ∧ Va.I64 n3) :
    Calls Try.prog 8 #[.int .u8 nums, .int .u8 vals, .int .u8 blobs, .agg #[.int .i64 n0, .int .i64 n1, .int .i64 n2, .int .i64 n3], .bool data] w (BB true w) := by
  obtain ⟨a, ha, ha'⟩ : ∃ a : Nat, (nums : Int) % 80 = a ∧ a < 80 := ⟨nums % 80, by omega, by omega⟩
  obtain ⟨b, hb, hb'⟩ : ∃ b : Nat, (vals : Int) % 80 = b ∧ b < 80 := ⟨vals % 80, by omega, by omega⟩
  obtain ⟨c, hc, hc'⟩ : ∃ c : Nat, (blobs : Int) % 24 = c ∧ c < 24 := ⟨blobs % 24, by omega, by omega⟩
  have q1 := make_nums a (by omega)
  have q2 := make_values b (by omega)
  have q3 := make_blobs c (by omega)
  have HX0 := Lib.hid (Blk.new w #[.int .i64 n0, .int .i64 n1, .int .i64 n2, .int .i64 n3] 60)
  have HB0 := Lib.hid ((Below.refl w.heap.size w).alloc (Nat.le_refl _) (.cells #[.int .i64 n0, .int .i64 n1, .int .i64 n2, .int .i64 n3] 60))
  go_enter Try.func8, Try.ntmps8
  go_upto_region 2 with (fail)
  go_cut [14] (fun v wx => Made w n0 n1 n2 n3 a b c v wx)
  case first =>
    refine wp_region_T_drew (fun _ => True) 100 (by kernel_rfl) trivial (fun hS => ?_)
    refine wpAnyT_pure 0 rfl (by kernel_rfl) (by decide) (by kernel_rfl) (by kernel_rfl) (fun _ _ _ h => h) hS (by kernel_rfl) (v := ?_) ?_ ?_
    rotate_left
    · intro w'; go_simp; (try with_reducible rfl)
    simp only [Act.put, List.setIfInBounds_toArray, List.set_cons_zero, List.set_cons_succ]
    refine wpAnyT_pure 2 rfl (by kernel_rfl) (by decide) (by kernel_rfl) (by kernel_rfl) (fun _ _ _ h => h) hS (by kernel_rfl) (v := ?_) ?_ ?_
    rotate_left
    · intro w'; go_simp; (try with_reducible rfl)
    simp only [Act.put, List.setIfInBounds_toArray, List.set_cons_zero, List.set_cons_succ]
    refine wpAnyT_pure 4 rfl (by kernel_rfl) (by decide) (by kernel_rfl) (by kernel_rfl) (fun _ _ _ h => h) hS (by kernel_rfl) (v := ?_) ?_ ?_
    rotate_left
    · intro w'; go_simp; (try with_reducible rfl)
    simp only [Act.put, List.setIfInBounds_toArray, List.set_cons_zero, List.set_cons_succ]
    --ORD
    refine wpAnyT_all [1, 3, 5, 7] (by kernel_rfl) (by decide) ⟨⟨_, rfl, by kernel_rfl, fun K hK => ?_⟩, ⟨_, rfl, by kernel_rfl, fun K hK => ?_⟩, ⟨_, rfl, by kernel_rfl, fun K hK => ?_⟩, ⟨_, rfl, by kernel_rfl, fun K hK => ?_⟩, trivial⟩
    · skip
      go_simp
      refine hK _ _ (fun _ => trivial) ?_
      clear hK K
      refine wpAnyT_all [3, 5, 7] (by kernel_rfl) (by decide) ⟨⟨_, rfl, by kernel_rfl, fun K hK => ?_⟩, ⟨_, rfl, by kernel_rfl, fun K hK => ?_⟩, ⟨_, rfl, by kernel_rfl, fun K hK => ?_⟩, trivial⟩
      · skip
        go_simp
        refine hK _ _ (fun _ => trivial) ?_
        clear hK K
        refine wpAnyT_all [5, 7] (by kernel_rfl) (by decide) ⟨⟨_, rfl, by kernel_rfl, fun K hK => ?_⟩, ⟨_, rfl, by kernel_rfl, fun K hK => ?_⟩, trivial⟩
        · skip
          go_simp
          refine hK _ _ (fun _ => trivial) ?_
          clear hK K
          refine wpAnyT_pure 6 rfl (by kernel_rfl) (by decide) (by kernel_rfl) (by kernel_rfl) (fun _ _ _ h => h) hS (by kernel_rfl) (v := ?_) ?_ ?_
          rotate_left
          · intro w'; go_simp; (try with_reducible rfl)
          simp only [Act.put, List.setIfInBounds_toArray, List.set_cons_zero, List.set_cons_succ]
          refine wpAnyT_one 7 (by kernel_rfl) rfl (by kernel_rfl) (fun K hK => ?_)
          go_simp
          refine hK _ _ (fun _ => trivial) ?_
          clear hK K
          refine wpAnyT_one 8 (by kernel_rfl) rfl (by kernel_rfl) (fun K hK => ?_)
          go_simp
          refine hK _ _ (fun _ => trivial) ?_
          clear hK K
          refine wpAnyT_done (by kernel_rfl) ?_
          go_wp2
          go_meet
          apply made_intro rfl
          · repeat (first | exact Blk.new_ (by simp) | refine Blk.drew_ ?_ | refine Blk.alloc_ ?_ _)
          · repeat (first | exact Blk.new_ (by simp) | refine Blk.drew_ ?_ | refine Blk.alloc_ ?_ _)
          · repeat (first | exact Blk.new_ (by simp) | refine Blk.drew_ ?_ | refine Blk.alloc_ ?_ _)
          · repeat (first | exact Blk.new_ (by simp) | refine Blk.drew_ ?_ | refine Blk.alloc_ ?_ _)
          · omega
          · omega
          · omega
          · omega
          · exact (((((Below.refl w.heap.size w).alloc (Nat.le_refl _) _).alloc (by simp) _).alloc (by simp; omega) _).alloc (by simp; omega) _).alloc (by simp; omega) _ |>.drew
          · repeat (first | exact Blk.new_ (by simp) | refine Blk.drew_ ?_ | refine Blk.alloc_ ?_ _)
        · skip
          go_simp
          refine hK _ _ (fun _ => trivial) ?_
          clear hK K
          refine wpAnyT_one 5 (by kernel_rfl) rfl (by kernel_rfl) (fun K hK => ?_)
          go_simp
          refine hK _ _ (fun _ => trivial) ?_
          clear hK K
          refine wpAnyT_pure 6 rfl (by kernel_rfl) (by decide) (by kernel_rfl) (by kernel_rfl) (fun _ _ _ h => h) hS (by kernel_rfl) (v := ?_) ?_ ?_
          rotate_left
          · intro w'; go_simp; (try with_reducible rfl)
          simp only [Act.put, List.setIfInBounds_toArray, List.set_cons_zero, List.set_cons_succ]
          refine wpAnyT_one 8 (by kernel_rfl) rfl (by kernel_rfl) (fun K hK => ?_)
          go_simp
          refine hK _ _ (fun _ => trivial) ?_
          clear hK K
          refine wpAnyT_done (by kernel_rfl) ?_
          go_wp2
          go_meet
          apply made_intro rfl
          · repeat (first | exact Blk.new_ (by simp) | refine Blk.drew_ ?_ | refine Blk.alloc_ ?_ _)
          · repeat (first | exact Blk.new_ (by simp) | refine Blk.drew_ ?_ | refine Blk.alloc_ ?_ _)
          · repeat (first | exact Blk.new_ (by simp) | refine Blk.drew_ ?_ | refine Blk.alloc_ ?_ _)
          · repeat (first | exact Blk.new_ (by simp) | refine Blk.drew_ ?_ | refine Blk.alloc_ ?_ _)
          · omega
          · omega
          · omega
          · omega
          · exact (((((Below.refl w.heap.size w).alloc (Nat.le_refl _) _).alloc (by simp) _).alloc (by simp; omega) _).alloc (by simp; omega) _).alloc (by simp; omega) _ |>.drew
          · repeat (first | exact Blk.new_ (by simp) | refine Blk.drew_ ?_ | refine Blk.alloc_ ?_ _)
      · skip
        go_simp
        refine hK _ _ (fun _ => trivial) ?_
        clear hK K
        refine wpAnyT_all [3, 7] (by kernel_rfl) (by decide) ⟨⟨_, rfl, by kernel_rfl, fun K hK => ?_⟩, ⟨_, rfl, by kernel_rfl, fun K hK => ?_⟩, trivial⟩
        · skip
          go_simp
          refine hK _ _ (fun _ => trivial) ?_
          clear hK K
          refine wpAnyT_pure 6 rfl (by kernel_rfl) (by decide) (by kernel_rfl) (by kernel_rfl) (fun _ _ _ h => h) hS (by kernel_rfl) (v := ?_) ?_ ?_
          rotate_left
          · intro w'; go_simp; (try with_reducible rfl)
          simp only [Act.put, List.setIfInBounds_toArray, List.set_cons_zero, List.set_cons_succ]
          refine wpAnyT_one 7 (by kernel_rfl) rfl (by kernel_rfl) (fun K hK => ?_)
          go_simp
          refine hK _ _ (fun _ => trivial) ?_
          clear hK K
          refine wpAnyT_one 8 (by kernel_rfl) rfl (by kernel_rfl) (fun K hK => ?_)
          go_simp
          refine hK _ _ (fun _ => trivial) ?_
          clear hK K
          refine wpAnyT_done (by kernel_rfl) ?_
          go_wp2
          go_meet
          apply made_intro rfl
          · repeat (first | exact Blk.new_ (by simp) | refine Blk.drew_ ?_ | refine Blk.alloc_ ?_ _)
          · repeat (first | exact Blk.new_ (by simp) | refine Blk.drew_ ?_ | refine Blk.alloc_ ?_ _)
          · repeat (first | exact Blk.new_ (by simp) | refine Blk.drew_ ?_ | refine Blk.alloc_ ?_ _)
          · repeat (first | exact Blk.new_ (by simp) | refine Blk.drew_ ?_ | refine Blk.alloc_ ?_ _)
          · omega
          · omega
          · omega
          · omega
          · exact (((((Below.refl w.heap.size w).alloc (Nat.le_refl _) _).alloc (by simp) _).alloc (by simp; omega) _).alloc (by simp; omega) _).alloc (by simp; omega) _ |>.drew
          · repeat (first | exact Blk.new_ (by simp) | refine Blk.drew_ ?_ | refine Blk.alloc_ ?_ _)
        · skip
          go_simp
          refine hK _ _ (fun _ => trivial) ?_
          clear hK K
          refine wpAnyT_one 3 (by kernel_rfl) rfl (by kernel_rfl) (fun K hK => ?_)
          go_simp
          refine hK _ _ (fun _ => trivial) ?_
          clear hK K
          refine wpAnyT_pure 6 rfl (by kernel_rfl) (by decide) (by kernel_rfl) (by kernel_rfl) (fun _ _ _ h => h) hS (by kernel_rfl) (v := ?_) ?_ ?_
          rotate_left
          · intro w'; go_simp; (try with_reducible rfl)
          simp only [Act.put, List.setIfInBounds_toArray, List.set_cons_zero, List.set_cons_succ]
          refine wpAnyT_one 8 (by kernel_rfl) rfl (by kernel_rfl) (fun K hK => ?_)
          go_simp
          refine hK _ _ (fun _ => trivial) ?_
          clear hK K
          refine wpAnyT_done (by kernel_rfl) ?_
          go_wp2
          go_meet
          apply made_intro rfl
          · repeat (first | exact Blk.new_ (by simp) | refine Blk.drew_ ?_ | refine Blk.alloc_ ?_ _)
          · repeat (first | exact Blk.new_ (by simp) | refine Blk.drew_ ?_ | refine Blk.alloc_ ?_ _)
          · repeat (first | exact Blk.new_ (by simp) | refine Blk.drew_ ?_ | refine Blk.alloc_ ?_ _)
          · repeat (first | exact Blk.new_ (by simp) | refine Blk.drew_ ?_ | refine Blk.alloc_ ?_ _)
          · omega
          · omega
          · omega
          · omega
          · exact (((((Below.refl w.heap.size w).alloc (Nat.le_refl _) _).alloc (by simp) _).alloc (by simp; omega) _).alloc (by simp; omega) _).alloc (by simp; omega) _ |>.drew
          · repeat (first | exact Blk.new_ (by simp) | refine Blk.drew_ ?_ | refine Blk.alloc_ ?_ _)
      · skip
        go_simp
        refine hK _ _ (fun _ => trivial) ?_
        clear hK K
        refine wpAnyT_all [3, 5] (by kernel_rfl) (by decide) ⟨⟨_, rfl, by kernel_rfl, fun K hK => ?_⟩, ⟨_, rfl, by kernel_rfl, fun K hK => ?_⟩, trivial⟩
        · skip
          go_simp
          refine hK _ _ (fun _ => trivial) ?_
          clear hK K
          refine wpAnyT_one 5 (by kernel_rfl) rfl (by kernel_rfl) (fun K hK => ?_)
          go_simp
          refine hK _ _ (fun _ => trivial) ?_
          clear hK K
          refine wpAnyT_pure 6 rfl (by kernel_rfl) (by decide) (by kernel_rfl) (by kernel_rfl) (fun _ _ _ h => h) hS (by kernel_rfl) (v := ?_) ?_ ?_
          rotate_left
          · intro w'; go_simp; (try with_reducible rfl)
          simp only [Act.put, List.setIfInBounds_toArray, List.set_cons_zero, List.set_cons_succ]
          refine wpAnyT_one 8 (by kernel_rfl) rfl (by kernel_rfl) (fun K hK => ?_)
          go_simp
          refine hK _ _ (fun _ => trivial) ?_
          clear hK K
          refine wpAnyT_done (by kernel_rfl) ?_
          go_wp2
          go_meet
          apply made_intro rfl
          · repeat (first | exact Blk.new_ (by simp) | refine Blk.drew_ ?_ | refine Blk.alloc_ ?_ _)
          · repeat (first | exact Blk.new_ (by simp) | refine Blk.drew_ ?_ | refine Blk.alloc_ ?_ _)
          · repeat (first | exact Blk.new_ (by simp) | refine Blk.drew_ ?_ | refine Blk.alloc_ ?_ _)
          · repeat (first | exact Blk.new_ (by simp) | refine Blk.drew_ ?_ | refine Blk.alloc_ ?_ _)
          · omega
          · omega
          · omega
          · omega
          · exact (((((Below.refl w.heap.size w).alloc (Nat.le_refl _) _).alloc (by simp) _).alloc (by simp; omega) _).alloc (by simp; omega) _).alloc (by simp; omega) _ |>.drew
          · repeat (first | exact Blk.new_ (by simp) | refine Blk.drew_ ?_ | refine Blk.alloc_ ?_ _)
        · skip
          go_simp
          refine hK _ _ (fun _ => trivial) ?_
          clear hK K
          refine wpAnyT_one 3 (by kernel_rfl) rfl (by kernel_rfl) (fun K hK => ?_)
          go_simp
          refine hK _ _ (fun _ => trivial) ?_
          clear hK K
          refine wpAnyT_pure 6 rfl (by kernel_rfl) (by decide) (by kernel_rfl) (by kernel_rfl) (fun _ _ _ h => h) hS (by kernel_rfl) (v := ?_) ?_ ?_
          rotate_left
          · intro w'; go_simp; (try with_reducible rfl)
          simp only [Act.put, List.setIfInBounds_toArray, List.set_cons_zero, List.set_cons_succ]
          refine wpAnyT_one 8 (by kernel_rfl) rfl (by kernel_rfl) (fun K hK => ?_)
          go_simp
          refine hK _ _ (fun _ => trivial) ?_
          clear hK K
          refine wpAnyT_done (by kernel_rfl) ?_
          go_wp2
          go_meet
          apply made_intro rfl
          · repeat (first | exact Blk.new_ (by simp) | refine Blk.drew_ ?_ | refine Blk.alloc_ ?_ _)
          · repeat (first | exact Blk.new_ (by simp) | refine Blk.drew_ ?_ | refine Blk.alloc_ ?_ _)
          · repeat (first | exact Blk.new_ (by simp) | refine Blk.drew_ ?_ | refine Blk.alloc_ ?_ _)
          · repeat (first | exact Blk.new_ (by simp) | refine Blk.drew_ ?_ | refine Blk.alloc_ ?_ _)
          · omega
          · omega
          · omega
          · omega
          · exact (((((Below.refl w.heap.size w).alloc (Nat.le_refl _) _).alloc (by simp) _).alloc (by simp; omega) _).alloc (by simp; omega) _).alloc (by simp; omega) _ |>.drew
          · repeat (first | exact Blk.new_ (by simp) | refine Blk.drew_ ?_ | refine Blk.alloc_ ?_ _)
    · skip
      go_simp
      refine hK _ _ (fun _ => trivial) ?_
      clear hK K
      refine wpAnyT_all [1, 5, 7] (by kernel_rfl) (by decide) ⟨⟨_, rfl, by kernel_rfl, fun K hK => ?_⟩, ⟨_, rfl, by kernel_rfl, fun K hK => ?_⟩, ⟨_, rfl, by kernel_rfl, fun K hK => ?_⟩, trivial⟩
      · skip
        go_simp
        refine hK _ _ (fun _ => trivial) ?_
        clear hK K
        refine wpAnyT_all [5, 7] (by kernel_rfl) (by decide) ⟨⟨_, rfl, by kernel_rfl, fun K hK => ?_⟩, ⟨_, rfl, by kernel_rfl, fun K hK => ?_⟩, trivial⟩
        · skip
          go_simp
          refine hK _ _ (fun _ => trivial) ?_
          clear hK K
          refine wpAnyT_pure 6 rfl (by kernel_rfl) (by decide) (by kernel_rfl) (by kernel_rfl) (fun _ _ _ h => h) hS (by kernel_rfl) (v := ?_) ?_ ?_
          rotate_left
          · intro w'; go_simp; (try with_reducible rfl)
          simp only [Act.put, List.setIfInBounds_toArray, List.set_cons_zero, List.set_cons_succ]
          refine wpAnyT_one 7 (by kernel_rfl) rfl (by kernel_rfl) (fun K hK => ?_)
          go_simp
          refine hK _ _ (fun _ => trivial) ?_
          clear hK K
          refine wpAnyT_one 8 (by kernel_rfl) rfl (by kernel_rfl) (fun K hK => ?_)
          go_simp
          refine hK _ _ (fun _ => trivial) ?_
          clear hK K
          refine wpAnyT_done (by kernel_rfl) ?_
          go_wp2
          go_meet
          apply made_intro rfl
          · repeat (first | exact Blk.new_ (by simp) | refine Blk.drew_ ?_ | refine Blk.alloc_ ?_ _)
          · repeat (first | exact Blk.new_ (by simp) | refine Blk.drew_ ?_ | refine Blk.alloc_ ?_ _)
          · repeat (first | exact Blk.new_ (by simp) | refine Blk.drew_ ?_ | refine Blk.alloc_ ?_ _)
          · repeat (first | exact Blk.new_ (by simp) | refine Blk.drew_ ?_ | refine Blk.alloc_ ?_ _)
          · omega
          · omega
          · omega
          · omega
          · exact (((((Below.refl w.heap.size w).alloc (Nat.le_refl _) _).alloc (by simp) _).alloc (by simp; omega) _).alloc (by simp; omega) _).alloc (by simp; omega) _ |>.drew
          · repeat (first | exact Blk.new_ (by simp) | refine Blk.drew_ ?_ | refine Blk.alloc_ ?_ _)
        · skip
          go_simp
          refine hK _ _ (fun _ => trivial) ?_
          clear hK K
          refine wpAnyT_one 5 (by kernel_rfl) rfl (by kernel_rfl) (fun K hK => ?_)
          go_simp
          refine hK _ _ (fun _ => trivial) ?_
          clear hK K
          refine wpAnyT_pure 6 rfl (by kernel_rfl) (by decide) (by kernel_rfl) (by kernel_rfl) (fun _ _ _ h => h) hS (by kernel_rfl) (v := ?_) ?_ ?_
          rotate_left
          · intro w'; go_simp; (try with_reducible rfl)
          simp only [Act.put, List.setIfInBounds_toArray, List.set_cons_zero, List.set_cons_succ]
          refine wpAnyT_one 8 (by kernel_rfl) rfl (by kernel_rfl) (fun K hK => ?_)
          go_simp
          refine hK _ _ (fun _ => trivial) ?_
          clear hK K
          refine wpAnyT_done (by kernel_rfl) ?_
          go_wp2
          go_meet
          apply made_intro rfl
          · repeat (first | exact Blk.new_ (by simp) | refine Blk.drew_ ?_ | refine Blk.alloc_ ?_ _)
          · repeat (first | exact Blk.new_ (by simp) | refine Blk.drew_ ?_ | refine Blk.alloc_ ?_ _)
          · repeat (first | exact Blk.new_ (by simp) | refine Blk.drew_ ?_ | refine Blk.alloc_ ?_ _)
          · repeat (first | exact Blk.new_ (by simp) | refine Blk.drew_ ?_ | refine Blk.alloc_ ?_ _)
          · omega
          · omega
          · omega
          · omega
          · exact (((((Below.refl w.heap.size w).alloc (Nat.le_refl _) _).alloc (by simp) _).alloc (by simp; omega) _).alloc (by simp; omega) _).alloc (by simp; omega) _ |>.drew
          · repeat (first | exact Blk.new_ (by simp) | refine Blk.drew_ ?_ | refine Blk.alloc_ ?_ _)
      · skip
        go_simp
        refine hK _ _ (fun _ => trivial) ?_
        clear hK K
        refine wpAnyT_all [1, 7] (by kernel_rfl) (by decide) ⟨⟨_, rfl, by kernel_rfl, fun K hK => ?_⟩, ⟨_, rfl, by kernel_rfl, fun K hK => ?_⟩, trivial⟩
        · skip
          go_simp
          refine hK _ _ (fun _ => trivial) ?_
          clear hK K
          refine wpAnyT_pure 6 rfl (by kernel_rfl) (by decide) (by kernel_rfl) (by kernel_rfl) (fun _ _ _ h => h) hS (by kernel_rfl) (v := ?_) ?_ ?_
          rotate_left
          · intro w'; go_simp; (try with_reducible rfl)
          simp only [Act.put, List.setIfInBounds_toArray, List.set_cons_zero, List.set_cons_succ]
          refine wpAnyT_one 7 (by kernel_rfl) rfl (by kernel_rfl) (fun K hK => ?_)
          go_simp
          refine hK _ _ (fun _ => trivial) ?_
          clear hK K
          refine wpAnyT_one 8 (by kernel_rfl) rfl (by kernel_rfl) (fun K hK => ?_)
          go_simp
          refine hK _ _ (fun _ => trivial) ?_
          clear hK K
          refine wpAnyT_done (by kernel_rfl) ?_
          go_wp2
          go_meet
          apply made_intro rfl
          · repeat (first | exact Blk.new_ (by simp) | refine Blk.drew_ ?_ | refine Blk.alloc_ ?_ _)
          · repeat (first | exact Blk.new_ (by simp) | refine Blk.drew_ ?_ | refine Blk.alloc_ ?_ _)
          · repeat (first | exact Blk.new_ (by simp) | refine Blk.drew_ ?_ | refine Blk.alloc_ ?_ _)
          · repeat (first | exact Blk.new_ (by simp) | refine Blk.drew_ ?_ | refine Blk.alloc_ ?_ _)
          · omega
          · omega
          · omega
          · omega
          · exact (((((Below.refl w.heap.size w).alloc (Nat.le_refl _) _).alloc (by simp) _).alloc (by simp; omega) _).alloc (by simp; omega) _).alloc (by simp; omega) _ |>.drew
          · repeat (first | exact Blk.new_ (by simp) | refine Blk.drew_ ?_ | refine Blk.alloc_ ?_ _)
        · skip
          go_simp
          refine hK _ _ (fun _ => trivial) ?_
          clear hK K
          refine wpAnyT_one 1 (by kernel_rfl) rfl (by kernel_rfl) (fun K hK => ?_)
          go_simp
          refine hK _ _ (fun _ => trivial) ?_
          clear hK K
          refine wpAnyT_pure 6 rfl (by kernel_rfl) (by decide) (by kernel_rfl) (by kernel_rfl) (fun _ _ _ h => h) hS (by kernel_rfl) (v := ?_) ?_ ?_
          rotate_left
          · intro w'; go_simp; (try with_reducible rfl)
          simp only [Act.put, List.setIfInBounds_toArray, List.set_cons_zero, List.set_cons_succ]
          refine wpAnyT_one 8 (by kernel_rfl) rfl (by kernel_rfl) (fun K hK => ?_)
          go_simp
          refine hK _ _ (fun _ => trivial) ?_
          clear hK K
          refine wpAnyT_done (by kernel_rfl) ?_
          go_wp2
          go_meet
          apply made_intro rfl
          · repeat (first | exact Blk.new_ (by simp) | refine Blk.drew_ ?_ | refine Blk.alloc_ ?_ _)
          · repeat (first | exact Blk.new_ (by simp) | refine Blk.drew_ ?_ | refine Blk.alloc_ ?_ _)
          · repeat (first | exact Blk.new_ (by simp) | refine Blk.drew_ ?_ | refine Blk.alloc_ ?_ _)
          · repeat (first | exact Blk.new_ (by simp) | refine Blk.drew_ ?_ | refine Blk.alloc_ ?_ _)
          · omega
          · omega
          · omega
          · omega
          · exact (((((Below.refl w.heap.size w).alloc (Nat.le_refl _) _).alloc (by simp) _).alloc (by simp; omega) _).alloc (by simp; omega) _).alloc (by simp; omega) _ |>.drew
          · repeat (first | exact Blk.new_ (by simp) | refine Blk.drew_ ?_ | refine Blk.alloc_ ?_ _)
      · skip
        go_simp
        refine hK _ _ (fun _ => trivial) ?_
        clear hK K
        refine wpAnyT_all [1, 5] (by kernel_rfl) (by decide) ⟨⟨_, rfl, by kernel_rfl, fun K hK => ?_⟩, ⟨_, rfl, by kernel_rfl, fun K hK => ?_⟩, trivial⟩
        · skip
          go_simp
          refine hK _ _ (fun _ => trivial) ?_
          clear hK K
          refine wpAnyT_one 5 (by kernel_rfl) rfl (by kernel_rfl) (fun K hK => ?_)
          go_simp
          refine hK _ _ (fun _ => trivial) ?_
          clear hK K
          refine wpAnyT_pure 6 rfl (by kernel_rfl) (by decide) (by kernel_rfl) (by kernel_rfl) (fun _ _ _ h => h) hS (by kernel_rfl) (v := ?_) ?_ ?_
          rotate_left
          · intro w'; go_simp; (try with_reducible rfl)
          simp only [Act.put, List.setIfInBounds_toArray, List.set_cons_zero, List.set_cons_succ]
          refine wpAnyT_one 8 (by kernel_rfl) rfl (by kernel_rfl) (fun K hK => ?_)
          go_simp
          refine hK _ _ (fun _ => trivial) ?_
          clear hK K
          refine wpAnyT_done (by kernel_rfl) ?_
          go_wp2
          go_meet
          apply made_intro rfl
          · repeat (first | exact Blk.new_ (by simp) | refine Blk.drew_ ?_ | refine Blk.alloc_ ?_ _)
          · repeat (first | exact Blk.new_ (by simp) | refine Blk.drew_ ?_ | refine Blk.alloc_ ?_ _)
          · repeat (first | exact Blk.new_ (by simp) | refine Blk.drew_ ?_ | refine Blk.alloc_ ?_ _)
          · repeat (first | exact Blk.new_ (by simp) | refine Blk.drew_ ?_ | refine Blk.alloc_ ?_ _)
          · omega
          · omega
          · omega
          · omega
          · exact (((((Below.refl w.heap.size w).alloc (Nat.le_refl _) _).alloc (by simp) _).alloc (by simp; omega) _).alloc (by simp; omega) _).alloc (by simp; omega) _ |>.drew
          · repeat (first | exact Blk.new_ (by simp) | refine Blk.drew_ ?_ | refine Blk.alloc_ ?_ _)
        · skip
          go_simp
          refine hK _ _ (fun _ => trivial) ?_
          clear hK K
          refine wpAnyT_one 1 (by kernel_rfl) rfl (by kernel_rfl) (fun K hK => ?_)
          go_simp
          refine hK _ _ (fun _ => trivial) ?_
          clear hK K
          refine wpAnyT_pure 6 rfl (by kernel_rfl) (by decide) (by kernel_rfl) (by kernel_rfl) (fun _ _ _ h => h) hS (by kernel_rfl) (v := ?_) ?_ ?_
          rotate_left
          · intro w'; go_simp; (try with_reducible rfl)
          simp only [Act.put, List.setIfInBounds_toArray, List.set_cons_zero, List.set_cons_succ]
          refine wpAnyT_one 8 (by kernel_rfl) rfl (by kernel_rfl) (fun K hK => ?_)
          go_simp
          refine hK _ _ (fun _ => trivial) ?_
          clear hK K
          refine wpAnyT_done (by kernel_rfl) ?_
          go_wp2
          go_meet
          apply made_intro rfl
          · repeat (first | exact Blk.new_ (by simp) | refine Blk.drew_ ?_ | refine Blk.alloc_ ?_ _)
          · repeat (first | exact Blk.new_ (by simp) | refine Blk.drew_ ?_ | refine Blk.alloc_ ?_ _)
          · repeat (first | exact Blk.new_ (by simp) | refine Blk.drew_ ?_ | refine Blk.alloc_ ?_ _)
          · repeat (first | exact Blk.new_ (by simp) | refine Blk.drew_ ?_ | refine Blk.alloc_ ?_ _)
          · omega
          · omega
          · omega
          · omega
          · exact (((((Below.refl w.heap.size w).alloc (Nat.le_refl _) _).alloc (by simp) _).alloc (by simp; omega) _).alloc (by simp; omega) _).alloc (by simp; omega) _ |>.drew
          · repeat (first | exact Blk.new_ (by simp) | refine Blk.drew_ ?_ | refine Blk.alloc_ ?_ _)
    · skip
      go_simp
      refine hK _ _ (fun _ => trivial) ?_
      clear hK K
      refine wpAnyT_all [1, 3, 7] (by kernel_rfl) (by decide) ⟨⟨_, rfl, by kernel_rfl, fun K hK => ?_⟩, ⟨_, rfl, by kernel_rfl, fun K hK => ?_⟩, ⟨_, rfl, by kernel_rfl, fun K hK => ?_⟩, trivial⟩
      · skip
        go_simp
        refine hK _ _ (fun _ => trivial) ?_
        clear hK K
        refine wpAnyT_all [3, 7] (by kernel_rfl) (by decide) ⟨⟨_, rfl, by kernel_rfl, fun K hK => ?_⟩, ⟨_, rfl, by kernel_rfl, fun K hK => ?_⟩, trivial⟩
        · skip
          go_simp
          refine hK _ _ (fun _ => trivial) ?_
          clear hK K
          refine wpAnyT_pure 6 rfl (by kernel_rfl) (by decide) (by kernel_rfl) (by kernel_rfl) (fun _ _ _ h => h) hS (by kernel_rfl) (v := ?_) ?_ ?_
          rotate_left
          · intro w'; go_simp; (try with_reducible rfl)
          simp only [Act.put, List.setIfInBounds_toArray, List.set_cons_zero, List.set_cons_succ]
          refine wpAnyT_one 7 (by kernel_rfl) rfl (by kernel_rfl) (fun K hK => ?_)
          go_simp
          refine hK _ _ (fun _ => trivial) ?_
          clear hK K
          refine wpAnyT_one 8 (by kernel_rfl) rfl (by kernel_rfl) (fun K hK => ?_)
          go_simp
          refine hK _ _ (fun _ => trivial) ?_
          clear hK K
          refine wpAnyT_done (by kernel_rfl) ?_
          go_wp2
          go_meet
          apply made_intro rfl
          · repeat (first | exact Blk.new_ (by simp) | refine Blk.drew_ ?_ | refine Blk.alloc_ ?_ _)
          · repeat (first | exact Blk.new_ (by simp) | refine Blk.drew_ ?_ | refine Blk.alloc_ ?_ _)
          · repeat (first | exact Blk.new_ (by simp) | refine Blk.drew_ ?_ | refine Blk.alloc_ ?_ _)
          · repeat (first | exact Blk.new_ (by simp) | refine Blk.drew_ ?_ | refine Blk.alloc_ ?_ _)
          · omega
          · omega
          · omega
          · omega
          · exact (((((Below.refl w.heap.size w).alloc (Nat.le_refl _) _).alloc (by simp) _).alloc (by simp; omega) _).alloc (by simp; omega) _).alloc (by simp; omega) _ |>.drew
          · repeat (first | exact Blk.new_ (by simp) | refine Blk.drew_ ?_ | refine Blk.alloc_ ?_ _)
        · skip
          go_simp
          refine hK _ _ (fun _ => trivial) ?_
          clear hK K
          refine wpAnyT_one 3 (by kernel_rfl) rfl (by kernel_rfl) (fun K hK => ?_)
          go_simp
          refine hK _ _ (fun _ => trivial) ?_
          clear hK K
          refine wpAnyT_pure 6 rfl (by kernel_rfl) (by decide) (by kernel_rfl) (by kernel_rfl) (fun _ _ _ h => h) hS (by kernel_rfl) (v := ?_) ?_ ?_
          rotate_left
          · intro w'; go_simp; (try with_reducible rfl)
          simp only [Act.put, List.setIfInBounds_toArray, List.set_cons_zero, List.set_cons_succ]
          refine wpAnyT_one 8 (by kernel_rfl) rfl (by kernel_rfl) (fun K hK => ?_)
          go_simp
          refine hK _ _ (fun _ => trivial) ?_
          clear hK K
          refine wpAnyT_done (by kernel_rfl) ?_
          go_wp2
          go_meet
          apply made_intro rfl
          · repeat (first | exact Blk.new_ (by simp) | refine Blk.drew_ ?_ | refine Blk.alloc_ ?_ _)
          · repeat (first | exact Blk.new_ (by simp) | refine Blk.drew_ ?_ | refine Blk.alloc_ ?_ _)
          · repeat (first | exact Blk.new_ (by simp) | refine Blk.drew_ ?_ | refine Blk.alloc_ ?_ _)
          · repeat (first | exact Blk.new_ (by simp) | refine Blk.drew_ ?_ | refine Blk.alloc_ ?_ _)
          · omega
          · omega
          · omega
          · omega
          · exact (((((Below.refl w.heap.size w).alloc (Nat.le_refl _) _).alloc (by simp) _).alloc (by simp; omega) _).alloc (by simp; omega) _).alloc (by simp; omega) _ |>.drew
          · repeat (first | exact Blk.new_ (by simp) | refine Blk.drew_ ?_ | refine Blk.alloc_ ?_ _)
      · skip
        go_simp
        refine hK _ _ (fun _ => trivial) ?_
        clear hK K
        refine wpAnyT_all [1, 7] (by kernel_rfl) (by decide) ⟨⟨_, rfl, by kernel_rfl, fun K hK => ?_⟩, ⟨_, rfl, by kernel_rfl, fun K hK => ?_⟩, trivial⟩
        · skip
          go_simp
          refine hK _ _ (fun _ => trivial) ?_
          clear hK K
          refine wpAnyT_pure 6 rfl (by kernel_rfl) (by decide) (by kernel_rfl) (by kernel_rfl) (fun _ _ _ h => h) hS (by kernel_rfl) (v := ?_) ?_ ?_
          rotate_left
          · intro w'; go_simp; (try with_reducible rfl)
          simp only [Act.put, List.setIfInBounds_toArray, List.set_cons_zero, List.set_cons_succ]
          refine wpAnyT_one 7 (by kernel_rfl) rfl (by kernel_rfl) (fun K hK => ?_)
          go_simp
          refine hK _ _ (fun _ => trivial) ?_
          clear hK K
          refine wpAnyT_one 8 (by kernel_rfl) rfl (by kernel_rfl) (fun K hK => ?_)
          go_simp
          refine hK _ _ (fun _ => trivial) ?_
          clear hK K
          refine wpAnyT_done (by kernel_rfl) ?_
          go_wp2
          go_meet
          apply made_intro rfl
          · repeat (first | exact Blk.new_ (by simp) | refine Blk.drew_ ?_ | refine Blk.alloc_ ?_ _)
          · repeat (first | exact Blk.new_ (by simp) | refine Blk.drew_ ?_ | refine Blk.alloc_ ?_ _)
          · repeat (first | exact Blk.new_ (by simp) | refine Blk.drew_ ?_ | refine Blk.alloc_ ?_ _)
          · repeat (first | exact Blk.new_ (by simp) | refine Blk.drew_ ?_ | refine Blk.alloc_ ?_ _)
          · omega
          · omega
          · omega
          · omega
          · exact (((((Below.refl w.heap.size w).alloc (Nat.le_refl _) _).alloc (by simp) _).alloc (by simp; omega) _).alloc (by simp; omega) _).alloc (by simp; omega) _ |>.drew
          · repeat (first | exact Blk.new_ (by simp) | refine Blk.drew_ ?_ | refine Blk.alloc_ ?_ _)
        · skip
          go_simp
          refine hK _ _ (fun _ => trivial) ?_
          clear hK K
          refine wpAnyT_one 1 (by kernel_rfl) rfl (by kernel_rfl) (fun K hK => ?_)
          go_simp
          refine hK _ _ (fun _ => trivial) ?_
          clear hK K
          refine wpAnyT_pure 6 rfl (by kernel_rfl) (by decide) (by kernel_rfl) (by kernel_rfl) (fun _ _ _ h => h) hS (by kernel_rfl) (v := ?_) ?_ ?_
          rotate_left
          · intro w'; go_simp; (try with_reducible rfl)
          simp only [Act.put, List.setIfInBounds_toArray, List.set_cons_zero, List.set_cons_succ]
          refine wpAnyT_one 8 (by kernel_rfl) rfl (by kernel_rfl) (fun K hK => ?_)
          go_simp
          refine hK _ _ (fun _ => trivial) ?_
          clear hK K
          refine wpAnyT_done (by kernel_rfl) ?_
          go_wp2
          go_meet
          apply made_intro rfl
          · repeat (first | exact Blk.new_ (by simp) | refine Blk.drew_ ?_ | refine Blk.alloc_ ?_ _)
          · repeat (first | exact Blk.new_ (by simp) | refine Blk.drew_ ?_ | refine Blk.alloc_ ?_ _)
          · repeat (first | exact Blk.new_ (by simp) | refine Blk.drew_ ?_ | refine Blk.alloc_ ?_ _)
          · repeat (first | exact Blk.new_ (by simp) | refine Blk.drew_ ?_ | refine Blk.alloc_ ?_ _)
          · omega
          · omega
          · omega
          · omega
          · exact (((((Below.refl w.heap.size w).alloc (Nat.le_refl _) _).alloc (by simp) _).alloc (by simp; omega) _).alloc (by simp; omega) _).alloc (by simp; omega) _ |>.drew
          · repeat (first | exact Blk.new_ (by simp) | refine Blk.drew_ ?_ | refine Blk.alloc_ ?_ _)
      · skip
        go_simp
        refine hK _ _ (fun _ => trivial) ?_
        clear hK K
        refine wpAnyT_all [1, 3] (by kernel_rfl) (by decide) ⟨⟨_, rfl, by kernel_rfl, fun K hK => ?_⟩, ⟨_, rfl, by kernel_rfl, fun K hK => ?_⟩, trivial⟩
        · skip
          go_simp
          refine hK _ _ (fun _ => trivial) ?_
          clear hK K
          refine wpAnyT_one 3 (by kernel_rfl) rfl (by kernel_rfl) (fun K hK => ?_)
          go_simp
          refine hK _ _ (fun _ => trivial) ?_
          clear hK K
          refine wpAnyT_pure 6 rfl (by kernel_rfl) (by decide) (by kernel_rfl) (by kernel_rfl) (fun _ _ _ h => h) hS (by kernel_rfl) (v := ?_) ?_ ?_
          rotate_left
          · intro w'; go_simp; (try with_reducible rfl)
          simp only [Act.put, List.setIfInBounds_toArray, List.set_cons_zero, List.set_cons_succ]
          refine wpAnyT_one 8 (by kernel_rfl) rfl (by kernel_rfl) (fun K hK => ?_)
          go_simp
          refine hK _ _ (fun _ => trivial) ?_
          clear hK K
          refine wpAnyT_done (by kernel_rfl) ?_
          go_wp2
          go_meet
          apply made_intro rfl
          · repeat (first | exact Blk.new_ (by simp) | refine Blk.drew_ ?_ | refine Blk.alloc_ ?_ _)
          · repeat (first | exact Blk.new_ (by simp) | refine Blk.drew_ ?_ | refine Blk.alloc_ ?_ _)
          · repeat (first | exact Blk.new_ (by simp) | refine Blk.drew_ ?_ | refine Blk.alloc_ ?_ _)
          · repeat (first | exact Blk.new_ (by simp) | refine Blk.drew_ ?_ | refine Blk.alloc_ ?_ _)
          · omega
          · omega
          · omega
          · omega
          · exact (((((Below.refl w.heap.size w).alloc (Nat.le_refl _) _).alloc (by simp) _).alloc (by simp; omega) _).alloc (by simp; omega) _).alloc (by simp; omega) _ |>.drew
          · repeat (first | exact Blk.new_ (by simp) | refine Blk.drew_ ?_ | refine Blk.alloc_ ?_ _)
        · skip
          go_simp
          refine hK _ _ (fun _ => trivial) ?_
          clear hK K
          refine wpAnyT_one 1 (by kernel_rfl) rfl (by kernel_rfl) (fun K hK => ?_)
          go_simp
          refine hK _ _ (fun _ => trivial) ?_
          clear hK K
          refine wpAnyT_pure 6 rfl (by kernel_rfl) (by decide) (by kernel_rfl) (by kernel_rfl) (fun _ _ _ h => h) hS (by kernel_rfl) (v := ?_) ?_ ?_
          rotate_left
          · intro w'; go_simp; (try with_reducible rfl)
          simp only [Act.put, List.setIfInBounds_toArray, List.set_cons_zero, List.set_cons_succ]
          refine wpAnyT_one 8 (by kernel_rfl) rfl (by kernel_rfl) (fun K hK => ?_)
          go_simp
          refine hK _ _ (fun _ => trivial) ?_
          clear hK K
          refine wpAnyT_done (by kernel_rfl) ?_
          go_wp2
          go_meet
          apply made_intro rfl
          · repeat (first | exact Blk.new_ (by simp) | refine Blk.drew_ ?_ | refine Blk.alloc_ ?_ _)
          · repeat (first | exact Blk.new_ (by simp) | refine Blk.drew_ ?_ | refine Blk.alloc_ ?_ _)
          · repeat (first | exact Blk.new_ (by simp) | refine Blk.drew_ ?_ | refine Blk.alloc_ ?_ _)
          · repeat (first | exact Blk.new_ (by simp) | refine Blk.drew_ ?_ | refine Blk.alloc_ ?_ _)
          · omega
          · omega
          · omega
          · omega
          · exact (((((Below.refl w.heap.size w).alloc (Nat.le_refl _) _).alloc (by simp) _).alloc (by simp; omega) _).alloc (by simp; omega) _).alloc (by simp; omega) _ |>.drew
          · repeat (first | exact Blk.new_ (by simp) | refine Blk.drew_ ?_ | refine Blk.alloc_ ?_ _)
    · skip
      go_simp
      refine hK _ _ (fun _ => trivial) ?_
      clear hK K
      refine wpAnyT_all [1, 3, 5] (by kernel_rfl) (by decide) ⟨⟨_, rfl, by kernel_rfl, fun K hK => ?_⟩, ⟨_, rfl, by kernel_rfl, fun K hK => ?_⟩, ⟨_, rfl, by kernel_rfl, fun K hK => ?_⟩, trivial⟩
      · skip
        go_simp
        refine hK _ _ (fun _ => trivial) ?_
        clear hK K
        refine wpAnyT_all [3, 5] (by kernel_rfl) (by decide) ⟨⟨_, rfl, by kernel_rfl, fun K hK => ?_⟩, ⟨_, rfl, by kernel_rfl, fun K hK => ?_⟩, trivial⟩
        · skip
          go_simp
          refine hK _ _ (fun _ => trivial) ?_
          clear hK K
          refine wpAnyT_one 5 (by kernel_rfl) rfl (by kernel_rfl) (fun K hK => ?_)
          go_simp
          refine hK _ _ (fun _ => trivial) ?_
          clear hK K
          refine wpAnyT_pure 6 rfl (by kernel_rfl) (by decide) (by kernel_rfl) (by kernel_rfl) (fun _ _ _ h => h) hS (by kernel_rfl) (v := ?_) ?_ ?_
          rotate_left
          · intro w'; go_simp; (try with_reducible rfl)
          simp only [Act.put, List.setIfInBounds_toArray, List.set_cons_zero, List.set_cons_succ]
          refine wpAnyT_one 8 (by kernel_rfl) rfl (by kernel_rfl) (fun K hK => ?_)
          go_simp
          refine hK _ _ (fun _ => trivial) ?_
          clear hK K
          refine wpAnyT_done (by kernel_rfl) ?_
          go_wp2
          go_meet
          apply made_intro rfl
          · repeat (first | exact Blk.new_ (by simp) | refine Blk.drew_ ?_ | refine Blk.alloc_ ?_ _)
          · repeat (first | exact Blk.new_ (by simp) | refine Blk.drew_ ?_ | refine Blk.alloc_ ?_ _)
          · repeat (first | exact Blk.new_ (by simp) | refine Blk.drew_ ?_ | refine Blk.alloc_ ?_ _)
          · repeat (first | exact Blk.new_ (by simp) | refine Blk.drew_ ?_ | refine Blk.alloc_ ?_ _)
          · omega
          · omega
          · omega
          · omega
          · exact (((((Below.refl w.heap.size w).alloc (Nat.le_refl _) _).alloc (by simp) _).alloc (by simp; omega) _).alloc (by simp; omega) _).alloc (by simp; omega) _ |>.drew
          · repeat (first | exact Blk.new_ (by simp) | refine Blk.drew_ ?_ | refine Blk.alloc_ ?_ _)
        · skip
          go_simp
          refine hK _ _ (fun _ => trivial) ?_
          clear hK K
          refine wpAnyT_one 3 (by kernel_rfl) rfl (by kernel_rfl) (fun K hK => ?_)
          go_simp
          refine hK _ _ (fun _ => trivial) ?_
          clear hK K
          refine wpAnyT_pure 6 rfl (by kernel_rfl) (by decide) (by kernel_rfl) (by kernel_rfl) (fun _ _ _ h => h) hS (by kernel_rfl) (v := ?_) ?_ ?_
          rotate_left
          · intro w'; go_simp; (try with_reducible rfl)
          simp only [Act.put, List.setIfInBounds_toArray, List.set_cons_zero, List.set_cons_succ]
          refine wpAnyT_one 8 (by kernel_rfl) rfl (by kernel_rfl) (fun K hK => ?_)
          go_simp
          refine hK _ _ (fun _ => trivial) ?_
          clear hK K
          refine wpAnyT_done (by kernel_rfl) ?_
          go_wp2
          go_meet
          apply made_intro rfl
          · repeat (first | exact Blk.new_ (by simp) | refine Blk.drew_ ?_ | refine Blk.alloc_ ?_ _)
          · repeat (first | exact Blk.new_ (by simp) | refine Blk.drew_ ?_ | refine Blk.alloc_ ?_ _)
          · repeat (first | exact Blk.new_ (by simp) | refine Blk.drew_ ?_ | refine Blk.alloc_ ?_ _)
          · repeat (first | exact Blk.new_ (by simp) | refine Blk.drew_ ?_ | refine Blk.alloc_ ?_ _)
          · omega
          · omega
          · omega
          · omega
          · exact (((((Below.refl w.heap.size w).alloc (Nat.le_refl _) _).alloc (by simp) _).alloc (by simp; omega) _).alloc (by simp; omega) _).alloc (by simp; omega) _ |>.drew
          · repeat (first | exact Blk.new_ (by simp) | refine Blk.drew_ ?_ | refine Blk.alloc_ ?_ _)
      · skip
        go_simp
        refine hK _ _ (fun _ => trivial) ?_
        clear hK K
        refine wpAnyT_all [1, 5] (by kernel_rfl) (by decide) ⟨⟨_, rfl, by kernel_rfl, fun K hK => ?_⟩, ⟨_, rfl, by kernel_rfl, fun K hK => ?_⟩, trivial⟩
        · skip
          go_simp
          refine hK _ _ (fun _ => trivial) ?_
          clear hK K
          refine wpAnyT_one 5 (by kernel_rfl) rfl (by kernel_rfl) (fun K hK => ?_)
          go_simp
          refine hK _ _ (fun _ => trivial) ?_
          clear hK K
          refine wpAnyT_pure 6 rfl (by kernel_rfl) (by decide) (by kernel_rfl) (by kernel_rfl) (fun _ _ _ h => h) hS (by kernel_rfl) (v := ?_) ?_ ?_
          rotate_left
          · intro w'; go_simp; (try with_reducible rfl)
          simp only [Act.put, List.setIfInBounds_toArray, List.set_cons_zero, List.set_cons_succ]
          refine wpAnyT_one 8 (by kernel_rfl) rfl (by kernel_rfl) (fun K hK => ?_)
          go_simp
          refine hK _ _ (fun _ => trivial) ?_
          clear hK K
          refine wpAnyT_done (by kernel_rfl) ?_
          go_wp2
          go_meet
          apply made_intro rfl
          · repeat (first | exact Blk.new_ (by simp) | refine Blk.drew_ ?_ | refine Blk.alloc_ ?_ _)
          · repeat (first | exact Blk.new_ (by simp) | refine Blk.drew_ ?_ | refine Blk.alloc_ ?_ _)
          · repeat (first | exact Blk.new_ (by simp) | refine Blk.drew_ ?_ | refine Blk.alloc_ ?_ _)
          · repeat (first | exact Blk.new_ (by simp) | refine Blk.drew_ ?_ | refine Blk.alloc_ ?_ _)
          · omega
          · omega
          · omega
          · omega
          · exact (((((Below.refl w.heap.size w).alloc (Nat.le_refl _) _).alloc (by simp) _).alloc (by simp; omega) _).alloc (by simp; omega) _).alloc (by simp; omega) _ |>.drew
          · repeat (first | exact Blk.new_ (by simp) | refine Blk.drew_ ?_ | refine Blk.alloc_ ?_ _)
        · skip
          go_simp
          refine hK _ _ (fun _ => trivial) ?_
          clear hK K
          refine wpAnyT_one 1 (by kernel_rfl) rfl (by kernel_rfl) (fun K hK => ?_)
          go_simp
          refine hK _ _ (fun _ => trivial) ?_
          clear hK K
          refine wpAnyT_pure 6 rfl (by kernel_rfl) (by decide) (by kernel_rfl) (by kernel_rfl) (fun _ _ _ h => h) hS (by kernel_rfl) (v := ?_) ?_ ?_
          rotate_left
          · intro w'; go_simp; (try with_reducible rfl)
          simp only [Act.put, List.setIfInBounds_toArray, List.set_cons_zero, List.set_cons_succ]
          refine wpAnyT_one 8 (by kernel_rfl) rfl (by kernel_rfl) (fun K hK => ?_)
          go_simp
          refine hK _ _ (fun _ => trivial) ?_
          clear hK K
          refine wpAnyT_done (by kernel_rfl) ?_
          go_wp2
          go_meet
          apply made_intro rfl
          · repeat (first | exact Blk.new_ (by simp) | refine Blk.drew_ ?_ | refine Blk.alloc_ ?_ _)
          · repeat (first | exact Blk.new_ (by simp) | refine Blk.drew_ ?_ | refine Blk.alloc_ ?_ _)
          · repeat (first | exact Blk.new_ (by simp) | refine Blk.drew_ ?_ | refine Blk.alloc_ ?_ _)
          · repeat (first | exact Blk.new_ (by simp) | refine Blk.drew_ ?_ | refine Blk.alloc_ ?_ _)
          · omega
          · omega
          · omega
          · omega
          · exact (((((Below.refl w.heap.size w).alloc (Nat.le_refl _) _).alloc (by simp) _).alloc (by simp; omega) _).alloc (by simp; omega) _).alloc (by simp; omega) _ |>.drew
          · repeat (first | exact Blk.new_ (by simp) | refine Blk.drew_ ?_ | refine Blk.alloc_ ?_ _)
      · skip
        go_simp
        refine hK _ _ (fun _ => trivial) ?_
        clear hK K
        refine wpAnyT_all [1, 3] (by kernel_rfl) (by decide) ⟨⟨_, rfl, by kernel_rfl, fun K hK => ?_⟩, ⟨_, rfl, by kernel_rfl, fun K hK => ?_⟩, trivial⟩
        · skip
          go_simp
          refine hK _ _ (fun _ => trivial) ?_
          clear hK K
          refine wpAnyT_one 3 (by kernel_rfl) rfl (by kernel_rfl) (fun K hK => ?_)
          go_simp
          refine hK _ _ (fun _ => trivial) ?_
          clear hK K
          refine wpAnyT_pure 6 rfl (by kernel_rfl) (by decide) (by kernel_rfl) (by kernel_rfl) (fun _ _ _ h => h) hS (by kernel_rfl) (v := ?_) ?_ ?_
          rotate_left
          · intro w'; go_simp; (try with_reducible rfl)
          simp only [Act.put, List.setIfInBounds_toArray, List.set_cons_zero, List.set_cons_succ]
          refine wpAnyT_one 8 (by kernel_rfl) rfl (by kernel_rfl) (fun K hK => ?_)
          go_simp
          refine hK _ _ (fun _ => trivial) ?_
          clear hK K
          refine wpAnyT_done (by kernel_rfl) ?_
          go_wp2
          go_meet
          apply made_intro rfl
          · repeat (first | exact Blk.new_ (by simp) | refine Blk.drew_ ?_ | refine Blk.alloc_ ?_ _)
          · repeat (first | exact Blk.new_ (by simp) | refine Blk.drew_ ?_ | refine Blk.alloc_ ?_ _)
          · repeat (first | exact Blk.new_ (by simp) | refine Blk.drew_ ?_ | refine Blk.alloc_ ?_ _)
          · repeat (first | exact Blk.new_ (by simp) | refine Blk.drew_ ?_ | refine Blk.alloc_ ?_ _)
          · omega
          · omega
          · omega
          · omega
          · exact (((((Below.refl w.heap.size w).alloc (Nat.le_refl _) _).alloc (by simp) _).alloc (by simp; omega) _).alloc (by simp; omega) _).alloc (by simp; omega) _ |>.drew
          · repeat (first | exact Blk.new_ (by simp) | refine Blk.drew_ ?_ | refine Blk.alloc_ ?_ _)
        · skip
          go_simp
          refine hK _ _ (fun _ => trivial) ?_
          clear hK K
          refine wpAnyT_one 1 (by kernel_rfl) rfl (by kernel_rfl) (fun K hK => ?_)
          go_simp
          refine hK _ _ (fun _ => trivial) ?_
          clear hK K
          refine wpAnyT_pure 6 rfl (by kernel_rfl) (by decide) (by kernel_rfl) (by kernel_rfl) (fun _ _ _ h => h) hS (by kernel_rfl) (v := ?_) ?_ ?_
          rotate_left
          · intro w'; go_simp; (try with_reducible rfl)
          simp only [Act.put, List.setIfInBounds_toArray, List.set_cons_zero, List.set_cons_succ]
          refine wpAnyT_one 8 (by kernel_rfl) rfl (by kernel_rfl) (fun K hK => ?_)
          go_simp
          refine hK _ _ (fun _ => trivial) ?_
          clear hK K
          refine wpAnyT_done (by kernel_rfl) ?_
          go_wp2
          go_meet
          apply made_intro rfl
          · repeat (first | exact Blk.new_ (by simp) | refine Blk.drew_ ?_ | refine Blk.alloc_ ?_ _)
          · repeat (first | exact Blk.new_ (by simp) | refine Blk.drew_ ?_ | refine Blk.alloc_ ?_ _)
          · repeat (first | exact Blk.new_ (by simp) | refine Blk.drew_ ?_ | refine Blk.alloc_ ?_ _)
          · repeat (first | exact Blk.new_ (by simp) | refine Blk.drew_ ?_ | refine Blk.alloc_ ?_ _)
          · omega
          · omega
          · omega
          · omega
          · exact (((((Below.refl w.heap.size w).alloc (Nat.le_refl _) _).alloc (by simp) _).alloc (by simp; omega) _).alloc (by simp; omega) _).alloc (by simp; omega) _ |>.drew
          · repeat (first | exact Blk.new_ (by simp) | refine Blk.drew_ ?_ | refine Blk.alloc_ ?_ _)
    --ENDORD
  case rest =>
    clear HX0 HB0 q1 q2 q3 ha hb hc
    obtain ⟨b1, b3, b5, b7, rfl, k7, k1, k3, k5, gg3, d1, d5, d7, hbl, kn⟩ := hcut
    have HK7 := Lib.hid k7
    have HK1 := Lib.hid k1
    have HK5 := Lib.hid k5
    have HKN := Lib.hid kn
    have HBL := Lib.hid hbl
    have x0 := k7.cell 0
    have x1 := k7.cell 1
    have x2 := k7.cell 2
    have x3 := k7.cell 3
    have xlt := k7.lt
    clear k7 k1 k5 kn hbl
    go_wp2_with fail
    refine (?_ : ∀ W5, Blk W5 b7 #[.int .u8 7, .slice (some ⟨b1, 0, none⟩) a a, .slice (some ⟨b3, 0, none⟩) b b, .slice (some ⟨b5, 0, none⟩) c c] 30 → Blk W5 b1 (madeCells #[.int .i64 0] a) 2 → Blk W5 b3 (madeCells vz0 (b * 4)) 25 → Blk W5 b5 (madeCells #[.slice none 0 0] c) 27 → Blk W5 w.heap.size #[.int .i64 n0, .int .i64 n1, .int .i64 n2, .int .i64 n3] 60 → Below w.heap.size w W5 → Code.wp _ _ _ _ W5) _ HK7.out HK1.out k3 HK5.out HKN.out HBL.out
    clear HK7 HK1 HK5 HKN HBL k3 x0 x1 x2 x3 xlt
    intro W5 k7 k1 k3 k5 kn kb
    have HK7 := Lib.hid k7
    have HK1 := Lib.hid k1
    have HK3 := Lib.hid k3
    have HK5 := Lib.hid k5
    have HKN := Lib.hid kn
    have HBL := Lib.hid kb
    clear k7 k1 k3 k5 kn kb
    go_loopw [15, 43] (fun jv iv wr => ∃ (j : Nat) (cs : Array Value), j ≤ b ∧ iv = .int .i64 j ∧ W5.grownBy wr (some b3) ∧ Blk wr b3 cs 25 ∧ cs.size = b * 4 ∧ (∀ t, t < j → cs[t * 4]? = some (.int .u8 1) ∧ cs[t * 4 + 1]? = some (.int .i64 0) ∧ cs[t * 4 + 2]? = some (.string ⟨#[]⟩) ∧ cs[t * 4 + 3]? = some (.slice none 0 0))) (fun _ iv _ => b - (intOf iv).toNat)
    case atStart => exact ⟨0, _, by omega, rfl, grown_refl _ _, HK3.out, size_madeCells _ _, fun t ht => by omega⟩
    case round =>
      obtain ⟨j, cs, hj, rfl, hg, hR, hcs, hall⟩ := hrel
      have HG := Lib.hid hg
      have HRW := Lib.hid hR
      have HCS := Lib.hid hcs
      have HALL := Lib.hid hall
      have HM7 := Lib.hid (HK7.out.kept hg (fun e => d7 (Option.some.inj e)))
      have x2 := HM7.out.cell 2
      have xlt := HM7.out.lt
      have rlt := hR.lt
      have f0 := hR.free (j * 4)
      have f1 := hR.free (j * 4 + 1)
      have f2 := hR.free (j * 4 + 2)
      have f3 := hR.free (j * 4 + 3)
      have hce := fun o => hR.cell o
      clear hg hR hall
      by_cases hlt2 : j < b
      · have hex : ∀ o, o < b * 4 → ∃ u, wr.cell? ⟨b3, o, none⟩ = some u := fun o ho => ⟨cs[o]'(by omega), by rw [hce]; exact Array.getElem?_eq_getElem (by omega)⟩
        obtain ⟨u0, g0⟩ := hex (j * 4) (by omega)
        obtain ⟨u1, g1⟩ := hex (j * 4 + 1) (by omega)
        obtain ⟨u2, g2⟩ := hex (j * 4 + 2) (by omega)
        obtain ⟨u3, g3⟩ := hex (j * 4 + 3) (by omega)
        clear hex hce hcs
        have hj0 : (0 : Int) ≤ (j : Int) := by omega
        have hj1 : (j : Int) < (b : Int) := by omega
        go_wp2
        go_roundw
        case rel =>
          refine ⟨j + 1, _, by omega, by go_num, grown_set (grown_set (grown_set (grown_set HG.out _ _) _ _) _ _) _ _, (((HRW.out.set _ _).set _ _).set _ _).set _ _, by simp only [Array.size_setIfInBounds]; exact HCS.out, fun t ht => ?_⟩
          by_cases htj : t = j
          · exact fourth HCS.out hlt2 htj
          · have h6 := HALL.out t (by omega)
            rw [fifth (by omega), fifth (by omega), fifth (by omega), fifth (by omega)]; exact h6
        case measure => simp [intOf]; omega
      · obtain rfl : j = b := by omega
        have hj1 : ¬ (j : Int) < (j : Int) := by omega
        have HV := Lib.hid (⟨cs, HRW.out, HALL.out⟩ : VRow wr b3 j)
        have HM1 := Lib.hid (HK1.out.kept HG.out (fun e => d1 (Option.some.inj e)))
        have HM5 := Lib.hid (HK5.out.kept HG.out (fun e => d5 (Option.some.inj e)))
        have HMN := Lib.hid (HKN.out.kept HG.out (fun e => by have := Option.some.inj e; omega))
        have HBW := Lib.hid (HBL.out.grown HG.out HBL.out.size (fun k hk => by have := Option.some.inj hk; omega))
        have HRM := Lib.hid (rm_mk HM1.out HV.out HM5.out (by omega) (by omega) (by omega))
        clear hce HCS HALL HG HRW HK7 HK1 HK3 HK5 HKN HBL HV HM1 HM5 f0 f1 f2 f3 hcs rlt
        have x0 := HM7.out.cell 0
        have x1 := HM7.out.cell 1
        have x3 := HM7.out.cell 3
        go_upto_region 8 with (fail)
        go_cut [16] (fun s wx => s = .bool (Me.okB a j c) ∧ wr = wx)
        case first =>
          clear x0 x1 x2 x3 xlt HM7 HMN HBW HRM
          by_cases v1 : a ≤ 64
          · have w1 : (a : Int) ≤ 64 := by omega
            by_cases v2 : j ≤ 64
            · have w2 : (j : Int) ≤ 64 := by omega
              by_cases v3 : c ≤ 16
              · have w3 : (c : Int) ≤ 16 := by omega
                go_wp2
                go_meet
                exact ⟨by simp [Me.okB, v1, v2, v3], rfl⟩
              · have w3 : ¬ (c : Int) ≤ 16 := by omega
                go_wp2
                go_meet
                exact ⟨by simp [Me.okB, v1, v2, v3], rfl⟩
            · have w2 : ¬ (j : Int) ≤ 64 := by omega
              go_wp2
              go_meet
              exact ⟨by simp [Me.okB, v1, v2], rfl⟩
          · have w1 : ¬ (a : Int) ≤ 64 := by omega
            go_wp2
            go_meet
            exact ⟨by simp [Me.okB, v1], rfl⟩
        case rest =>
          obtain ⟨rfl, rfl⟩ := hcut
          obtain ⟨L, e, hput, hcase⟩ := Me.put_mk a j c hc'
          have CM := mput_any _ (Me.mk a j c) _ _ _ _ _ _ wr HRM.out
          have CR := fun W (hb : Below wr.heap.size wr W) => mright_any _ (Me.mk a j c) _ _ _ _ _ _ W (HRM.out.past hb)
          rw [hput] at CM
          rw [Me.right_mk a j c hc'] at CR
          simp only [mcells, Me.mk, List.length_replicate, show ((7 : Nat) : Int) = 7 from rfl] at CM CR
          have HCM := Lib.hid CM
          have HCR := Lib.hid CR
          generalize Me.okB a j c = ok at *
          have HCA := Lib.hid hcase
          clear CM CR hput hcase HRM
          go_wp2_with fail
          with_reducible refine (HCM.out).mono ?_
          rintro er w6 ⟨ga, ca, rfl, -, -, -, -, hb⟩
          have hM7 := HM7.out.below hb
          have HMN6 := Lib.hid (HMN.out.below hb)
          have HBW6 := Lib.hid (HBW.out.trans (hb.mono HBW.out.size))
          have HCR6 := Lib.hid (HCR.out w6 hb)
          have hz5 := hM7.cell 0
          have hz6 := hM7.cell 1
          have hz7 := hM7.cell 2
          have hz8 := hM7.cell 3
          have hz9 := hM7.lt
          clear hb hM7 HM7 HMN HBW HCR HCM x0 x1 x2 x3 xlt
          go_upto_region 10 with (fail)
          go_cut [91] (fun s wx => s = .bool false ∧ Below w6.heap.size w6 wx)
          case first =>
            have hbn : (ok != ok) = false := by cases ok <;> rfl
            go_wp2_with fail
            with_reducible refine HCR6.out.mono ?_
            rintro er w7 ⟨rfl, hb⟩
            have HB7 := Lib.hid hb
            clear hb
            rcases HCA.out with ⟨h4, rfl, h5⟩ | ⟨h4, rfl, rfl⟩
            · subst h4
              have h6 : (0 : Int) < (L.length : Int) := by omega
              go_wp2
              go_meet
              exact ⟨rfl, HB7.out⟩
            · subst h4
              go_wp2
              go_meet
              exact ⟨rfl, HB7.out⟩
          case rest =>
            obtain ⟨rfl, hb⟩ := hcut
            have HMN7 := Lib.hid (HMN6.out.below hb)
            have HBW7 := Lib.hid (HBW6.out.trans (hb.mono HBW6.out.size))
            clear hb HMN6 HBW6 HCR6 HCA hz5 hz6 hz7 hz8 hz9
            have y0 := HMN7.out.cell 0
            have y1 := HMN7.out.cell 1
            have y2 := HMN7.out.cell 2
            have y3 := HMN7.out.cell 3
            have ylt := HMN7.out.lt
            go_wp2_with fail
            have hal : Below wc.heap.size wc (wc.alloc (.cells #[.int .i64 n0, .int .i64 n1, .int .i64 n2, .int .i64 n3, .slice none 0 0] 41)) := (Below.refl _ _).alloc (Nat.le_refl _) _
            refine (?_ : ∀ W8, Blk W8 w.heap.size #[.int .i64 n0, .int .i64 n1, .int .i64 n2, .int .i64 n3] 60 → Below w.heap.size w W8 → Blk W8 wc.heap.size #[.int .i64 n0, .int .i64 n1, .int .i64 n2, .int .i64 n3, .slice none 0 0] 41 → w.heap.size < wc.heap.size → Code.wp _ _ _ _ W8) _ (HMN7.out.below hal) (HBW7.out.trans (hal.mono HBW7.out.size)) (Blk.new _ _ _) ylt
            clear hal y0 y1 y2 y3 ylt HMN7 HBW7
            intro W8 k1 k2 k3 k4
            have HN8 := Lib.hid k1
            have HB8 := Lib.hid k2
            have HP8 := Lib.hid k3
            have y0 := k1.cell 0
            have y1 := k1.cell 1
            have y2 := k1.cell 2
            have y3 := k1.cell 3
            have ylt := k1.lt
            clear k1 k2 k3
            go_loop [20, 21] (fun cv iv => ∃ k : Nat, k ≤ 4 ∧ iv = .int .i64 k ∧ cv = .bool (isB n0 n1 n2 n3 k)) (fun _ iv => 4 - (intOf iv).toNat)
            case atStart => exact ⟨0, by omega, rfl, rfl⟩
            case round =>
              obtain ⟨k, hk, rfl, rfl⟩ := hrel
              by_cases hk4 : k < 4
              · rcases (by omega : k = 0 ∨ k = 1 ∨ k = 2 ∨ k = 3) with rfl | rfl | rfl | rfl
                · skip
                  obtain ⟨q, hq⟩ : ∃ q, isB n0 n1 n2 n3 0 = q := ⟨_, rfl⟩
                  have hs : isB n0 n1 n2 n3 (0 + 1) = (isB n0 n1 n2 n3 0 && okN n0) := by first | rfl | (unfold isB; simp)
                  rw [hq] at hs ⊢
                  have HS := Lib.hid hs
                  clear hs hq
                  cases q with
                  | false =>
                    go_wp2
                    go_round
                    case rel => exact ⟨0 + 1, by omega, rfl, by rw [HS.out]; rfl⟩
                    case measure => simp [intOf]
                  | true =>
                    by_cases g1 : 0 ≤ n0
                    · by_cases g2 : n0 ≤ 4611686018427387904
                      · have g3 := Lib.hid (okN_yes g1 g2)
                        go_wp2
                        go_round
                        case rel => exact ⟨0 + 1, by omega, rfl, by rw [HS.out, g3.out]; rfl⟩
                        case measure => simp [intOf]
                      · have g3 := Lib.hid (okN_hi g2)
                        go_wp2
                        go_round
                        case rel => exact ⟨0 + 1, by omega, rfl, by rw [HS.out, g3.out]; rfl⟩
                        case measure => simp [intOf]
                    · have g3 := Lib.hid (okN_lo g1)
                      go_wp2
                      go_round
                      case rel => exact ⟨0 + 1, by omega, rfl, by rw [HS.out, g3.out]; rfl⟩
                      case measure => simp [intOf]
                · skip
                  obtain ⟨q, hq⟩ : ∃ q, isB n0 n1 n2 n3 1 = q := ⟨_, rfl⟩
                  have hs : isB n0 n1 n2 n3 (1 + 1) = (isB n0 n1 n2 n3 1 && okN n1) := by first | rfl | (unfold isB; simp)
                  rw [hq] at hs ⊢
                  have HS := Lib.hid hs
                  clear hs hq
                  cases q with
                  | false =>
                    go_wp2
                    go_round
                    case rel => exact ⟨1 + 1, by omega, rfl, by rw [HS.out]; rfl⟩
                    case measure => simp [intOf]
                  | true =>
                    by_cases g1 : 0 ≤ n1
                    · by_cases g2 : n1 ≤ 4611686018427387904
                      · have g3 := Lib.hid (okN_yes g1 g2)
                        go_wp2
                        go_round
                        case rel => exact ⟨1 + 1, by omega, rfl, by rw [HS.out, g3.out]; rfl⟩
                        case measure => simp [intOf]
                      · have g3 := Lib.hid (okN_hi g2)
                        go_wp2
                        go_round
                        case rel => exact ⟨1 + 1, by omega, rfl, by rw [HS.out, g3.out]; rfl⟩
                        case measure => simp [intOf]
                    · have g3 := Lib.hid (okN_lo g1)
                      go_wp2
                      go_round
                      case rel => exact ⟨1 + 1, by omega, rfl, by rw [HS.out, g3.out]; rfl⟩
                      case measure => simp [intOf]
                · skip
                  obtain ⟨q, hq⟩ : ∃ q, isB n0 n1 n2 n3 2 = q := ⟨_, rfl⟩
                  have hs : isB n0 n1 n2 n3 (2 + 1) = (isB n0 n1 n2 n3 2 && okN n2) := by first | rfl | (unfold isB; simp)
                  rw [hq] at hs ⊢
                  have HS := Lib.hid hs
                  clear hs hq
                  cases q with
                  | false =>
                    go_wp2
                    go_round
                    case rel => exact ⟨2 + 1, by omega, rfl, by rw [HS.out]; rfl⟩
                    case measure => simp [intOf]
                  | true =>
                    by_cases g1 : 0 ≤ n2
                    · by_cases g2 : n2 ≤ 4611686018427387904
                      · have g3 := Lib.hid (okN_yes g1 g2)
                        go_wp2
                        go_round
                        case rel => exact ⟨2 + 1, by omega, rfl, by rw [HS.out, g3.out]; rfl⟩
                        case measure => simp [intOf]
                      · have g3 := Lib.hid (okN_hi g2)
                        go_wp2
                        go_round
                        case rel => exact ⟨2 + 1, by omega, rfl, by rw [HS.out, g3.out]; rfl⟩
                        case measure => simp [intOf]
                    · have g3 := Lib.hid (okN_lo g1)
                      go_wp2
                      go_round
                      case rel => exact ⟨2 + 1, by omega, rfl, by rw [HS.out, g3.out]; rfl⟩
                      case measure => simp [intOf]
                · skip
                  obtain ⟨q, hq⟩ : ∃ q, isB n0 n1 n2 n3 3 = q := ⟨_, rfl⟩
                  have hs : isB n0 n1 n2 n3 (3 + 1) = (isB n0 n1 n2 n3 3 && okN n3) := by first | rfl | (unfold isB; simp)
                  rw [hq] at hs ⊢
                  have HS := Lib.hid hs
                  clear hs hq
                  cases q with
                  | false =>
                    go_wp2
                    go_round
                    case rel => exact ⟨3 + 1, by omega, rfl, by rw [HS.out]; rfl⟩
                    case measure => simp [intOf]
                  | true =>
                    by_cases g1 : 0 ≤ n3
                    · by_cases g2 : n3 ≤ 4611686018427387904
                      · have g3 := Lib.hid (okN_yes g1 g2)
                        go_wp2
                        go_round
                        case rel => exact ⟨3 + 1, by omega, rfl, by rw [HS.out, g3.out]; rfl⟩
                        case measure => simp [intOf]
                      · have g3 := Lib.hid (okN_hi g2)
                        go_wp2
                        go_round
                        case rel => exact ⟨3 + 1, by omega, rfl, by rw [HS.out, g3.out]; rfl⟩
                        case measure => simp [intOf]
                    · have g3 := Lib.hid (okN_lo g1)
                      go_wp2
                      go_round
                      case rel => exact ⟨3 + 1, by omega, rfl, by rw [HS.out, g3.out]; rfl⟩
                      case measure => simp [intOf]
              · obtain rfl : k = 4 := by omega
                have hb0 := HP8.out.lt
                have hR0 := right_nil n0 n1 n2 n3
                have hR1 := right_one n0 n1 n2 n3
                generalize isB n0 n1 n2 n3 4 = q at hR0 hR1 ⊢
                have HR0 := Lib.hid hR0
                have HR1 := Lib.hid hR1
                clear hR0 hR1
                cases data with
                | false =>
                  obtain ⟨L2, e2, hpk, hpc⟩ := pack_cases n0 n1 n2 n3 ([] : Bs)
                  have CP := pack_any n0 n1 n2 n3 [] (.agg #[.int .i64 n0, .int .i64 n1, .int .i64 n2, .int .i64 n3, .slice none 0 0]) W8 ⟨⟨none, 0, rfl, Or.inl rfl, fun _ => rfl, Nat.le_refl _, by simp [maxLen]⟩, hn⟩
                  rw [hpk] at CP
                  have hpc' : (q = true ∧ e2 = 0 ∧ 0 < L2.length) ∨ (q = false ∧ e2 = 14 ∧ L2 = []) := by rw [← HR0.out]; exact hpc
                  have HCP := Lib.hid CP
                  have HPC := Lib.hid hpc'
                  clear CP hpc hpk hpc'
                  have p0 := HP8.out.cell 0
                  have p1 := HP8.out.cell 1
                  have p2 := HP8.out.cell 2
                  have p3 := HP8.out.cell 3
                  have p4 := HP8.out.cell 4
                  have plt := HP8.out.lt
                  go_wp2_with fail
                  with_reducible refine HCP.out.mono ?_
                  rintro er w9 ⟨qa, qc, rfl, -, -, -, -, hb⟩
                  have HB9 := Lib.hid (HB8.out.trans (hb.mono HB8.out.size))
                  clear hb
                  rcases HPC.out with ⟨h4, rfl, h5⟩ | ⟨h4, rfl, rfl⟩
                  · subst h4
                    have h6 : (0 : Int) < (L2.length : Int) := by omega
                    go_wp2_with fail
                    with_reducible refine (awake_any _).mono ?_
                    rintro er w10 ⟨rfl, hb⟩
                    have HB10 := Lib.hid (HB9.out.trans (hb.mono HB9.out.size))
                    clear hb
                    go_wp2
                    go_ret
                    exact ⟨rfl, HB10.out⟩
                  · subst h4
                    go_wp2_with fail
                    with_reducible refine (awake_any _).mono ?_
                    rintro er w10 ⟨rfl, hb⟩
                    have HB10 := Lib.hid (HB9.out.trans (hb.mono HB9.out.size))
                    clear hb
                    go_wp2
                    go_ret
                    exact ⟨rfl, HB10.out⟩
                | true =>
                  obtain ⟨q2, hq2⟩ : ∃ q2, (q && n2 != 0) = q2 := ⟨_, rfl⟩
                  obtain ⟨L2, e2, hpk, hpc⟩ := pack_cases n0 n1 n2 n3 ([1] : Bs)
                  have hpc' : (q2 = true ∧ e2 = 0 ∧ 0 < L2.length) ∨ (q2 = false ∧ e2 = 14 ∧ L2 = []) := by rw [← hq2, ← HR1.out]; exact hpc
                  have HPC := Lib.hid hpc'
                  clear hpc hpc'
                  obtain ⟨V8, hV8⟩ : ∃ V8, W8.setCell ⟨wc.heap.size, 4, none⟩ (.slice (some ⟨W8.heap.size, 0, none⟩) 1 1) = V8 := ⟨_, rfl⟩
                  have hVs : V8.heap.size = W8.heap.size := by rw [← hV8]; simp
                  have hP9 : Blk V8 wc.heap.size #[.int .i64 n0, .int .i64 n1, .int .i64 n2, .int .i64 n3, .slice (some ⟨W8.heap.size, 0, none⟩) 1 1] 41 := by rw [← hV8]; exact HP8.out.set 4 _
                  have hN9 : Blk V8 w.heap.size #[.int .i64 n0, .int .i64 n1, .int .i64 n2, .int .i64 n3] 60 := by rw [← hV8]; exact HN8.out.set_ (by omega)
                  have hB9 : Below w.heap.size w V8 := by rw [← hV8]; exact HB8.out.setCell (p := ⟨wc.heap.size, 4, none⟩) (Nat.le_of_lt k4) _
                  have hO9 := ow_lit1 V8 1 1 rfl
                  rw [hVs] at hO9
                  have CP := pack_any n0 n1 n2 n3 [1] (.agg #[.int .i64 n0, .int .i64 n1, .int .i64 n2, .int .i64 n3, .slice (some ⟨W8.heap.size, 0, none⟩) 1 1]) (V8.alloc (.cells #[.int .u8 1] 5)) ⟨⟨some ⟨W8.heap.size, 0, none⟩, 1, rfl, hO9.rd1.1, (fun h => by cases h), Nat.le_refl _, by simp [maxLen]⟩, hn⟩
                  rw [hpk] at CP
                  have HCP := Lib.hid CP
                  have HB9' := Lib.hid (hB9.alloc hB9.size (.cells #[.int .u8 1] 5))
                  have HP10 := Lib.hid (hP9.alloc_ (.cells #[.int .u8 1] 5))
                  have HN10 := Lib.hid (hN9.alloc_ (.cells #[.int .u8 1] 5))
                  have pf := HP8.out.free 4
                  have p4 := HP8.out.cell 4
                  have plt := HP8.out.lt
                  clear CP hpk hP9 hN9 hO9 hB9 hVs y0 y1 y2 y3 ylt
                  subst hV8
                  go_upto_region 20 with (fail)
                  clear HP8 HN8 HB8 pf p4 plt
                  have HQ2 := Lib.hid hq2
                  clear hq2
                  have y2 := HN10.out.cell 2
                  have ylt := HN10.out.lt
                  go_cut [20] (fun s wx => s = .bool q2 ∧ (W8.setCell ⟨wc.heap.size, 4, none⟩ (.slice (some ⟨W8.heap.size, 0, none⟩) 1 1)).alloc (.cells #[.int .u8 1] 5) = wx)
                  case first =>
                    cases q with
                    | false =>
                      go_wp2
                      go_meet
                      exact ⟨by rw [← HQ2.out]; rfl, rfl⟩
                    | true =>
                      by_cases h0 : n2 = 0
                      · have HH := Lib.hid h0
                        have h0' : (n2 != 0) = false := by rw [h0]; rfl
                        clear h0
                        go_wp2
                        go_meet
                        exact ⟨by rw [← HQ2.out, HH.out]; rfl, rfl⟩
                      · have h0' : (n2 != 0) = true := by rw [bne_iff_ne]; exact h0
                        have HH := Lib.hid h0'
                        go_wp2
                        go_meet
                        exact ⟨by rw [← HQ2.out, HH.out]; rfl, rfl⟩
                  case rest =>
                    obtain ⟨rfl, rfl⟩ := hcut
                    clear y2 ylt HN10 HQ2
                    have p0 := HP10.out.cell 0
                    have p1 := HP10.out.cell 1
                    have p2 := HP10.out.cell 2
                    have p3 := HP10.out.cell 3
                    have p4 := HP10.out.cell 4
                    have plt := HP10.out.lt
                    go_wp2_with fail
                    with_reducible refine HCP.out.mono ?_
                    rintro er w9 ⟨qa, qc, rfl, -, -, -, -, hb⟩
                    have HB9 := Lib.hid (HB9'.out.trans (hb.mono HB9'.out.size))
                    clear hb
                    rcases HPC.out with ⟨h4, rfl, h5⟩ | ⟨h4, rfl, rfl⟩
                    · subst h4
                      have h6 : (0 : Int) < (L2.length : Int) := by omega
                      go_wp2_with fail
                      with_reducible refine (awake_any _).mono ?_
                      rintro er w10 ⟨rfl, hb⟩
                      have HB10 := Lib.hid (HB9.out.trans (hb.mono HB9.out.size))
                      clear hb
                      go_wp2
                      go_ret
                      exact ⟨rfl, HB10.out⟩
                    · subst h4
                      go_wp2_with fail
                      with_reducible refine (awake_any _).mono ?_
                      rintro er w10 ⟨rfl, hb⟩
                      have HB10 := Lib.hid (HB9.out.trans (hb.mono HB9.out.size))
                      clear hb
                      go_wp2
                      go_ret
                      exact ⟨rfl, HB10.out⟩
end Go.Proofs.Ytgamhgeiceakeaa
/- Arguments of array types, and []byte. -/
set_option linter.unusedVariables false
set_option linter.unusedSimpArgs false
namespace Go.Proofs.Ytgamhgeiceakeaa
open Go.ChangeShapes Go.WideShapes Go.ChangeAt Go.RowKit
open By (Bs)
section
variable {H : Type} {enc : TypeId × Value → H}
theorem cellsOf_one8 : Try.prog.cellsOf 5 = 1 := by kernel_rfl
theorem cellsOf_four8 : Try.prog.cellsOf 57 = 4 := by kernel_rfl
theorem okWide_arr {P : Program} {w : World} {r : Reach} {base n : Nat} {t e : TypeId} {v : Value} (ht : P.underlying t = some (.array n e)) (h : Value.okWide P w r base t v) : ∃ cs, v = .agg cs ∧ cs.size = P.cellsOf t := by
  simp only [Value.okWide, ht] at h
  obtain ⟨cs, h1, h2, _⟩ := h
  exact ⟨cs, h1, h2⟩
set_option maxRecDepth 100000 in
theorem open_four8 {r : Reach} {base : Nat} {W : World} {v0 : Value} {d0 : DataW H} {p0 : List MemPlace} (hval : Value.okWide Try.prog W r base 57 v0) (h : DataW.Trod enc Try.prog W 0 (fun _ => true) true 57 v0 d0 p0) :
    ∃ t0 t1 t2 t3 : UInt8, v0 = .agg #[.int .u8 (t0.toNat : Nat), .int .u8 (t1.toNat : Nat), .int .u8 (t2.toNat : Nat), .int .u8 (t3.toNat : Nat)] := by
  obtain ⟨cs0, rfl, hsz⟩ := okWide_arr Try.underlying57 hval
  rw [cellsOf_four8] at hsz
  obtain ⟨fuel, hf⟩ := h
  obtain ⟨cl⟩ := cs0
  have hlen' : cl.length = 4 := by simpa using hsz
  obtain ⟨a0, a1, a2, a3, rfl⟩ : ∃ a0 a1 a2 a3, cl = [a0, a1, a2, a3] := by
    match cl, hlen' with
    | [a0, a1, a2, a3], _ => exact ⟨_, _, _, _, rfl⟩
  obtain ⟨y0, y1, y2, y3, n, -, f0, f1, f2, f3⟩ := trod_array4 Try.underlying57 cellsOf_one8 hf
  obtain ⟨n0, e0, _, w0⟩ := DataW.trod_int Try.underlying5 f0
  obtain ⟨n1, e1, _, w1⟩ := DataW.trod_int Try.underlying5 f1
  obtain ⟨n2, e2, _, w2⟩ := DataW.trod_int Try.underlying5 f2
  obtain ⟨n3, e3, _, w3⟩ := DataW.trod_int Try.underlying5 f3
  cases e0; cases e1; cases e2; cases e3
  have b0 := bounds_u8 w0
  have b1 := bounds_u8 w1
  have b2 := bounds_u8 w2
  have b3 := bounds_u8 w3
  have q : ∀ z : Int, 0 ≤ z → z ≤ 255 → z = ((UInt8.ofNat z.toNat).toNat : Nat) := fun z h1 h2 => by rw [UInt8.toNat_ofNat']; omega
  refine ⟨UInt8.ofNat n0.toNat, UInt8.ofNat n1.toNat, UInt8.ofNat n2.toNat, UInt8.ofNat n3.toNat, ?_⟩
  rw [← q n0 (by omega) (by omega), ← q n1 (by omega) (by omega), ← q n2 (by omega) (by omega), ← q n3 (by omega) (by omega)]
theorem cellsOf_one64 : Try.prog.cellsOf 2 = 1 := by kernel_rfl
theorem cellsOf_four64 : Try.prog.cellsOf 60 = 4 := by kernel_rfl
set_option maxRecDepth 100000 in
theorem open_four64 {r : Reach} {base : Nat} {W : World} {v0 : Value} {d0 : DataW H} {p0 : List MemPlace} (hval : Value.okWide Try.prog W r base 60 v0) (h : DataW.Trod enc Try.prog W 0 (fun _ => true) true 60 v0 d0 p0) :
    ∃ t0 t1 t2 t3 : Int, v0 = .agg #[.int .i64 t0, .int .i64 t1, .int .i64 t2, .int .i64 t3] ∧ (Va.I64 t0 ∧ Va.I64 t1 ∧ Va.I64 t2 ∧ Va.I64 t3) := by
  obtain ⟨cs0, rfl, hsz⟩ := okWide_arr Try.underlying60 hval
  rw [cellsOf_four64] at hsz
  obtain ⟨fuel, hf⟩ := h
  obtain ⟨cl⟩ := cs0
  have hlen' : cl.length = 4 := by simpa using hsz
  obtain ⟨a0, a1, a2, a3, rfl⟩ : ∃ a0 a1 a2 a3, cl = [a0, a1, a2, a3] := by
    match cl, hlen' with
    | [a0, a1, a2, a3], _ => exact ⟨_, _, _, _, rfl⟩
  obtain ⟨y0, y1, y2, y3, n, -, f0, f1, f2, f3⟩ := trod_array4 Try.underlying60 cellsOf_one64 hf
  obtain ⟨n0, e0, _, w0⟩ := DataW.trod_int Try.underlying2 f0
  obtain ⟨n1, e1, _, w1⟩ := DataW.trod_int Try.underlying2 f1
  obtain ⟨n2, e2, _, w2⟩ := DataW.trod_int Try.underlying2 f2
  obtain ⟨n3, e3, _, w3⟩ := DataW.trod_int Try.underlying2 f3
  cases e0; cases e1; cases e2; cases e3
  have b0 := bounds_i64 w0
  have b1 := bounds_i64 w1
  have b2 := bounds_i64 w2
  have b3 := bounds_i64 w3
  exact ⟨n0, n1, n2, n3, rfl, ⟨b0.1, by omega⟩, ⟨b1.1, by omega⟩, ⟨b2.1, by omega⟩, ⟨b3.1, by omega⟩⟩
set_option maxRecDepth 100000 in
theorem open_bt {r : Reach} {base : Nat} {W : World} {v0 : Value} {d0 : DataW H} {p0 : List MemPlace} (hval : Value.okWide Try.prog W r base 27 v0) (h : DataW.Trod enc Try.prog W 0 (fun _ => true) true 27 v0 d0 p0) :
    ∃ l : Bs, Bt W l v0 := by
  obtain ⟨a1, len, cap, rfl⟩ := okWide_slice Try.underlying27 hval
  obtain ⟨fuel, hf⟩ := h
  exact bytes_of_trod hf
end
end Go.Proofs.Ytgamhgeiceakeaa
set_option linter.unusedVariables false
set_option linter.unusedSimpArgs false
namespace Go.Proofs.Ytgamhgeiceakeaa
open Go.ChangeShapes Go.WideShapes Go.ChangeAt Go.RowKit
set_option maxRecDepth 100000 in
theorem bounds_lifted (os : Os) (started : os.Started) (H : Type) (enc : TypeId × Value → H) :
    ReturnsInHanded {} Try.checked os 8 .any (Rows.frameBoundsSpec.pre6 enc Try.prog Try.f8 Rows.frameBoundsRow.domain false) (Rows.frameBoundsSpec.post enc Try.prog Try.f8 false true false false) := by
  refine returnsInHanded_of_change (C := Try.checked) zz_own started (by kernel_rfl) Try.func8
    (ChangeSpec.witness6 (enc := enc) (C := Try.checked) false ⟨#[], #[.int .u8 0, .int .u8 0, .int .u8 0, .agg #[.int .i64 0, .int .i64 0, .int .i64 0, .int .i64 0], .bool false], []⟩ 8 (by kernel_rfl) (by kernel_rfl) (by kernel_rfl) (by kernel_rfl)) ?_
  intro W base args ds gs before hval0 hW hcnd _
  have hval : ∀ (j : Nat) t v, Try.f8.params[j]? = some t → args[j]? = some v → Value.okWide Try.prog W .any base t v := hval0
  have hW' := hW
  obtain ⟨p, q, hA0, hV, rfl, hfz, hnd⟩ := hW
  have hA : DataW.TrodAll enc Try.prog W 0 (fun _ => true) true Try.f8.params.toList args.toList ds p := hA0
  have hA1 := hA
  rw [Try.params8] at hA hval
  have hA2 := hA
  obtain ⟨v0, vs0, d0, ds0, p0, q0, e0, rfl, rfl, h0, hA2⟩ := trodAll_cons hA2
  obtain ⟨v1, vs1, d1, ds1, p1, q1, e1, rfl, rfl, h1, hA2⟩ := trodAll_cons hA2
  obtain ⟨v2, vs2, d2, ds2, p2, q2, e2, rfl, rfl, h2, hA2⟩ := trodAll_cons hA2
  obtain ⟨v3, vs3, d3, ds3, p3, q3, e3, rfl, rfl, h3, hA2⟩ := trodAll_cons hA2
  obtain ⟨v4, vs4, d4, ds4, p4, q4, e4, rfl, rfl, h4, hA2⟩ := trodAll_cons hA2
  obtain ⟨e5, rfl, rfl⟩ := trodAll_nil hA2
  obtain rfl : args = #[v0, v1, v2, v3, v4] := by
    cases args; simp_all
  clear e0 e1 e2 e3 e4 e5
  obtain ⟨x0, rfl, _, _, w0⟩ := open_int Try.underlying5 (hval 0 5 v0 rfl rfl) h0
  obtain ⟨x0, rfl⟩ := Int.eq_ofNat_of_zero_le (bounds_u8 w0).1
  obtain ⟨x1, rfl, _, _, w1⟩ := open_int Try.underlying5 (hval 1 5 v1 rfl rfl) h1
  obtain ⟨x1, rfl⟩ := Int.eq_ofNat_of_zero_le (bounds_u8 w1).1
  obtain ⟨x2, rfl, _, _, w2⟩ := open_int Try.underlying5 (hval 2 5 v2 rfl rfl) h2
  obtain ⟨x2, rfl⟩ := Int.eq_ofNat_of_zero_le (bounds_u8 w2).1
  obtain ⟨t30, t31, t32, t33, rfl, r3⟩ := open_four64 (hval 3 60 v3 rfl rfl) h3
  obtain ⟨x4, rfl, _⟩ := open_bool Try.underlying4 (hval 4 4 v4 rfl rfl) h4
  obtain ⟨rfl, rfl⟩ := trodVars_none hV
  clear hA0 hval0
  have hlt := hW'.lt
  refine (bounds_row x0 x1 x2 t30 t31 t32 t33 x4 W (by have := (bounds_u8 w0).2; omega) (by have := (bounds_u8 w1).2; omega) (by have := (bounds_u8 w2).2; omega) r3).mono fun e W' ⟨he, hb⟩ => ?_
  subst he
  exact ⟨_, rfl, post_of_below (pv := []) hW' (fun _ _ _ => trodAll_mk1 (shut_bool Try.underlying4 _))
    (fun sp hsp => all_stay zz_laid sp hb _ _ _ _ (by intro t ht; rw [Try.params8] at ht; simp only [List.mem_cons, List.not_mem_nil, or_false] at ht; rcases ht with rfl | rfl | rfl | rfl | rfl <;> exact ⟨by kernel_rfl, of_decide_eq_true (by kernel_rfl)⟩) hA1 (fun x hx => hlt x (by simpa using hx)) (fun x hx => hsp x (by simpa using hx))) (fun _ _ => rfl) (by simp)
    hb (ok_one (by kernel_rfl) rfl (okWide_bool_mk Try.underlying4 _))⟩
theorem bounds_holds : Rows.FrameBoundsSaid :=
  OpenClaim.holds_of_wide 8 Try.f8 rfl rfl rfl rfl rfl rfl rfl ⟨rfl, rfl, rfl, rfl, rfl⟩ rfl rfl rfl rfl rfl (by kernel_rfl) Try.func8 (by kernel_rfl)
    (of_decide_eq_true (by kernel_rfl)) (by unfold Func.isWrapper; first | (rw [if_pos (by decide +kernel)]; kernel_rfl) | (rw [if_neg (by decide +kernel)]; exact ⟨rfl, rfl⟩))
    (fun os started H enc _ => bounds_lifted os started H enc)
#print axioms bounds_holds
end Go.Proofs.Ytgamhgeiceakeaa
