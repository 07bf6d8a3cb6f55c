/- Texts of this claim, part 4: VGetI, VSpecd, VSmall, VAlike, BTwo, BThree, BFour, BFive, BSix, BSeven, BEight, BNine, BTen, BEleven, BTwelve, BThirteen, MSpec, MMem, MBody, MRight, MPut, MOne, MTwo, MThree, MFour, MFive. -/
import Derived.Test.YtgamhgeiceakeaaComC
import Derived.WalkSpells
import Derived.Laws.Rows
import Derived.Lib.BufferMore
import Derived.OneCell
import Derived.Deep.RegionHeld3
/- package value: the getter's value, by contract, for any bytes; Get. -/
set_option linter.unusedVariables false
set_option linter.unusedSimpArgs false
namespace Go.Proofs.Ytgamhgeiceakeaa
open Go.RowKit
open Va (V)
theorem value_any (n cap : Nat) (ba : Option Addr) (l : List UInt8) (hn : l.length = n) (hmx : n ≤ 1099511627776) (hb0 : ba = none → n = 0) (hnc : n ≤ cap) : ∀ (lv : Nat), lv ≤ 16 → ∀ (p at' left : Nat) (w : World), Gv w p (.slice ba n cap) at' left 0 → Rd w ba l → (l ≠ [] → ∀ b o, ba = some (⟨b, o, none⟩ : Addr) → b ≠ p) → at' ≤ n → left ≤ 256 →
    Calls Try.prog 72 #[.pointer (some ⟨p, 0, none⟩), .int .i64 lv] w (VaPost p (.slice ba n cap) (Va.gv l lv at' left) w)
  | 0, _, p, at', left, w, hg, hr, hp, ha, hl => by
    have := value_short p ba n cap at' left 0 w hg (Or.inr rfl) hl (by omega)
    unfold Va.gv; exact this
  | lv + 1, hlv, p, at', left, w, hg, hr, hp, ha, hl => by
    have ih := value_any n cap ba l hn hmx hb0 hnc lv (by omega)
    unfold Va.gv Va.gv1
    by_cases hl0 : left = 0
    · rw [if_pos hl0]
      exact value_short p ba n cap at' left (lv + 1) w hg (Or.inl hl0) hl hlv
    rw [if_neg hl0]
    by_cases he : at' = n
    · subst he
      have hd : l.drop at' = [] := by rw [← hn]; simp
      rw [hd]
      exact value_end p ba at' cap left (lv + 1) w hg (by omega) (by omega) hl hlv
    have ha' : at' < n := by omega
    have hd : l.drop at' = l[at']'(hn ▸ ha') :: l.drop (at' + 1) := by rw [List.drop_eq_getElem_cons]
    rw [hd]
    simp only
    generalize hx : l[at']'(hn ▸ ha') = x
    by_cases k1 : x.toNat = 1 ∨ x.toNat = 5
    · rw [if_pos k1]
      refine value_int p ba n cap l at' left (lv + 1) w hg hn hr hp ha' hmx (by omega) (by omega) hl hlv _ _ _ rfl _ ⟨?_, ?_⟩
      · rw [hx]; exact k1
      · rw [hx]; rfl
    rw [if_neg k1]
    by_cases k2 : x.toNat = 2
    · rw [if_pos k2]
      by_cases hend : at' + 1 = n
      · have hd1 : l.drop (at' + 1) = [] := by rw [hend, ← hn]; simp
        rw [hd1]
        exact value_bool_end p ba n cap l at' left (lv + 1) w hg hn hr hp ha' hmx (by omega) (by omega) hl hlv (by rw [hx]; exact k2) hend
      · have hend' : at' + 1 < n := by omega
        have hd1 : l.drop (at' + 1) = l[at' + 1]'(hn ▸ hend') :: l.drop (at' + 1 + 1) := by rw [List.drop_eq_getElem_cons]
        rw [hd1]
        simp only
        by_cases hy : 1 < (l[at' + 1]'(hn ▸ hend')).toNat
        · rw [if_pos hy]
          exact value_bool_bad p ba n cap l at' left (lv + 1) w hg hn hr hp ha' hmx (by omega) (by omega) hl hlv (by rw [hx]; exact k2) hend' hy
        · rw [if_neg hy]
          exact value_bool_ok p ba n cap l at' left (lv + 1) w hg hn hr hp ha' hmx (by omega) (by omega) hl hlv (by rw [hx]; exact k2) hend' (by omega)
    rw [if_neg k2]
    by_cases k3 : x.toNat = 3
    · rw [if_pos k3]
      exact value_blob p ba n cap l at' left (lv + 1) w hg hn hr hp ha' hmx (by omega) (by omega) hl hlv hb0 hnc _ _ _ rfl _ ⟨by rw [hx]; exact k3, rfl⟩
    rw [if_neg k3]
    by_cases k4 : x.toNat = 4
    · rw [if_pos k4]
      refine value_tuple p ba n cap l at' left (lv + 1) w hg hn hr hp ha' hmx (by omega) (by omega) hl hlv ?_ _ _ _ rfl _ rfl _ ⟨by rw [hx]; exact k4, ?_⟩
      · intro a lf W h1 h2 h3 h4
        have e : ((lv + 1 : Nat) : Int) - 1 = (lv : Nat) := by omega
        rw [e]
        exact ih p a lf W h1 (rd_grown hr h2 hp) hp h3 h4
      · rfl
    rw [if_neg k4]
    exact value_kind p ba n cap l at' left (lv + 1) w hg hn hr hp ha' hmx (by omega) (by omega) hl hlv (by rw [hx]; omega)
theorem results_cell_row3 {P : Program} {fn : Func} {p u v : Tmp} {ty : TypeId} (h : fn.results = #[.cell p ty, .tmp u, .tmp v]) (tmps : Array Value) (w : World) (g : Nat) (t : TypeId) (cs : Array Value) (fr : Nat × Nat) (d : TypeDesc)
    (hp : tmps.getD p undef = .pointer (some ⟨g, 0, none⟩)) (hg : w.heap[g]? = some (.cells cs t fr))
    (hu : P.underlying ty = some d) (hd : (match d with | .struct _ | .array _ _ => true | _ => false) = true) (hi : (P.info? ty).map (·.size) = some cs.size) :
    (results fn tmps).run P w = .ok (.tuple #[.agg cs, tmps.getD u undef, tmps.getD v undef]) w := by
  have hp' : tmps[p]?.getD undef = .pointer (some ⟨g, 0, none⟩) := by simpa using hp
  simp [results, h, hp', asAddr, run_loadVar_row w g t ty cs fr d hg hu hd hi]
/-- what Get tells -/
def GetPost (R : Va.Rs) (w : World) (e : Ending) (w' : World) : Prop := match R with
  | .ok (v, at2, _) => ∃ x, e = .returned (.tuple #[x, .int .i64 at2, .int .i64 0]) ∧ RV (fun b => w.heap.size ≤ b) w' v x ∧ Below w.heap.size w w'
  | .error er => e = .returned (.tuple #[.agg #[.int .u8 0, .int .i64 0, .string ⟨#[]⟩, .slice none 0 0], .int .i64 0, .int .i64 er]) ∧ er ≠ 0 ∧ Below w.heap.size w w'
theorem below_of_grown {w w1 w2 : World} {p B : Nat} (h : Below B w w1) (g : w1.grownBy w2 (some p)) (hp : B ≤ p) (hB : B ≤ w1.heap.size) : Below B w w2 := h.grown g hB (fun k hk => by cases hk; exact hp)
set_option maxHeartbeats 1600000 in
set_option maxRecDepth 100000 in
theorem get_arg (n cap : Nat) (ba : Option Addr) (at' : Int) (w : World) (h : at' < 0 ∨ (n : Int) < at') :
    Calls Try.prog 40 #[.slice ba n cap, .int .i64 at'] w (GetPost (.error 2) w) := by
  have hal : Below w.heap.size w (w.alloc (.cells #[.int .u8 0, .int .i64 0, .string ⟨#[]⟩, .slice none 0 0] 25)) := (Below.refl _ _).alloc (Nat.le_refl _) _
  have HA := Lib.hid hal
  clear hal
  by_cases h0 : at' < 0
  · clear h
    go_enter Try.func40, Try.ntmps40
    go_wp2
    have QF := Blk.new w #[.int .u8 0, .int .i64 0, .string ⟨#[]⟩, .slice none 0 0] 25
    (try simp only [Exit.inBlock, Exit.then])
    refine bodyPost_ret (results_cell_row3 rfl _ _ w.heap.size 25 _ (0, 0) _ rfl QF Try.underlying25 rfl (by kernel_rfl)) rfl ?_
    exact ⟨rfl, by decide, HA.out⟩
  · have h1 : (n : Int) < at' := by omega
    clear h
    go_enter Try.func40, Try.ntmps40
    go_wp2
    have QF := Blk.new w #[.int .u8 0, .int .i64 0, .string ⟨#[]⟩, .slice none 0 0] 25
    (try simp only [Exit.inBlock, Exit.then])
    refine bodyPost_ret (results_cell_row3 rfl _ _ w.heap.size 25 _ (0, 0) _ rfl QF Try.underlying25 rfl (by kernel_rfl)) rfl ?_
    exact ⟨rfl, by decide, HA.out⟩
def GRes (w : World) (R : Va.Rs) (er a : Nat) (x : Value) (W : World) : Prop := (er = 0 ∧ ∃ (v : V) (lfn : Nat), R = .ok (v, a, lfn) ∧ RV (fun b => w.heap.size < b) W v x) ∨ (er ≠ 0 ∧ R = .error er)
theorem GRes.past {w W W' : World} {R : Va.Rs} {er a : Nat} {x : Value} (h : GRes w R er a x W) (hb : Below W.heap.size W W') : GRes w R er a x W' := by
  rcases h with ⟨he, v, lfn, h1, h2⟩ | h
  · exact Or.inl ⟨he, v, lfn, h1, h2.past hb⟩
  · exact Or.inr h
theorem gres_of {w W0 W : World} {R : Va.Rs} {er a : Nat} {x : Value} {lf : Int} (hw : w.heap.size < W0.heap.size) (h : (er = 0 ∧ ∃ (v : V) (lfn : Nat), R = .ok (v, a, lfn) ∧ lf = (lfn : Nat) ∧ RV (fun b => W0.heap.size ≤ b) W v x) ∨ (er ≠ 0 ∧ R = .error er)) : GRes w R er a x W := by
  rcases h with ⟨he, v, lfn, h1, _, h2⟩ | h
  · exact Or.inl ⟨he, v, lfn, h1, h2.mono fun b _ h => by omega⟩
  · exact Or.inr h
abbrev put4 (w : World) (q : Nat) (a b c d : Value) : World := ((((w.setCell ⟨q, 0, none⟩ a).setCell ⟨q, 1, none⟩ b).setCell ⟨q, 2, none⟩ c).setCell ⟨q, 3, none⟩ d).drew
theorem put4_grown (w : World) (q : Nat) (a b c d : Value) : w.grownBy (put4 w q a b c d) (some q) :=
  grown_below (grown_set (grown_set (grown_set (grown_set (grown_refl w (some q)) 0 a) 1 b) 2 c) 3 d) (Below.refl _ _).drew
theorem get_ok {w W : World} {R : Va.Rs} {a : Nat} {k0 k1 k2 k3 : Value} (h : GRes w R 0 a (.agg #[k0, k1, k2, k3]) W) (hB : Below w.heap.size w W) (hlt : w.heap.size < W.heap.size) : GetPost R w (.returned (.tuple #[.agg #[k0, k1, k2, k3], .int .i64 a, .int .i64 0])) (put4 W w.heap.size k0 k1 k2 k3) := by
  rcases h with ⟨_, v, lfn, rfl, hx⟩ | ⟨h, _⟩
  · refine ⟨_, rfl, (hx.kept (put4_grown _ _ _ _ _ _).size fun b ho hb => ?_).mono fun b _ h => by omega, below_of_grown hB (put4_grown _ _ _ _ _ _) (Nat.le_refl _) (by omega)⟩
    exact (put4_grown _ _ _ _ _ _).block b hb (fun e => by have := Option.some.inj e; omega)
  · exact absurd rfl h
theorem get_bad {w W : World} {R : Va.Rs} {a er : Nat} {x k0 k1 k2 k3 : Value} (h : GRes w R er a x W) (he : er ≠ 0) (hB : Below w.heap.size w W) (hlt : w.heap.size < W.heap.size) : GetPost R w (.returned (.tuple #[.agg #[.int .u8 0, .int .i64 0, .string ⟨#[]⟩, .slice none 0 0], .int .i64 0, .int .i64 er])) (put4 W w.heap.size k0 k1 k2 k3) := by
  rcases h with ⟨h, _⟩ | ⟨h, rfl⟩
  · exact absurd h he
  · exact ⟨rfl, h, below_of_grown hB (put4_grown _ _ _ _ _ _) (Nat.le_refl _) (by omega)⟩
set_option maxHeartbeats 1600000 in
set_option maxRecDepth 100000 in
theorem get_in (n cap : Nat) (ba : Option Addr) (l : List UInt8) (at' : Nat) (w : World) (hn : l.length = n) (hr : Rd w ba l) (hmx : n ≤ 1099511627776) (hb0 : ba = none → n = 0) (hnc : n ≤ cap) (ha : at' ≤ n) :
    Calls Try.prog 40 #[.slice ba n cap, .int .i64 at'] w (GetPost (Va.get l at') w) := by
  have hsz : (w.alloc (.cells #[.int .u8 0, .int .i64 0, .string ⟨#[]⟩, .slice none 0 0] 25)).heap.size = w.heap.size + 1 := by simp
  have Q1 := Blk.new w #[.int .u8 0, .int .i64 0, .string ⟨#[]⟩, .slice none 0 0] 25
  have hb1 : Below w.heap.size w (w.alloc (.cells #[.int .u8 0, .int .i64 0, .string ⟨#[]⟩, .slice none 0 0] 25)) := (Below.refl _ _).alloc (Nat.le_refl _) _
  have hr1 := hr.below hb1
  have hp1 : l ≠ [] → ∀ b o, ba = some (⟨b, o, none⟩ : Addr) → b ≠ w.heap.size + 1 := fun h b o e => by
    rcases hr with h' | ⟨b', o', e', hlt, _⟩
    · exact absurd h' h
    · rw [e] at e'; cases e'; omega
  have h1 : ¬ ((n : Int) < (at' : Int)) := by omega
  have h2 : ¬ ((at' : Int) < 0) := by omega
  generalize hW : w.alloc (.cells #[.int .u8 0, .int .i64 0, .string ⟨#[]⟩, .slice none 0 0] 25) = W1 at hsz Q1 hb1 hr1
  have g2 := Blk.new W1 #[.slice ba n cap, .int .i64 at', .int .i64 256, .int .i64 0] 108
  have hb2 : Below W1.heap.size W1 (W1.alloc (.cells #[.slice ba n cap, .int .i64 at', .int .i64 256, .int .i64 0] 108)) := (Below.refl _ _).alloc (Nat.le_refl _) _
  rw [hsz] at g2
  have CV := Lib.hid (show Calls Try.prog 72 #[.pointer (some ⟨w.heap.size + 1, 0, none⟩), .int .i64 16] _ _ from value_any n cap ba l hn hmx hb0 hnc 16 (Nat.le_refl _) (w.heap.size + 1) at' 256 _ g2 (hr1.below hb2) hp1 ha (Nat.le_refl _))
  have HB2 := Lib.hid (hb1.trans (hb2.mono (by omega)))
  have HQ2 := Lib.hid (Q1.below hb2)
  have hs2 : w.heap.size + 1 < (W1.alloc (.cells #[.slice ba n cap, .int .i64 at', .int .i64 256, .int .i64 0] 108)).heap.size := by simp; omega
  clear Q1 hb1 hr1 hp1 g2 hb2 hr
  subst hW
  go_enter Try.func40, Try.ntmps40
  go_wp2_with fail
  with_reducible refine (CV.out).mono ?_
  intro e w3 hpp
  obtain ⟨kk, nn, s5, b5, m5, c5, a5, lf5, er5, rfl, hg5, hr5, hres⟩ := part_of hpp
  clear hpp CV
  have hal : Below w3.heap.size w3 (w3.alloc (.cells #[.int .u8 kk, .int .i64 nn, .string s5, .slice b5 m5 c5] 25)) := (Below.refl _ _).alloc (Nat.le_refl _) _
  have hw3 : w.heap.size + 1 < w3.heap.size := Nat.lt_of_lt_of_le hs2 hr5.size
  have Q4 := (HQ2.out.kept hr5 (fun e => by have := Option.some.inj e; omega)).below hal
  have G4 : Gv _ (w.heap.size + 1) (.slice ba n cap) a5 lf5 er5 := hg5.below hal
  have T4 := Blk.new w3 #[.int .u8 kk, .int .i64 nn, .string s5, .slice b5 m5 c5] 25
  have hB4 : Below w.heap.size w (w3.alloc (.cells #[.int .u8 kk, .int .i64 nn, .string s5, .slice b5 m5 c5] 25)) := (below_of_grown HB2.out hr5 (by omega) (by omega)).trans (hal.mono (by omega))
  have hres4 := (gres_of (w := w) (Nat.lt_of_succ_lt hs2) hres).past hal
  clear hg5 hr5 hres hal HQ2 HB2
  have HRES := Lib.hid hres4
  have HB4 := Lib.hid hB4
  have HQ4 := Lib.hid Q4
  have HG4 := Lib.hid G4
  have HT4 := Lib.hid T4
  clear hres4 hB4
  have g3 := G4.cell 3
  have glt := G4.lt
  clear Q4 G4 T4
  have hne : w.heap.size ≠ w.heap.size + 1 := by omega
  have hne3 : w.heap.size ≠ w3.heap.size := by omega
  by_cases he : er5 = 0
  · subst he
    have g1 := HG4.out.cell 1
    have t0 := HT4.out.cell 0
    have t1 := HT4.out.cell 1
    have t2 := HT4.out.cell 2
    have t3 := HT4.out.cell 3
    have tlt := HT4.out.lt
    go_wp2_with fail
    have hdr : ∀ W : World, Below W.heap.size W W.drew := fun W => (Below.refl W.heap.size W).drew
    have hgr := put4_grown (w3.alloc (.cells #[.int .u8 kk, .int .i64 nn, .string s5, .slice b5 m5 c5] 25)) w.heap.size (.int .u8 kk) (.int .i64 nn) (.string s5) (.slice b5 m5 c5)
    have HTD := Lib.hid (HT4.out.kept hgr (fun e => by have := Option.some.inj e; omega))
    have HGD := Lib.hid (Blk.kept HG4.out hgr (fun e => by have := Option.some.inj e; omega))
    have HQD := Lib.hid ((((((HQ4.out.set 0 (.int .u8 kk)).set 1 (.int .i64 nn)).set 2 (.string s5)).set 3 (.slice b5 m5 c5)).below (Below.refl _ _).drew))
    clear hdr g3 hgr
    refine wp_region_T_drew (fun w' => w'.cell? ⟨w.heap.size + 1, 1, none⟩ = some (.int .i64 a5) ∧ w'.cell? ⟨w3.heap.size, 0, none⟩ = some (.int .u8 kk) ∧ w'.cell? ⟨w3.heap.size, 1, none⟩ = some (.int .i64 nn) ∧ w'.cell? ⟨w3.heap.size, 2, none⟩ = some (.string s5) ∧ w'.cell? ⟨w3.heap.size, 3, none⟩ = some (.slice b5 m5 c5)) 8 (by kernel_rfl) ⟨g1, t0, t1, t2, t3⟩ (fun hS => ?_)
    refine wpAnyT_take 0 rfl (by kernel_rfl) (by kernel_rfl) (by decide) (by kernel_rfl) (by kernel_rfl) (fun _ _ _ h => h) hS (by kernel_rfl) (v := ?_) ?_ ?_
    rotate_left
    · intro w' hSw; (try dsimp only at hSw); go_simp; (try with_reducible rfl)
    simp only [Act.put, List.setIfInBounds_toArray, List.set_cons_zero, List.set_cons_succ]
    refine wpAnyT_take 1 rfl (by kernel_rfl) (by kernel_rfl) (by decide) (by kernel_rfl) (by kernel_rfl) (fun _ _ _ h => h) hS (by kernel_rfl) (v := ?_) ?_ ?_
    rotate_left
    · intro w' hSw; (try dsimp only at hSw); go_simp; (try with_reducible rfl)
    simp only [Act.put, List.setIfInBounds_toArray, List.set_cons_zero, List.set_cons_succ]
    refine wpAnyT_take 2 rfl (by kernel_rfl) (by kernel_rfl) (by decide) (by kernel_rfl) (by kernel_rfl) (fun _ _ _ h => h) hS (by kernel_rfl) (v := ?_) ?_ ?_
    rotate_left
    · intro w' hSw; (try dsimp only at hSw); go_simp; (try with_reducible rfl)
    simp only [Act.put, List.setIfInBounds_toArray, List.set_cons_zero, List.set_cons_succ]
    refine wpAnyT_take 3 rfl (by kernel_rfl) (by kernel_rfl) (by decide) (by kernel_rfl) (by kernel_rfl) (fun _ _ _ h => h) hS (by kernel_rfl) (v := ?_) ?_ ?_
    rotate_left
    · intro w' hSw; (try dsimp only at hSw); go_simp; (try with_reducible rfl)
    simp only [Act.put, List.setIfInBounds_toArray, List.set_cons_zero, List.set_cons_succ]
    refine wpAnyT_take 4 rfl (by kernel_rfl) (by kernel_rfl) (by decide) (by kernel_rfl) (by kernel_rfl) (fun _ _ _ h => h) hS (by kernel_rfl) (v := ?_) ?_ ?_
    rotate_left
    · intro w' hSw; (try dsimp only at hSw); go_simp; (try with_reducible rfl)
    simp only [Act.put, List.setIfInBounds_toArray, List.set_cons_zero, List.set_cons_succ]
    refine wpAnyT_one 5 (by kernel_rfl) rfl (by kernel_rfl) (fun K hK => ?_)
    have q0 := HQ4.out.cell 0
    have q1 := HQ4.out.cell 1
    have q2 := HQ4.out.cell 2
    have q3 := HQ4.out.cell 3
    have qf := fun o => HQ4.out.free o
    have qlt := HQ4.out.lt
    go_simp
    have hS : _ ∧ _ ∧ _ ∧ _ ∧ _ := ⟨HGD.out.cell 1, HTD.out.cell 0, HTD.out.cell 1, HTD.out.cell 2, HTD.out.cell 3⟩
    refine hK _ _ (fun _ => hS) ?_
    clear hK K
    refine wpAnyT_one 6 (by kernel_rfl) rfl (by kernel_rfl) (fun K hK => ?_)
    go_simp
    refine hK _ _ (fun _ => hS) ?_
    clear hK K
    refine wpAnyT_one 7 (by kernel_rfl) rfl (by kernel_rfl) (fun K hK => ?_)
    go_simp
    refine hK _ _ (fun _ => hS) ?_
    clear hK K
    refine wpAnyT_done (by kernel_rfl) ?_
    clear hS g1 t0 t1 t2 t3 tlt q0 q1 q2 q3 qf qlt
    have HF := Lib.hid (get_ok HRES.out HB4.out HQ4.out.lt)
    go_wp2_with fail
    (try simp only [Exit.inBlock, Exit.then])
    refine bodyPost_ret (results_cell_row3 rfl _ _ w.heap.size 25 _ (0, 0) _ rfl HQD.out Try.underlying25 rfl (by kernel_rfl)) rfl ?_
    exact HF.out
  · have he2 : ((er5 : Int) != 0) = true := by rw [bne_iff_ne]; omega
    go_wp2_with fail
    have hgr := put4_grown (w3.alloc (.cells #[.int .u8 kk, .int .i64 nn, .string s5, .slice b5 m5 c5] 25)) w.heap.size (.int .u8 0) (.int .i64 0) (.string ⟨#[]⟩) (.slice none 0 0)
    have HGD := Lib.hid (Blk.kept HG4.out hgr (fun e => by have := Option.some.inj e; omega))
    have HQD := Lib.hid ((((((HQ4.out.set 0 (.int .u8 0)).set 1 (.int .i64 0)).set 2 (.string ⟨#[]⟩)).set 3 (.slice none 0 0)).below (Below.refl _ _).drew))
    clear hgr
    refine wp_region_T_drew (fun w' => w'.cell? ⟨w.heap.size + 1, 3, none⟩ = some (.int .i64 er5)) 8 (by kernel_rfl) g3 (fun hS => ?_)
    refine wpAnyT_pure 0 rfl (by kernel_rfl) (by decide) (by kernel_rfl) (by kernel_rfl) (fun _ _ _ h => h) hS (by kernel_rfl) (v := ?_) ?_ ?_
    rotate_left
    · intro w'; go_simp; (try with_reducible rfl)
    simp only [Act.put, List.setIfInBounds_toArray, List.set_cons_zero, List.set_cons_succ]
    refine wpAnyT_take 1 rfl (by kernel_rfl) (by kernel_rfl) (by decide) (by kernel_rfl) (by kernel_rfl) (fun _ _ _ h => h) hS (by kernel_rfl) (v := ?_) ?_ ?_
    rotate_left
    · intro w' hSw; (try dsimp only at hSw); go_simp; (try with_reducible rfl)
    simp only [Act.put, List.setIfInBounds_toArray, List.set_cons_zero, List.set_cons_succ]
    refine wpAnyT_take 2 rfl (by kernel_rfl) (by kernel_rfl) (by decide) (by kernel_rfl) (by kernel_rfl) (fun _ _ _ h => h) hS (by kernel_rfl) (v := ?_) ?_ ?_
    rotate_left
    · intro w' hSw; (try dsimp only at hSw); go_simp; (try with_reducible rfl)
    simp only [Act.put, List.setIfInBounds_toArray, List.set_cons_zero, List.set_cons_succ]
    refine wpAnyT_take 3 rfl (by kernel_rfl) (by kernel_rfl) (by decide) (by kernel_rfl) (by kernel_rfl) (fun _ _ _ h => h) hS (by kernel_rfl) (v := ?_) ?_ ?_
    rotate_left
    · intro w' hSw; (try dsimp only at hSw); go_simp; (try with_reducible rfl)
    simp only [Act.put, List.setIfInBounds_toArray, List.set_cons_zero, List.set_cons_succ]
    refine wpAnyT_take 4 rfl (by kernel_rfl) (by kernel_rfl) (by decide) (by kernel_rfl) (by kernel_rfl) (fun _ _ _ h => h) hS (by kernel_rfl) (v := ?_) ?_ ?_
    rotate_left
    · intro w' hSw; (try dsimp only at hSw); go_simp; (try with_reducible rfl)
    simp only [Act.put, List.setIfInBounds_toArray, List.set_cons_zero, List.set_cons_succ]
    refine wpAnyT_one 5 (by kernel_rfl) rfl (by kernel_rfl) (fun K hK => ?_)
    have q0 := HQ4.out.cell 0
    have q1 := HQ4.out.cell 1
    have q2 := HQ4.out.cell 2
    have q3 := HQ4.out.cell 3
    have qf := fun o => HQ4.out.free o
    have qlt := HQ4.out.lt
    go_simp
    have hS := HGD.out.cell 3
    refine hK _ _ (fun _ => hS) ?_
    clear hK K
    refine wpAnyT_one 6 (by kernel_rfl) rfl (by kernel_rfl) (fun K hK => ?_)
    go_simp
    refine hK _ _ (fun _ => hS) ?_
    clear hK K
    refine wpAnyT_one 7 (by kernel_rfl) rfl (by kernel_rfl) (fun K hK => ?_)
    go_simp
    refine hK _ _ (fun _ => hS) ?_
    clear hK K
    refine wpAnyT_done (by kernel_rfl) ?_
    clear hS g3 glt q0 q1 q2 q3 qf qlt
    have HF := Lib.hid (get_bad (k0 := .int .u8 0) (k1 := .int .i64 0) (k2 := .string ⟨#[]⟩) (k3 := .slice none 0 0) HRES.out he HB4.out HQ4.out.lt)
    go_wp2_with fail
    (try simp only [Exit.inBlock, Exit.then])
    refine bodyPost_ret (results_cell_row3 rfl _ _ w.heap.size 25 _ (0, 0) _ rfl HQD.out Try.underlying25 rfl (by kernel_rfl)) rfl ?_
    exact HF.out
end Go.Proofs.Ytgamhgeiceakeaa
/- Values as plain data: small ones, ones that are alike. No program stands here. -/
set_option linter.unusedVariables false
set_option linter.unusedSimpArgs false
namespace Go.Proofs.Ytgamhgeiceakeaa
namespace Va
open By (Bs)
mutual
def smallV : V → Int → Int → Bool
  | .mk k n s l, lv, many => decide (1 ≤ lv) && decide ((l.length : Int) ≤ many) && decide (s.size ≤ 5000) && smallL l (lv - 1) many
termination_by structural v => v
def smallL : List V → Int → Int → Bool
  | [], _, _ => true
  | v :: l, lv, many => smallV v lv many && smallL l lv many
termination_by structural l => l
end
theorem smallL_iff (l : List V) (lv many : Int) : smallL l lv many = true ↔ ∀ v ∈ l, smallV v lv many = true := by
  induction l with
  | nil => unfold smallL; simp
  | cons v l ih => unfold smallL; rw [Bool.and_eq_true, ih]; simp
/-- a list that is small as far as it has been looked at -/
theorem smallL_at (l : List V) (lv many : Int) (i : Nat) (h : i < l.length) (hs : smallV l[i] lv many = false) : smallL l lv many = false := by
  cases hc : smallL l lv many with
  | false => rfl
  | true => exact absurd ((smallL_iff l lv many).1 hc _ (List.getElem_mem h)) (by rw [hs]; decide)
theorem smallL_all (l : List V) (lv many : Int) (h : ∀ i (h : i < l.length), smallV l[i] lv many = true) : smallL l lv many = true :=
  (smallL_iff l lv many).2 fun v hv => by obtain ⟨i, hi, rfl⟩ := List.getElem_of_mem hv; exact h i hi
mutual
def alkV : V → V → Bool
  | .mk k n s l, u => match u with
    | .mk k' n' s' l' => (k == k') && (n == n') && (s.data.toList == s'.data.toList) && (l.length == l'.length) && alkL l l'
termination_by structural v => v
def alkL : List V → List V → Bool
  | [], _ => true
  | v :: l, r => match r with
    | [] => false
    | u :: r => alkV v u && alkL l r
termination_by structural l => l
end
theorem alkL_at (l r : List V) (hlen : l.length = r.length) (i : Nat) (h : i < l.length) (hs : alkV l[i] (r[i]'(hlen ▸ h)) = false) : alkL l r = false := by
  induction l generalizing r i with
  | nil => simp at h
  | cons v l ih =>
    match r, hlen with
    | u :: r, hlen =>
      show (alkV v u && alkL l r) = false
      match i, h with
      | 0, _ => rw [show alkV v u = false from hs]; rfl
      | i + 1, h => rw [ih r (by simpa using hlen) i (by simpa using h) hs, Bool.and_false]
theorem alkL_all (l r : List V) (hlen : l.length = r.length) (h : ∀ i (h : i < l.length), alkV l[i] (r[i]'(hlen ▸ h)) = true) : alkL l r = true := by
  induction l generalizing r with
  | nil => rfl
  | cons v l ih =>
    match r, hlen with
    | u :: r, hlen =>
      show (alkV v u && alkL l r) = true
      rw [show alkV v u = true from h 0 (by simp), ih r (by simpa using hlen) (fun i hi => h (i + 1) (by simpa using hi))]; rfl
theorem ba_ext {s t : ByteArray} (h : s.data.toList = t.data.toList) : s = t := by
  obtain ⟨⟨l⟩⟩ := s; obtain ⟨⟨r⟩⟩ := t
  simp only at h
  subst h; rfl
theorem alk_eq : ∀ v u : V, alkV v u = true ↔ v = u := V.ind fun k n s l ih => by
  intro u
  obtain ⟨k', n', s', l'⟩ := u
  have hL : ∀ (l r : List V), (∀ v ∈ l, ∀ u, alkV v u = true ↔ v = u) → l.length = r.length → (alkL l r = true ↔ l = r) := by
    intro l
    induction l with
    | nil => intro r _ h; cases r with | nil => simp [alkL] | cons _ _ => simp at h
    | cons v l ih2 =>
      intro r hP h
      match r, h with
      | u :: r, h =>
        show (alkV v u && alkL l r) = true ↔ _
        rw [Bool.and_eq_true, hP v (List.mem_cons_self ..), ih2 r (fun x hx => hP x (List.mem_cons_of_mem _ hx)) (by simpa using h)]
        simp
  show ((k == k') && (n == n') && (s.data.toList == s'.data.toList) && (l.length == l'.length) && alkL l l') = true ↔ _
  constructor
  · intro h
    simp only [Bool.and_eq_true, beq_iff_eq] at h
    obtain ⟨⟨⟨⟨h1, h2⟩, h3⟩, h4⟩, h5⟩ := h
    rw [h1, h2, ba_ext h3, (hL l l' ih h4).1 h5]
  · intro h
    cases h
    simp [(hL l l ih rfl).2 rfl]
theorem alk_refl (v : V) : alkV v v = true := (alk_eq v v).2 rfl
end Va
end Go.Proofs.Ytgamhgeiceakeaa
/- droverlow.SmallValue, by contract. -/
set_option linter.unusedVariables false
set_option linter.unusedSimpArgs false
namespace Go.Proofs.Ytgamhgeiceakeaa
open Go.RowKit
open Va (V)
def BB (b : Bool) (w : World) (e : Ending) (w' : World) : Prop := e = .returned (.bool b) ∧ Below w.heap.size w w'
def SmP (v : V) : Prop := ∀ (ok : Nat → Prop) (x : Value) (w : World) (h : RV ok w v x) (lv many : Int) (h0 : 0 ≤ lv) (h1 : lv ≤ 1000) (h2 : 0 ≤ many) (h3 : many ≤ 1000000), Calls Try.prog 54 #[x, .int .i64 lv, .int .i64 many] w (BB (Va.smallV v lv many) w)
set_option maxHeartbeats 1600000 in
set_option maxRecDepth 100000 in
theorem small_any : ∀ v, SmP v := V.ind fun k n s l ih => by
  intro ok x w h lv many hv0 hv1 hm0 hm1
  obtain ⟨ba, cap, rfl, hk, hn, hs, hL⟩ := h.inv
  have hlen : l.length ≤ 9223372036854775807 := by have h1 := hL.le; have h2 := hL.max; simp only [maxLen] at h2; omega
  have hss : s.size ≤ 9223372036854775807 := by simp only [maxLen] at hs; omega
  have hlc := hL.le
  have HL := Lib.hid hL
  clear h hL hk hn hs
  obtain ⟨R, hR⟩ : ∃ R, Va.smallV (.mk k n s l) lv many = R := ⟨_, rfl⟩
  rw [hR]
  have hR' : R = (decide (1 ≤ lv) && decide ((l.length : Int) ≤ many) && decide (s.size ≤ 5000) && Va.smallL l (lv - 1) many) := by rw [← hR]; unfold Va.smallV; rfl
  have HE := Lib.hid hR'
  clear hR hR'
  have F := Blk.new w #[.int .u8 k, .int .i64 n, .string s, .slice ba l.length cap] 25
  have hB1 : Below w.heap.size w (w.alloc (.cells #[.int .u8 k, .int .i64 n, .string s, .slice ba l.length cap] 25)) := (Below.refl _ _).alloc (Nat.le_refl _) _
  have HB1 := Lib.hid hB1
  have HF := Lib.hid F
  clear hB1 F
  by_cases g1 : lv < 1
  · have hRf : R = false := by rw [HE.out, decide_eq_false (by omega)]; rfl
    subst hRf
    go_enter Try.func54, Try.ntmps54
    go_wp2
    go_ret
    exact ⟨rfl, HB1.out⟩
  by_cases g2 : many < (l.length : Int)
  · have hRf : R = false := by rw [HE.out, decide_eq_false (show ¬ (l.length : Int) ≤ many by omega)]; simp
    subst hRf
    go_enter Try.func54, Try.ntmps54
    go_wp2
    go_ret
    exact ⟨rfl, HB1.out⟩
  by_cases g3 : (5000 : Int) < (s.size : Int)
  · have hRf : R = false := by rw [HE.out, decide_eq_false (show ¬ s.size ≤ 5000 by omega)]; simp
    subst hRf
    go_enter Try.func54, Try.ntmps54
    go_wp2
    go_ret
    exact ⟨rfl, HB1.out⟩
  have hRs : R = Va.smallL l (lv - 1) many := by rw [HE.out, decide_eq_true (by omega), decide_eq_true (show (l.length : Int) ≤ many by omega), decide_eq_true (show s.size ≤ 5000 by omega)]; simp
  clear HE
  have HE := Lib.hid hRs
  clear hRs
  go_enter Try.func54, Try.ntmps54
  go_wp2
  go_loopw [7] (fun iv wr => ∃ i : Nat, i ≤ l.length ∧ iv = .int .i64 i ∧ Blk wr w.heap.size #[.int .u8 k, .int .i64 n, .string s, .slice ba l.length cap] 25 ∧ Below w.heap.size w wr ∧ ∀ j (h : j < l.length), j < i → Va.smallV l[j] (lv - 1) many = true) (fun iv _ => l.length - (intOf iv).toNat)
  case atStart => exact ⟨0, by omega, rfl, HF.out, HB1.out, fun j _ h => by omega⟩
  case round =>
    obtain ⟨i, hi, rfl, hF, hB, hall⟩ := hrel
    have d3 := hF.cell 3
    have dlt := hF.lt
    have HBR := Lib.hid hB
    have HFR := Lib.hid hF
    have HALL := Lib.hid hall
    clear hF hB hall
    by_cases hlt : i < l.length
    · obtain ⟨bb, o, x, hba, hok, h4, hrv⟩ := HL.out.at_ i hlt
      have h4' := h4.kept HBR.out.size (HBR.out.block bb h4.lt)
      have C := Lib.hid (ih l[i] (List.getElem_mem hlt) ok x wr (hrv.past HBR.out) (lv - 1) many (by omega) (by omega) hm0 hm1)
      cases hb : Va.smallV l[i] (lv - 1) many
      · have hRf := Va.smallL_at l (lv - 1) many i hlt hb
        rw [← HE.out] at hRf
        subst hRf
        rw [hb] at C
        clear hb
        obtain ⟨hlt4, a1, a2, a3, a4, hx4, e1, e2, e3, e4⟩ := h4'
        subst hx4
        subst hba
        have hj0 : (0 : Int) ≤ (i : Int) := by omega
        have hj1 : (i : Int) < (l.length : Int) := by omega
        clear h4 hrv
        go_wp2_with fail
        refine (C.out).mono ?_
        rintro e w5 ⟨rfl, hb5⟩
        have HB5 := Lib.hid (HBR.out.trans (hb5.mono HBR.out.size))
        clear hb5
        go_wp2
        go_ret
        exact ⟨rfl, HB5.out⟩
      · have HBT := Lib.hid hb
        rw [hb] at C
        clear hb
        obtain ⟨hlt4, a1, a2, a3, a4, hx4, e1, e2, e3, e4⟩ := h4'
        subst hx4
        subst hba
        have hj0 : (0 : Int) ≤ (i : Int) := by omega
        have hj1 : (i : Int) < (l.length : Int) := by omega
        clear h4 hrv
        go_wp2_with fail
        refine (C.out).mono ?_
        rintro e w5 ⟨rfl, hb5⟩
        have HB5 := Lib.hid (HBR.out.trans (hb5.mono HBR.out.size))
        have HF5 := Lib.hid (HFR.out.below hb5)
        clear hb5
        go_wp2
        go_roundw
        case rel => exact ⟨i + 1, by omega, by go_num, HF5.out, HB5.out, fun j h h2 => by
          rcases Nat.lt_or_ge j i with h3 | h3
          · exact HALL.out j h h3
          · obtain rfl : j = i := by omega
            exact HBT.out⟩
        case measure => simp [intOf]; omega
    · obtain rfl : i = l.length := by omega
      have hRt : R = true := by rw [HE.out]; exact Va.smallL_all l (lv - 1) many fun j h => HALL.out j h h
      subst hRt
      go_wp2
      go_ret
      exact ⟨rfl, HBR.out⟩
end Go.Proofs.Ytgamhgeiceakeaa
/- droverlow.Alike, by contract. -/
set_option linter.unusedVariables false
set_option linter.unusedSimpArgs false
namespace Go.Proofs.Ytgamhgeiceakeaa
open Go.RowKit
open Va (V)
def AlP (v : V) : Prop := ∀ (u : V) (ok ok' : Nat → Prop) (x y : Value) (w : World) (h : RV ok w v x) (h' : RV ok' w u y), Calls Try.prog 45 #[x, y] w (BB (Va.alkV v u) w)
theorem alk_false {k k' : Nat} {n n' : Int} {s s' : ByteArray} {l l' : List V} (h : ¬ (k = k' ∧ n = n' ∧ s = s' ∧ l.length = l'.length)) : Va.alkV (.mk k n s l) (.mk k' n' s' l') = false := by
  cases hc : Va.alkV (.mk k n s l) (.mk k' n' s' l') with
  | false => rfl
  | true =>
    have := (Va.alk_eq _ _).1 hc
    cases this
    exact absurd ⟨rfl, rfl, rfl, rfl⟩ h
theorem ba_ne {s t : ByteArray} (h : s ≠ t) : (s.toList == t.toList) = false := by
  refine beq_eq_false_iff_ne.2 fun e => h ?_
  rw [ByteArray.toList_eq, ByteArray.toList_eq] at e
  exact Va.ba_ext e
set_option maxHeartbeats 1600000 in
set_option maxRecDepth 100000 in
theorem alike_any : ∀ v, AlP v := V.ind fun k n s l ih => by
  intro u ok ok' x y w h h'
  obtain ⟨k', n', s', l'⟩ := u
  obtain ⟨ba, cap, rfl, hk, hn, hs, hL⟩ := h.inv
  obtain ⟨ba', cap', rfl, hk', hn', hs', hL'⟩ := h'.inv
  have hlen : l.length ≤ 9223372036854775807 := by have h1 := hL.le; have h2 := hL.max; simp only [maxLen] at h2; omega
  have hlen' : l'.length ≤ 9223372036854775807 := by have h1 := hL'.le; have h2 := hL'.max; simp only [maxLen] at h2; omega
  have hlc := hL.le
  have hlc' := hL'.le
  have HL := Lib.hid hL
  have HL' := Lib.hid hL'
  clear h hL hn hs h' hL' hn' hs'
  have F := (Blk.new w #[.int .u8 k, .int .i64 n, .string s, .slice ba l.length cap] 25).below ((Below.refl _ _).alloc (Nat.le_refl _) (.cells #[.int .u8 k', .int .i64 n', .string s', .slice ba' l'.length cap'] 25))
  have F' := Blk.new (w.alloc (.cells #[.int .u8 k, .int .i64 n, .string s, .slice ba l.length cap] 25)) #[.int .u8 k', .int .i64 n', .string s', .slice ba' l'.length cap'] 25
  rw [show (w.alloc (.cells #[.int .u8 k, .int .i64 n, .string s, .slice ba l.length cap] 25)).heap.size = w.heap.size + 1 by simp] at F'
  have hB1 : Below w.heap.size w ((w.alloc (.cells #[.int .u8 k, .int .i64 n, .string s, .slice ba l.length cap] 25)).alloc (.cells #[.int .u8 k', .int .i64 n', .string s', .slice ba' l'.length cap'] 25)) := ((Below.refl _ _).alloc (Nat.le_refl _) _).alloc (by simp) _
  have HB1 := Lib.hid hB1
  have HF := Lib.hid F
  have HF' := Lib.hid F'
  have hw1 : w.heap.size < w.heap.size + 1 + 1 := by omega
  clear hB1 F F'
  by_cases e1 : k = k'
  case neg =>
    have q1 : ((k : Int) == (k' : Int)) = false := bneI (by omega)
    have q2 : ((k : Int) != (k' : Int)) = true := by rw [bne_iff_ne]; omega
    rw [alk_false (fun h => e1 h.1)]
    go_enter Try.func45, Try.ntmps45
    go_wp2
    go_ret
    exact ⟨rfl, HB1.out⟩
  subst e1
  by_cases e2 : n = n'
  case neg =>
    have q1 : (n == n') = false := bneI e2
    have q2 : (n != n') = true := by rw [bne_iff_ne]; exact e2
    rw [alk_false (fun h => e2 h.2.1)]
    go_enter Try.func45, Try.ntmps45
    go_wp2
    go_ret
    exact ⟨rfl, HB1.out⟩
  subst e2
  by_cases e3 : s = s'
  case neg =>
    have q1 : (s.toList == s'.toList) = false := ba_ne e3
    rw [alk_false (fun h => e3 h.2.2.1)]
    go_enter Try.func45, Try.ntmps45
    go_wp2
    go_ret
    exact ⟨rfl, HB1.out⟩
  subst e3
  by_cases e4 : l.length = l'.length
  case neg =>
    have q1 : ((l.length : Int) == (l'.length : Int)) = false := bneI (by omega)
    have q2 : ((l.length : Int) != (l'.length : Int)) = true := by rw [bne_iff_ne]; omega
    rw [alk_false (fun h => e4 h.2.2.2)]
    clear e4
    go_enter Try.func45, Try.ntmps45
    go_wp2
    go_ret
    exact ⟨rfl, HB1.out⟩
  have hE : Va.alkV (.mk k n s l) (.mk k n s l') = Va.alkL l l' := by
    show ((k == k) && (n == n) && (s.data.toList == s.data.toList) && (l.length == l'.length) && Va.alkL l l') = _
    simp [e4]
  rw [hE]
  clear hE
  obtain ⟨R, hR⟩ : ∃ R, Va.alkL l l' = R := ⟨_, rfl⟩
  rw [hR]
  have HE := Lib.hid hR
  have H4 := Lib.hid e4
  have q4 : ((l.length : Int) == (l'.length : Int)) = true := beqI (by omega)
  have q5 : ((l.length : Int) != (l'.length : Int)) = false := by simp [e4]
  clear hR e4
  go_enter Try.func45, Try.ntmps45
  go_wp2
  go_loopw [5] (fun iv wr => ∃ i : Nat, i ≤ l.length ∧ iv = .int .i64 i ∧ Blk wr w.heap.size #[.int .u8 k, .int .i64 n, .string s, .slice ba l.length cap] 25 ∧ Blk wr (w.heap.size + 1) #[.int .u8 k, .int .i64 n, .string s, .slice ba' l'.length cap'] 25 ∧ Below w.heap.size w wr ∧ ∀ j (h : j < l.length), j < i → Va.alkV l[j] (l'[j]'(H4.out ▸ h)) = true) (fun iv _ => l.length - (intOf iv).toNat)
  case atStart => exact ⟨0, by omega, rfl, HF.out, HF'.out, HB1.out, fun j _ h => by omega⟩
  case round =>
    obtain ⟨i, hi, rfl, hF, hF', hB, hall⟩ := hrel
    have d3 := hF.cell 3
    have dlt := hF.lt
    have d3' := hF'.cell 3
    have dlt' := hF'.lt
    have HBR := Lib.hid hB
    have HFR := Lib.hid hF
    have HFR' := Lib.hid hF'
    have HALL := Lib.hid hall
    clear hF hF' hB hall
    by_cases hlt : i < l.length
    · have hlt' : i < l'.length := H4.out ▸ hlt
      obtain ⟨bb, o, x, hba, hok, h4, hrv⟩ := HL.out.at_ i hlt
      obtain ⟨bb', o', x', hba', hok', h4x, hrv'⟩ := HL'.out.at_ i hlt'
      have h4' := h4.kept HBR.out.size (HBR.out.block bb h4.lt)
      have h4x' := h4x.kept HBR.out.size (HBR.out.block bb' h4x.lt)
      have hdr : Below wr.heap.size wr wr.drew := (Below.refl _ _).drew
      have C := Lib.hid (ih l[i] (List.getElem_mem hlt) l'[i] ok ok' x x' wr.drew ((hrv.past HBR.out).past hdr) ((hrv'.past HBR.out).past hdr))
      have HAT := Lib.hid (Va.alkL_at l l' H4.out i hlt)
      have HALK : Hid (∀ j (h : j < l.length), j < i + 1 → Va.alkV l[i] l'[i] = true → Va.alkV l[j] (l'[j]'(H4.out ▸ h)) = true) := Lib.hid (fun j h h2 h3 => by
        rcases Nat.lt_or_ge j i with h4 | h4
        · exact HALL.out j h h4
        · obtain rfl : j = i := by omega
          exact h3)
      obtain ⟨b, hb⟩ : ∃ b, Va.alkV l[i] l'[i] = b := ⟨_, rfl⟩
      rw [hb] at C
      have HBT := Lib.hid hb
      clear hb
      obtain ⟨hlt4, a1, a2, a3, a4, hx4, e1, e2, e3, e4⟩ := h4'
      obtain ⟨hlt4', a1', a2', a3', a4', hx4', e1', e2', e3', e4'⟩ := h4x'
      subst hx4
      subst hba
      subst hx4'
      subst hba'
      have hj0 : (0 : Int) ≤ (i : Int) := by omega
      have hj1 : (i : Int) < (l.length : Int) := by omega
      have hj1' : (i : Int) < (l'.length : Int) := by omega
      clear h4 h4x hrv hrv' hdr
      go_wp2_with fail
      refine wp_region_T_drew (fun w' => w'.cell? ⟨w.heap.size, 3, none⟩ = some (.slice (some ⟨bb, o, none⟩) l.length cap) ∧ w'.cell? ⟨w.heap.size + 1, 3, none⟩ = some (.slice (some ⟨bb', o', none⟩) l'.length cap') ∧ (w'.cell? ⟨bb, o + i * 4, none⟩ = some a1 ∧ w'.cell? ⟨bb, o + i * 4 + 1, none⟩ = some a2 ∧ w'.cell? ⟨bb, o + i * 4 + 2, none⟩ = some a3 ∧ w'.cell? ⟨bb, o + i * 4 + 3, none⟩ = some a4) ∧ (w'.cell? ⟨bb', o' + i * 4, none⟩ = some a1' ∧ w'.cell? ⟨bb', o' + i * 4 + 1, none⟩ = some a2' ∧ w'.cell? ⟨bb', o' + i * 4 + 2, none⟩ = some a3' ∧ w'.cell? ⟨bb', o' + i * 4 + 3, none⟩ = some a4')) 12 (by kernel_rfl) ⟨d3, d3', ⟨e1, e2, e3, e4⟩, e1', e2', e3', e4'⟩ (fun hS => ?_)
      refine wpAnyT_take 0 rfl (by kernel_rfl) (by kernel_rfl) (by decide) (by kernel_rfl) (by kernel_rfl) (fun _ _ _ h => h) hS (by kernel_rfl) (v := ?_) ?_ ?_
      rotate_left
      · intro w' hSw; (try dsimp only at hSw); go_simp; (try with_reducible rfl)
      simp only [Act.put, List.setIfInBounds_toArray, List.set_cons_zero, List.set_cons_succ]
      refine wpAnyT_take 1 rfl (by kernel_rfl) (by kernel_rfl) (by decide) (by kernel_rfl) (by kernel_rfl) (fun _ _ _ h => h) hS (by kernel_rfl) (v := ?_) ?_ ?_
      rotate_left
      · intro w' hSw; (try dsimp only at hSw); go_simp; (try with_reducible rfl)
      simp only [Act.put, List.setIfInBounds_toArray, List.set_cons_zero, List.set_cons_succ]
      refine wpAnyT_take 2 rfl (by kernel_rfl) (by kernel_rfl) (by decide) (by kernel_rfl) (by kernel_rfl) (fun _ _ _ h => h) hS (by kernel_rfl) (v := ?_) ?_ ?_
      rotate_left
      · intro w' hSw; (try dsimp only at hSw); go_simp; (try with_reducible rfl)
      simp only [Act.put, List.setIfInBounds_toArray, List.set_cons_zero, List.set_cons_succ]
      refine wpAnyT_take 3 rfl (by kernel_rfl) (by kernel_rfl) (by decide) (by kernel_rfl) (by kernel_rfl) (fun _ _ _ h => h) hS (by kernel_rfl) (v := ?_) ?_ ?_
      rotate_left
      · intro w' hSw; (try dsimp only at hSw); go_simp; (try with_reducible rfl)
      simp only [Act.put, List.setIfInBounds_toArray, List.set_cons_zero, List.set_cons_succ]
      refine wpAnyT_take 4 rfl (by kernel_rfl) (by kernel_rfl) (by decide) (by kernel_rfl) (by kernel_rfl) (fun _ _ _ h => h) hS (by kernel_rfl) (v := ?_) ?_ ?_
      rotate_left
      · intro w' hSw; (try dsimp only at hSw); go_simp; (try with_reducible rfl)
      simp only [Act.put, List.setIfInBounds_toArray, List.set_cons_zero, List.set_cons_succ]
      refine wpAnyT_take 5 rfl (by kernel_rfl) (by kernel_rfl) (by decide) (by kernel_rfl) (by kernel_rfl) (fun _ _ _ h => h) hS (by kernel_rfl) (v := ?_) ?_ ?_
      rotate_left
      · intro w' hSw; (try dsimp only at hSw); go_simp; (try with_reducible rfl)
      simp only [Act.put, List.setIfInBounds_toArray, List.set_cons_zero, List.set_cons_succ]
      refine wpAnyT_take 6 rfl (by kernel_rfl) (by kernel_rfl) (by decide) (by kernel_rfl) (by kernel_rfl) (fun _ _ _ h => h) hS (by kernel_rfl) (v := ?_) ?_ ?_
      rotate_left
      · intro w' hSw; (try dsimp only at hSw); go_simp; (try with_reducible rfl)
      simp only [Act.put, List.setIfInBounds_toArray, List.set_cons_zero, List.set_cons_succ]
      refine wpAnyT_take 7 rfl (by kernel_rfl) (by kernel_rfl) (by decide) (by kernel_rfl) (by kernel_rfl) (fun _ _ _ h => h) hS (by kernel_rfl) (v := ?_) ?_ ?_
      rotate_left
      · intro w' hSw; (try dsimp only at hSw); go_simp; (try with_reducible rfl)
      simp only [Act.put, List.setIfInBounds_toArray, List.set_cons_zero, List.set_cons_succ]
      refine wpAnyT_take 8 rfl (by kernel_rfl) (by kernel_rfl) (by decide) (by kernel_rfl) (by kernel_rfl) (fun _ _ _ h => h) hS (by kernel_rfl) (v := ?_) ?_ ?_
      rotate_left
      · intro w' hSw; (try dsimp only at hSw); go_simp; (try with_reducible rfl)
      simp only [Act.put, List.setIfInBounds_toArray, List.set_cons_zero, List.set_cons_succ]
      refine wpAnyT_take 9 rfl (by kernel_rfl) (by kernel_rfl) (by decide) (by kernel_rfl) (by kernel_rfl) (fun _ _ _ h => h) hS (by kernel_rfl) (v := ?_) ?_ ?_
      rotate_left
      · intro w' hSw; (try dsimp only at hSw); go_simp; (try with_reducible rfl)
      simp only [Act.put, List.setIfInBounds_toArray, List.set_cons_zero, List.set_cons_succ]
      refine wpAnyT_one 10 (by kernel_rfl) rfl (by kernel_rfl) (fun K hK => ?_)
      go_simp
      with_reducible refine (C.out).mono ?_
      rintro e w5 ⟨rfl, hb5⟩
      have hb6 : Below wr.heap.size wr w5 := ((Below.refl wr.heap.size wr).drew).trans hb5
      have hc : ∀ b o, b < wr.heap.size → w5.cell? ⟨b, o, none⟩ = wr.cell? ⟨b, o, none⟩ := fun b o h => hb6.cell (p := ⟨b, o, none⟩) h
      have hS : _ ∧ _ ∧ (_ ∧ _ ∧ _ ∧ _) ∧ (_ ∧ _ ∧ _ ∧ _) := ⟨(hc _ _ dlt).trans d3, (hc _ _ dlt').trans d3', ⟨(hc _ _ hlt4).trans e1, (hc _ _ hlt4).trans e2, (hc _ _ hlt4).trans e3, (hc _ _ hlt4).trans e4⟩, (hc _ _ hlt4').trans e1', (hc _ _ hlt4').trans e2', (hc _ _ hlt4').trans e3', (hc _ _ hlt4').trans e4'⟩
      have HB5 := Lib.hid (HBR.out.trans (hb6.mono HBR.out.size))
      have HF5 := Lib.hid (HFR.out.below hb6)
      have HF5' := Lib.hid (HFR'.out.below hb6)
      clear hc hb5 hb6
      refine hK _ _ (fun _ => hS) ?_
      clear hK K
      refine wpAnyT_take 11 rfl (by kernel_rfl) (by kernel_rfl) (by decide) (by kernel_rfl) (by kernel_rfl) (fun _ _ _ h => h) hS (by kernel_rfl) (v := ?_) ?_ ?_
      rotate_left
      · intro w' hSw; (try dsimp only at hSw); go_simp; (try with_reducible rfl)
      simp only [Act.put, List.setIfInBounds_toArray, List.set_cons_zero, List.set_cons_succ]
      refine wpAnyT_done (by kernel_rfl) ?_
      clear hS d3 d3' dlt dlt' e1 e2 e3 e4 e1' e2' e3' e4' hlt4 hlt4' C
      cases b with
      | false =>
        have hRf := HAT.out HBT.out
        rw [HE.out] at hRf
        subst hRf
        clear HE
        go_wp2
        go_ret
        exact ⟨rfl, HB5.out⟩
      | true =>
        go_wp2
        go_roundw
        case rel => exact ⟨i + 1, by omega, by go_num, HF5.out, HF5'.out, HB5.out, fun j h h2 => HALK.out j h h2 HBT.out⟩
        case measure => simp [intOf]; omega
    · obtain rfl : i = l.length := by omega
      have hRt : R = true := by rw [← HE.out]; exact Va.alkL_all l l' H4.out fun j h => HALL.out j h h
      subst hRt
      go_wp2
      go_ret
      exact ⟨rfl, HBR.out⟩
end Go.Proofs.Ytgamhgeiceakeaa
/- package bytes: sums, copies, by contract. -/
set_option linter.unusedVariables false
namespace Go.Proofs.Ytgamhgeiceakeaa
open Go.RowKit
theorem bits_xor_u32 (x y : Nat) (hx : x < 4294967296) (hy : y < 4294967296) : bits .xor .u32 (x : Int) (y : Int) = ((x ^^^ y : Nat) : Int) := by
  have hz : x ^^^ y < 2 ^ 32 := Nat.xor_lt_two_pow hx hy
  have e1 : (BitVec.ofInt 32 (x : Int)).toNat = x := by rw [BitVec.toNat_ofInt]; omega
  have e2 : (BitVec.ofInt 32 (y : Int)).toNat = y := by rw [BitVec.toNat_ofInt]; omega
  show IntKind.u32.wrap ((BitVec.ofInt 32 (x : Int) ^^^ BitVec.ofInt 32 (y : Int)).toNat : Int) = _
  rw [BitVec.toNat_xor, e1, e2, wraps_u32 _ (by omega) (by omega)]
theorem u32_and1 (x : Int) (h₀ : 0 ≤ x) (h₁ : x < 4294967296) : bits .and .u32 x 1 = x % 2 := by
  have h := bits_mask .u32 32 (by decide) wraps_u32 1 (by decide) x h₀ (by omega)
  simpa using h
theorem u32_and_const0 : bits .and .u32 3988292384 0 = 0 := by decide
theorem u32_and_const1 : bits .and .u32 3988292384 4294967295 = 3988292384 := by decide
theorem xor_ones32 (b : Nat) (hb : b < 2 ^ 32) : (2 ^ 32 - 1) ^^^ b = 2 ^ 32 - 1 - b := by
  apply Nat.eq_of_testBit_eq
  intro i
  rw [Nat.testBit_xor, Nat.testBit_two_pow_sub_one, show 2 ^ 32 - 1 - b = 2 ^ 32 - (b + 1) by omega, Nat.testBit_two_pow_sub_succ hb]
  by_cases hi : i < 32
  · simp [hi]
  · have : b.testBit i = false := Nat.testBit_lt_two_pow (Nat.lt_of_lt_of_le hb (Nat.pow_le_pow_right (by decide) (by omega)))
    simp [hi, this]
theorem u32_not (c : Nat) (h : c < 4294967296) : bits .xor .u32 IntKind.u32.max (c : Int) = ((4294967295 - c : Nat) : Int) := by
  rw [show IntKind.u32.max = ((4294967295 : Nat) : Int) from by decide, bits_xor_u32 _ _ (by decide) h]
  have := xor_ones32 c h
  rw [show (2 : Nat) ^ 32 - 1 = 4294967295 from by decide] at this
  rw [this]
def crcI : Nat → Nat → Nat
  | 0, c => c
  | q + 1, c => By.crc1 (crcI q c)
theorem crcI_lt (q c : Nat) (h : c < 4294967296) : crcI q c < 4294967296 := by
  induction q with
  | zero => exact h
  | succ q ih => exact By.crc1_lt _ ih
theorem crc_take (l : List UInt8) (j : Nat) (h : j < l.length) : By.crcF 4294967295 (l.take (j + 1)) = By.crc8 (By.crcF 4294967295 (l.take j) ^^^ l[j].toNat) := by
  rw [List.take_succ_eq_append_getElem h, By.crcF_snoc]; rfl
set_option maxHeartbeats 1600000 in
set_option maxRecDepth 100000 in
theorem crc_any (ba : Option Addr) (n cap : Nat) (l : List UInt8) (w : World) (hn : l.length = n) (hr : Rd w ba l) (hl : n ≤ 1099511627776) :
    Calls Try.prog 67 #[.slice ba n cap] w fun e w' => e = .returned (.int .u32 (By.crc l)) ∧ w = w' := by
  subst hn
  have HR := Lib.hid hr
  clear hr
  go_enter Try.func67, Try.ntmps67
  go_wp2
  go_loop [3, 8] (fun c i => ∃ j : Nat, j ≤ l.length ∧ i = .int .i64 j ∧ c = .int .u32 (By.crcF 4294967295 (l.take j))) (fun _ i => l.length - (intOf i).toNat)
  case atStart => exact ⟨0, Nat.zero_le _, rfl, rfl⟩
  case round =>
    obtain ⟨j, hj, rfl, rfl⟩ := hrel
    have hcl := By.crcF_lt (l.take j) 4294967295 (by omega)
    by_cases hlt : j < l.length
    · have hct := crc_take l j hlt
      obtain ⟨b, o, rfl, hbs, hcell⟩ : ∃ b o, ba = some (⟨b, o, none⟩ : Addr) ∧ b < w.heap.size ∧ ∀ i (h : i < l.length), w.cell? ⟨b, o + i, none⟩ = some (.int .u8 (l[i].toNat : Nat)) := by
        rcases HR.out with h | h
        · rw [h] at hlt; simp at hlt
        · exact h
      have hc1 := hcell j hlt
      have hxb : l[j].toNat < 256 := l[j].toNat_lt
      generalize l[j] = x at hc1 hct hxb
      generalize By.crcF 4294967295 (l.take j) = c at hcl hct
      have hx1 := bits_xor_u32 c x.toNat hcl (by omega)
      have hx2 : c ^^^ x.toNat < 4294967296 := Nat.xor_lt_two_pow (n := 32) hcl (by omega)
      generalize c ^^^ x.toNat = d at hct hx1 hx2
      have HCT := Lib.hid hct
      clear hct hcell
      go_wp2
      go_loop [3, 16] (fun c i => ∃ q : Nat, q ≤ 8 ∧ i = .int .i64 q ∧ c = .int .u32 (crcI q d)) (fun _ i => 8 - (intOf i).toNat)
      case atStart => exact ⟨0, by omega, rfl, rfl⟩
      case round =>
        obtain ⟨q, hq, rfl, rfl⟩ := hrel
        have hci := crcI_lt q d hx2
        by_cases hq8 : q < 8
        · have hst : crcI (q + 1) d = By.crc1 (crcI q d) := rfl
          generalize crcI q d = m at hci hst
          unfold By.crc1 at hst
          have ha := u32_and1 (m : Int) (by omega) (by omega)
          by_cases h2 : m % 2 = 1
          · rw [if_pos h2] at hst
            have hm2 : (m : Int) % 2 = 1 := by omega
            rw [hm2] at ha
            have hk := u32_and_const1
            have hxx : bits .xor .u32 ((m : Int) / 2) 3988292384 = ((m / 2 ^^^ 3988292384 : Nat) : Int) := bits_xor_u32 (m / 2) 3988292384 (by omega) (by omega)
            have hwn : IntKind.u32.wrap (-1) = 4294967295 := by decide
            have HST := Lib.hid hst
            clear hst
            go_wp2
            go_round
            case rel => exact ⟨q + 1, by omega, by go_num, by rw [HST.out]⟩
            case measure => simp [intOf]; omega
          · rw [if_neg h2] at hst
            have hm2 : (m : Int) % 2 = 0 := by omega
            rw [hm2] at ha
            have hk := u32_and_const0
            have hxx : bits .xor .u32 ((m : Int) / 2) 0 = ((m / 2 ^^^ 0 : Nat) : Int) := bits_xor_u32 (m / 2) 0 (by omega) (by omega)
            have HST := Lib.hid hst
            clear hst
            go_wp2
            go_round
            case rel => exact ⟨q + 1, by omega, by go_num, by rw [HST.out, Nat.xor_zero]; go_num⟩
            case measure => simp [intOf]; omega
        · obtain rfl : q = 8 := by omega
          go_wp2
          go_round
          case rel => exact ⟨j + 1, by omega, by go_num, by rw [HCT.out]; rfl⟩
          case measure => simp [intOf]; omega
    · obtain rfl : j = l.length := by omega
      rw [List.take_length] at hcl ⊢
      have hcc : By.crc l = 4294967295 - By.crcF 4294967295 l := rfl
      generalize By.crcF 4294967295 l = c at hcl hcc
      have HC := Lib.hid hcc
      have HX := Lib.hid (u32_not c hcl)
      clear hcc
      go_wp2
      go_ret
      exact ⟨ret_int (by rw [HC.out, HX.out]), rfl⟩
end Go.Proofs.Ytgamhgeiceakeaa
/- package bytes: copies, four bytes, by contract. -/
set_option linter.unusedVariables false
namespace Go.Proofs.Ytgamhgeiceakeaa
open Go.RowKit
set_option maxHeartbeats 1600000 in
set_option maxRecDepth 100000 in
theorem four_any (B : Nat) (v : Value) (l : List UInt8) (n : Nat) (w : World) (hn : n < 4294967296) (ho : Ow w B v l) (hB : B ≤ w.heap.size) (hl : l.length ≤ 1099511627776) :
    Calls Try.prog 65 #[v, .int .u32 n] w (OwPost B v (l ++ By.be4 n) w) := by
  obtain ⟨i0, hi, hz0, hz1, hz2⟩ := info_parts Try.info_u8
  have HO := Lib.hid ho
  clear ho
  go_enter Try.func65, Try.ntmps65
  have hbe : [Value.int .u8 ((n : Int) / 16777216), .int .u8 ((n : Int) / 65536 % 256), .int .u8 ((n : Int) / 256 % 256), .int .u8 ((n : Int) % 256)] = u8s (By.be4 n) := by
    unfold u8s By.be4
    simp only [List.map_cons, List.map_nil, UInt8.toNat_ofNat']
    congr 2
    · omega
  have HBE := Lib.hid hbe
  clear hbe
  go_wp2_with (at_builtin; refine wpList_append_gw _ rfl _ _ 27 rfl B 5 i0 (.int .u8 0) 1 1 Try.underlying27 hi hz0 hz1 hz2 rfl (by decide) _ l.length (u8s l) rfl (HO.out.alloc _) ⟨w.heap.size, 0, none⟩ 4 4 [.int .u8 ((n : Int) / 16777216), .int .u8 ((n : Int) / 65536 % 256), .int .u8 ((n : Int) / 256 % 256), .int .u8 ((n : Int) % 256)] rfl rfl ?c1 ?c2 ?c3 ?c4 ?c5 ?_)
  case c1 =>
    intro j u hj
    exact cells_new _ #[.int .u8 ((n : Int) / 16777216), .int .u8 ((n : Int) / 65536 % 256), .int .u8 ((n : Int) / 256 % 256), .int .u8 ((n : Int) % 256)] _ _ rfl j u (by simpa using hj)
  case c2 => rw [HBE.out]; exact u8s_one _
  case c3 => unfold maxLen; omega
  case c4 => omega
  case c5 => simp; omega
  intro v' w1 hown' hgrow hnn
  have hown1 : Ow w1 B v' (l ++ By.be4 n) := by
    rw [HBE.out] at hown'
    unfold Ow; rw [u8s_app, List.length_append]; exact hown'
  have hg1 := Gw.of ((Below.refl _ w).alloc (Nat.le_refl _) _) hgrow (fun i hi => (HO.out.lt i hi).2)
  have HO1 := Lib.hid hown1
  have HG1 := Lib.hid hg1
  have HN1 : Hid (v' ≠ .slice none 0 0) := Lib.hid (by simpa using hnn)
  clear hown' hgrow hnn hown1 hg1
  go_wp2
  go_ret
  exact ⟨_, rfl, HO1.out, HG1.out, fun _ => HN1.out⟩
end Go.Proofs.Ytgamhgeiceakeaa
/- package bytes: sealed bytes, by contract. -/
set_option linter.unusedVariables false
namespace Go.Proofs.Ytgamhgeiceakeaa
open Go.RowKit
theorem be_or (a b c d : Nat) (ha : a < 256) (hb : b < 256) (hc : c < 256) (hd : d < 256) :
    bits .or .u32 ((a : Int) * 16777216) ((b : Int) * 65536) = (a : Int) * 16777216 + (b : Int) * 65536 ∧
    bits .or .u32 ((a : Int) * 16777216 + (b : Int) * 65536) ((c : Int) * 256) = (a : Int) * 16777216 + (b : Int) * 65536 + (c : Int) * 256 ∧
    bits .or .u32 ((a : Int) * 16777216 + (b : Int) * 65536 + (c : Int) * 256) (d : Int) = (a : Int) * 16777216 + (b : Int) * 65536 + (c : Int) * 256 + (d : Int) := by
  refine ⟨?_, ?_, ?_⟩
  · exact bits_join .u32 32 (by decide) wraps_u32 24 _ _ (by omega) (by omega) (by omega) (by omega) (by omega) (by omega)
  · exact bits_join .u32 32 (by decide) wraps_u32 16 _ _ (by omega) (by omega) (by omega) (by omega) (by omega) (by omega)
  · exact bits_join .u32 32 (by decide) wraps_u32 8 _ _ (by omega) (by omega) (by omega) (by omega) (by omega) (by omega)
set_option maxHeartbeats 1600000 in
set_option maxRecDepth 100000 in
theorem number_any (b o cap : Nat) (l : List UInt8) (w : World) (hl : l.length = 4) (hr : ∀ i (h : i < l.length), w.cell? ⟨b, o + i, none⟩ = some (.int .u8 (l[i].toNat : Nat))) :
    Calls Try.prog 80 #[.slice (some ⟨b, o, none⟩) 4 cap] w fun e w' => e = .returned (.int .u32 (By.num4 l)) ∧ ∃ n, w' = w.drewN n := by
  match l, hl with
  | [x0, x1, x2, x3], _ =>
    have h0 := hr 0 (by simp)
    have h1 := hr 1 (by simp)
    have h2 := hr 2 (by simp)
    have h3 := hr 3 (by simp)
    simp only [List.getElem_cons_zero, List.getElem_cons_succ, Nat.add_zero] at h0 h1 h2 h3
    have b0 : x0.toNat < 256 := x0.toNat_lt
    have b1 : x1.toNat < 256 := x1.toNat_lt
    have b2 : x2.toNat < 256 := x2.toNat_lt
    have b3 : x3.toNat < 256 := x3.toNat_lt
    have hv : (By.num4 [x0, x1, x2, x3] : Int) = (x0.toNat : Int) * 16777216 + (x1.toNat : Int) * 65536 + (x2.toNat : Int) * 256 + (x3.toNat : Int) := by
      unfold By.num4; simp only [List.foldl_cons, List.foldl_nil]; omega
    generalize By.num4 [x0, x1, x2, x3] = N at hv
    have HV := Lib.hid hv
    obtain ⟨o1, o2, o3⟩ := be_or x0.toNat x1.toNat x2.toNat x3.toNat b0 b1 b2 b3
    clear hr hv
    go_enter Try.func80, Try.ntmps80
    go_wp2
    go_quiet (fail)
    go_wp2
    go_ret
    exact ⟨ret_int (by rw [HV.out]), _, rfl⟩
set_option maxHeartbeats 1600000 in
set_option maxRecDepth 100000 in
theorem seal_any (ba : Option Addr) (n cap : Nat) (l : List UInt8) (w : World) (hn : l.length = n) (hr : Rd w ba l) (hb : ba = none → n = 0) (hl : n ≤ 1099511627776) :
    Calls Try.prog 29 #[.slice ba n cap] w (NewPost (By.shut l) w) := by
  have HR := Lib.hid hr
  have HN := Lib.hid hn
  have C1 := Lib.hid (clone_any ba n cap l w hn hr hb hl)
  have hcrc := By.crc_lt l
  clear hr hn hb
  go_enter Try.func29, Try.ntmps29
  go_wp2_with fail
  with_reducible refine (C1.out).mono ?_
  rintro e w1 ⟨v1, rfl, ho, hb1, hnn⟩
  have HO := Lib.hid ho
  have HB := Lib.hid hb1
  clear ho hb1 hnn
  go_wp2_with fail
  with_reducible refine (crc_any ba n cap l _ HN.out (HR.out.below HB.out) hl).mono ?_
  rintro e w2 ⟨rfl, rfl⟩
  go_wp2_with fail
  with_reducible refine (four_any w.heap.size v1 l (By.crc l) _ hcrc HO.out HB.out.size (by rw [HN.out]; exact hl)).mono ?_
  rintro e w2 ⟨v2, rfl, ho2, hg2, hn2⟩
  have HO2 := Lib.hid ho2
  have HB2 := Lib.hid (hg2.less HB.out HB.out.size (fun i hi => (HO.out.lt i hi).1))
  have HN2 : Hid (v2 ≠ .slice none 0 0) := Lib.hid (hn2 (by unfold By.be4; simp))
  clear ho2 hg2 hn2
  go_wp2
  go_ret
  exact ⟨_, rfl, HO2.out, HB2.out, HN2.out⟩
set_option maxHeartbeats 1600000 in
set_option maxRecDepth 100000 in
theorem unseal_any (ba : Option Addr) (n cap : Nat) (l : List UInt8) (w : World) (hn : l.length = n) (hr : Rd w ba l) (hb : ba = none → n = 0) (hl : n ≤ 1099511627776) (hc : n ≤ cap) :
    Calls Try.prog 70 #[.slice ba n cap] w (NewErr (By.opn l).1 (By.opn l).2 w) := by
  have HR := Lib.hid hr
  have HN := Lib.hid hn
  by_cases h4 : n < 4
  · have ho : By.opn l = ([], 11) := by unfold By.opn; rw [if_pos (by omega)]
    rw [ho]
    clear hr hn hb ho
    go_enter Try.func70, Try.ntmps70
    go_wp2
    go_ret2
    exact ⟨_, rfl, Ow.nil _ _, Below.refl _ _⟩
  · obtain ⟨m, rfl⟩ : ∃ m, n = m + 4 := ⟨n - 4, by omega⟩
    obtain ⟨b, o, rfl, hlt, hcell⟩ : ∃ b o, ba = some (⟨b, o, none⟩ : Addr) ∧ b < w.heap.size ∧ ∀ i (h : i < l.length), w.cell? ⟨b, o + i, none⟩ = some (.int .u8 (l[i].toNat : Nat)) := by
      rcases hr with h | h
      · rw [h] at hn; simp at hn
      · exact h
    have hR : ∀ k, Rd (w.drewN k) (some ⟨b, o, none⟩) (l.take m) := fun k => Rd.below (Rd.take HR.out m) (belowN (Below.refl _ _) k)
    have hnum := fun k => number_any b (o + m) (cap - m) (l.drop m) (w.drewN k) (by rw [List.length_drop]; omega) (fun i h => by
      rw [List.length_drop] at h
      rw [(belowN (Below.refl w.heap.size w) k).cell (p := ⟨b, o + m + i, none⟩) hlt, Nat.add_assoc, hcell (m + i) (by omega), List.getElem_drop])
    have hcr := fun k => quiet_flip (crc_any (some ⟨b, o, none⟩) m cap (l.take m) (w.drewN k) (by rw [List.length_take]; omega) (hR k) (by omega))
    have hcl := fun k => clone_any (some ⟨b, o, none⟩) m cap (l.take m) (w.drewN k) (by rw [List.length_take]; omega) (hR k) (fun h => by cases h) (by omega)
    have hop : By.opn l = if By.num4 (l.drop m) = By.crc (l.take m) then (l.take m, 0) else ([], 12) := by
      unfold By.opn; rw [if_neg (by omega), hn, Nat.add_sub_cancel]
    generalize By.num4 (l.drop m) = N1 at hnum hop
    generalize By.crc (l.take m) = N2 at hcr hop
    have HC1 := Lib.hid hnum
    have HC2 := Lib.hid hcr
    have HC3 := Lib.hid hcl
    have hm1 : m ≤ cap := by omega
    have hm2 : ¬ cap = m := by omega
    clear hnum hcr hcl hcell hr hn hb hR
    by_cases hs : N1 = N2
    · rw [if_pos hs] at hop
      have HOP := Lib.hid hop
      have hs1 : ((N1 : Int) != (N2 : Int)) = false := by simp [hs]
      clear hop hs
      go_enter Try.func70, Try.ntmps70
      go_wp2_with fail
      go_quiet ((first | (go_at_call 80; exact Calls.quiet_of (HC1.out _)) | (go_at_call 67; exact Calls.quiet_of_same (HC2.out _))))
      go_wp2_with fail
      with_reducible refine (HC3.out _).mono ?_
      rintro e w2 ⟨v2, rfl, ho2, hb2, _⟩
      have HO2 := Lib.hid ho2
      have HB2 := Lib.hid ((belowN (Below.refl w.heap.size w) nq).trans hb2)
      clear ho2 hb2
      go_wp2
      go_ret2
      exact ⟨v2, by rw [HOP.out]; rfl, by rw [HOP.out]; exact HO2.out, HB2.out⟩
    · rw [if_neg hs] at hop
      have HOP := Lib.hid hop
      have hs1 : ((N1 : Int) != (N2 : Int)) = true := by rw [bne_iff_ne]; omega
      clear hop hs
      go_enter Try.func70, Try.ntmps70
      go_wp2_with fail
      go_quiet ((first | (go_at_call 80; exact Calls.quiet_of (HC1.out _)) | (go_at_call 67; exact Calls.quiet_of_same (HC2.out _))))
      go_wp2
      go_ret2
      exact ⟨_, by rw [HOP.out]; rfl, by rw [HOP.out]; exact Ow.nil _ _, belowN (Below.refl _ _) _⟩
end Go.Proofs.Ytgamhgeiceakeaa
/- package bytes: numbers and blobs that are got, by contract. -/
set_option linter.unusedVariables false
namespace Go.Proofs.Ytgamhgeiceakeaa
open Go.RowKit
end Go.Proofs.Ytgamhgeiceakeaa
/- package bytes: blobs that are got and put, by contract. -/
set_option linter.unusedVariables false
namespace Go.Proofs.Ytgamhgeiceakeaa
open Go.RowKit
end Go.Proofs.Ytgamhgeiceakeaa
/- package frame: which packets are right, by contract. -/
set_option linter.unusedVariables false
namespace Go.Proofs.Ytgamhgeiceakeaa
open Go.RowKit
def pkV (f l s a : Int) (d : Value) : Value := .agg #[.int .i64 f, .int .i64 l, .int .i64 s, .int .i64 a, d]
def okN (x : Int) : Bool := decide (0 ≤ x) && decide (x ≤ 4611686018427387904)
def rightB (f l s a : Int) (n : Nat) : Bool := okN f && okN l && okN s && okN a && (decide (n ≤ 1048576) && (decide (0 < s) || n == 0))
theorem okN_iff (x : Int) : okN x = true ↔ 0 ≤ x ∧ x ≤ 4611686018427387904 := by unfold okN; simp
theorem okN_no (x : Int) : okN x = false ↔ x < 0 ∨ 4611686018427387904 < x := by unfold okN; simp; omega
def BoolBelow (b : Bool) (w : World) (e : Ending) (w' : World) : Prop := e = .returned (.bool b) ∧ Below w.heap.size w w'
set_option maxHeartbeats 1600000 in
set_option maxRecDepth 100000 in
theorem right_yes (f l s a : Int) (ba : Option Addr) (n cap : Nat) (w : World) (hf : 0 ≤ f ∧ f ≤ 4611686018427387904) (hl : 0 ≤ l ∧ l ≤ 4611686018427387904) (hs : 0 ≤ s ∧ s ≤ 4611686018427387904) (ha : 0 ≤ a ∧ a ≤ 4611686018427387904) :
    Calls Try.prog 48 #[.agg #[.int .i64 f, .int .i64 l, .int .i64 s, .int .i64 a, .slice ba n cap]] w (BoolBelow (decide (n ≤ 1048576) && (decide (0 < s) || n == 0)) w) := by
  have i0 : ∀ w, (Instr.index 84 (.agg #[.int .i64 f, .int .i64 l, .int .i64 s, .int .i64 a]) (.int .i64 0)).run Try.prog w = .ok (.int .i64 f) w := fun _ => by kernel_rfl
  have i1 : ∀ w, (Instr.index 84 (.agg #[.int .i64 f, .int .i64 l, .int .i64 s, .int .i64 a]) (.int .i64 1)).run Try.prog w = .ok (.int .i64 l) w := fun _ => by kernel_rfl
  have i2 : ∀ w, (Instr.index 84 (.agg #[.int .i64 f, .int .i64 l, .int .i64 s, .int .i64 a]) (.int .i64 2)).run Try.prog w = .ok (.int .i64 s) w := fun _ => by kernel_rfl
  have i3 : ∀ w, (Instr.index 84 (.agg #[.int .i64 f, .int .i64 l, .int .i64 s, .int .i64 a]) (.int .i64 3)).run Try.prog w = .ok (.int .i64 a) w := fun _ => by kernel_rfl
  obtain ⟨f1, f2⟩ := hf
  obtain ⟨l1, l2⟩ := hl
  obtain ⟨s1, s2⟩ := hs
  obtain ⟨a1, a2⟩ := ha
  go_enter Try.func48, Try.ntmps48
  go_wp2
  go_loop [14] (fun i => ∃ j : Nat, j ≤ 4 ∧ i = .int .i64 j) (fun i => 4 - (intOf i).toNat)
  case atStart => exact ⟨0, by omega, rfl⟩
  case round =>
    obtain ⟨j, hj, rfl⟩ := hrel
    have hcase : j = 0 ∨ j = 1 ∨ j = 2 ∨ j = 3 ∨ j = 4 := by omega
    rcases hcase with rfl | rfl | rfl | rfl | rfl
    · go_wp2
      go_round
      case rel => exact ⟨1, by omega, by go_num⟩
      case measure => simp [intOf]
    · go_wp2
      go_round
      case rel => exact ⟨2, by omega, by go_num⟩
      case measure => simp [intOf]
    · go_wp2
      go_round
      case rel => exact ⟨3, by omega, by go_num⟩
      case measure => simp [intOf]
    · go_wp2
      go_round
      case rel => exact ⟨4, by omega, by go_num⟩
      case measure => simp [intOf]
    · clear i0 i1 i2 i3
      by_cases h1 : n ≤ 1048576
      · by_cases h2 : 0 < s
        · go_wp2
          go_ret
          exact ⟨by simp, (Below.refl _ _).alloc (Nat.le_refl _) _⟩
        · by_cases h3 : n = 0
          · have h3' : ((n : Int) == 0) = true := beqI (by omega)
            go_wp2
            go_ret
            exact ⟨by simp, (Below.refl _ _).alloc (Nat.le_refl _) _⟩
          · have h3' : ((n : Int) == 0) = false := bneI (by omega)
            go_wp2
            go_ret
            exact ⟨by simp [h2, h3], (Below.refl _ _).alloc (Nat.le_refl _) _⟩
      · go_wp2
        go_ret
        exact ⟨by simp, (Below.refl _ _).alloc (Nat.le_refl _) _⟩
set_option maxHeartbeats 1600000 in
set_option maxRecDepth 100000 in
theorem right_no0 (f l s a : Int) (ba : Option Addr) (n cap : Nat) (w : World)  (hx : f < 0 ∨ 4611686018427387904 < f) :
    Calls Try.prog 48 #[.agg #[.int .i64 f, .int .i64 l, .int .i64 s, .int .i64 a, .slice ba n cap]] w (BoolBelow false w) := by
  have i0 : ∀ w, (Instr.index 84 (.agg #[.int .i64 f, .int .i64 l, .int .i64 s, .int .i64 a]) (.int .i64 0)).run Try.prog w = .ok (.int .i64 f) w := fun _ => by kernel_rfl
  go_enter Try.func48, Try.ntmps48
  go_wp2
  go_loop [14] (fun i => ∃ j : Nat, j ≤ 0 ∧ i = .int .i64 j) (fun i => 4 - (intOf i).toNat)
  case atStart => exact ⟨0, by omega, rfl⟩
  case round =>
    obtain ⟨j, hj, rfl⟩ := hrel
    obtain rfl : j = 0 := by omega
    rcases hx with hx | hx
    · go_wp2
      go_ret
      exact ⟨rfl, (Below.refl _ _).alloc (Nat.le_refl _) _⟩
    · have hx0 : ¬ f < 0 := by omega
      go_wp2
      go_ret
      exact ⟨rfl, (Below.refl _ _).alloc (Nat.le_refl _) _⟩
set_option maxHeartbeats 1600000 in
set_option maxRecDepth 100000 in
theorem right_no1 (f l s a : Int) (ba : Option Addr) (n cap : Nat) (w : World) (h0 : 0 ≤ f ∧ f ≤ 4611686018427387904) (hx : l < 0 ∨ 4611686018427387904 < l) :
    Calls Try.prog 48 #[.agg #[.int .i64 f, .int .i64 l, .int .i64 s, .int .i64 a, .slice ba n cap]] w (BoolBelow false w) := by
  have i0 : ∀ w, (Instr.index 84 (.agg #[.int .i64 f, .int .i64 l, .int .i64 s, .int .i64 a]) (.int .i64 0)).run Try.prog w = .ok (.int .i64 f) w := fun _ => by kernel_rfl
  have i1 : ∀ w, (Instr.index 84 (.agg #[.int .i64 f, .int .i64 l, .int .i64 s, .int .i64 a]) (.int .i64 1)).run Try.prog w = .ok (.int .i64 l) w := fun _ => by kernel_rfl
  obtain ⟨p0, q0⟩ := h0
  go_enter Try.func48, Try.ntmps48
  go_wp2
  go_loop [14] (fun i => ∃ j : Nat, j ≤ 1 ∧ i = .int .i64 j) (fun i => 4 - (intOf i).toNat)
  case atStart => exact ⟨0, by omega, rfl⟩
  case round =>
    obtain ⟨j, hj, rfl⟩ := hrel
    have hcase : j = 0 ∨ j = 1 := by omega
    rcases hcase with rfl | rfl
    · go_wp2
      go_round
      case rel => exact ⟨1, by omega, by go_num⟩
      case measure => simp [intOf]
    · rcases hx with hx | hx
      · go_wp2
        go_ret
        exact ⟨rfl, (Below.refl _ _).alloc (Nat.le_refl _) _⟩
      · have hx0 : ¬ l < 0 := by omega
        go_wp2
        go_ret
        exact ⟨rfl, (Below.refl _ _).alloc (Nat.le_refl _) _⟩
set_option maxHeartbeats 1600000 in
set_option maxRecDepth 100000 in
theorem right_no2 (f l s a : Int) (ba : Option Addr) (n cap : Nat) (w : World) (h0 : 0 ≤ f ∧ f ≤ 4611686018427387904) (h1 : 0 ≤ l ∧ l ≤ 4611686018427387904) (hx : s < 0 ∨ 4611686018427387904 < s) :
    Calls Try.prog 48 #[.agg #[.int .i64 f, .int .i64 l, .int .i64 s, .int .i64 a, .slice ba n cap]] w (BoolBelow false w) := by
  have i0 : ∀ w, (Instr.index 84 (.agg #[.int .i64 f, .int .i64 l, .int .i64 s, .int .i64 a]) (.int .i64 0)).run Try.prog w = .ok (.int .i64 f) w := fun _ => by kernel_rfl
  have i1 : ∀ w, (Instr.index 84 (.agg #[.int .i64 f, .int .i64 l, .int .i64 s, .int .i64 a]) (.int .i64 1)).run Try.prog w = .ok (.int .i64 l) w := fun _ => by kernel_rfl
  have i2 : ∀ w, (Instr.index 84 (.agg #[.int .i64 f, .int .i64 l, .int .i64 s, .int .i64 a]) (.int .i64 2)).run Try.prog w = .ok (.int .i64 s) w := fun _ => by kernel_rfl
  obtain ⟨p0, q0⟩ := h0
  obtain ⟨p1, q1⟩ := h1
  go_enter Try.func48, Try.ntmps48
  go_wp2
  go_loop [14] (fun i => ∃ j : Nat, j ≤ 2 ∧ i = .int .i64 j) (fun i => 4 - (intOf i).toNat)
  case atStart => exact ⟨0, by omega, rfl⟩
  case round =>
    obtain ⟨j, hj, rfl⟩ := hrel
    have hcase : j = 0 ∨ j = 1 ∨ j = 2 := by omega
    rcases hcase with rfl | rfl | rfl
    · go_wp2
      go_round
      case rel => exact ⟨1, by omega, by go_num⟩
      case measure => simp [intOf]
    · go_wp2
      go_round
      case rel => exact ⟨2, by omega, by go_num⟩
      case measure => simp [intOf]
    · rcases hx with hx | hx
      · go_wp2
        go_ret
        exact ⟨rfl, (Below.refl _ _).alloc (Nat.le_refl _) _⟩
      · have hx0 : ¬ s < 0 := by omega
        go_wp2
        go_ret
        exact ⟨rfl, (Below.refl _ _).alloc (Nat.le_refl _) _⟩
set_option maxHeartbeats 1600000 in
set_option maxRecDepth 100000 in
theorem right_no3 (f l s a : Int) (ba : Option Addr) (n cap : Nat) (w : World) (h0 : 0 ≤ f ∧ f ≤ 4611686018427387904) (h1 : 0 ≤ l ∧ l ≤ 4611686018427387904) (h2 : 0 ≤ s ∧ s ≤ 4611686018427387904) (hx : a < 0 ∨ 4611686018427387904 < a) :
    Calls Try.prog 48 #[.agg #[.int .i64 f, .int .i64 l, .int .i64 s, .int .i64 a, .slice ba n cap]] w (BoolBelow false w) := by
  have i0 : ∀ w, (Instr.index 84 (.agg #[.int .i64 f, .int .i64 l, .int .i64 s, .int .i64 a]) (.int .i64 0)).run Try.prog w = .ok (.int .i64 f) w := fun _ => by kernel_rfl
  have i1 : ∀ w, (Instr.index 84 (.agg #[.int .i64 f, .int .i64 l, .int .i64 s, .int .i64 a]) (.int .i64 1)).run Try.prog w = .ok (.int .i64 l) w := fun _ => by kernel_rfl
  have i2 : ∀ w, (Instr.index 84 (.agg #[.int .i64 f, .int .i64 l, .int .i64 s, .int .i64 a]) (.int .i64 2)).run Try.prog w = .ok (.int .i64 s) w := fun _ => by kernel_rfl
  have i3 : ∀ w, (Instr.index 84 (.agg #[.int .i64 f, .int .i64 l, .int .i64 s, .int .i64 a]) (.int .i64 3)).run Try.prog w = .ok (.int .i64 a) w := fun _ => by kernel_rfl
  obtain ⟨p0, q0⟩ := h0
  obtain ⟨p1, q1⟩ := h1
  obtain ⟨p2, q2⟩ := h2
  go_enter Try.func48, Try.ntmps48
  go_wp2
  go_loop [14] (fun i => ∃ j : Nat, j ≤ 3 ∧ i = .int .i64 j) (fun i => 4 - (intOf i).toNat)
  case atStart => exact ⟨0, by omega, rfl⟩
  case round =>
    obtain ⟨j, hj, rfl⟩ := hrel
    have hcase : j = 0 ∨ j = 1 ∨ j = 2 ∨ j = 3 := by omega
    rcases hcase with rfl | rfl | rfl | rfl
    · go_wp2
      go_round
      case rel => exact ⟨1, by omega, by go_num⟩
      case measure => simp [intOf]
    · go_wp2
      go_round
      case rel => exact ⟨2, by omega, by go_num⟩
      case measure => simp [intOf]
    · go_wp2
      go_round
      case rel => exact ⟨3, by omega, by go_num⟩
      case measure => simp [intOf]
    · rcases hx with hx | hx
      · go_wp2
        go_ret
        exact ⟨rfl, (Below.refl _ _).alloc (Nat.le_refl _) _⟩
      · have hx0 : ¬ a < 0 := by omega
        go_wp2
        go_ret
        exact ⟨rfl, (Below.refl _ _).alloc (Nat.le_refl _) _⟩
theorem pkr_any (f l s a : Int) (ba : Option Addr) (n cap : Nat) (w : World) :
    Calls Try.prog 48 #[.agg #[.int .i64 f, .int .i64 l, .int .i64 s, .int .i64 a, .slice ba n cap]] w (BoolBelow (rightB f l s a n) w) := by
  unfold rightB
  cases h0 : okN f with
  | false => exact right_no0 f l s a ba n cap w ((okN_no f).1 h0)
  | true =>
    cases h1 : okN l with
    | false => exact right_no1 f l s a ba n cap w ((okN_iff f).1 h0) ((okN_no l).1 h1)
    | true =>
      cases h2 : okN s with
      | false => exact right_no2 f l s a ba n cap w ((okN_iff f).1 h0) ((okN_iff l).1 h1) ((okN_no s).1 h2)
      | true =>
        cases h3 : okN a with
        | false => exact right_no3 f l s a ba n cap w ((okN_iff f).1 h0) ((okN_iff l).1 h1) ((okN_iff s).1 h2) ((okN_no a).1 h3)
        | true => exact right_yes f l s a ba n cap w ((okN_iff f).1 h0) ((okN_iff l).1 h1) ((okN_iff s).1 h2) ((okN_iff a).1 h3)
end Go.Proofs.Ytgamhgeiceakeaa
/- package frame: Pack, by contract. -/
set_option linter.unusedVariables false
namespace Go.Proofs.Ytgamhgeiceakeaa
open Go.RowKit
theorem cells_one {w1 w2 : World} {A : Array Value} {tA : TypeId} (hb : Below (w1.alloc (.cells A tA)).heap.size (w1.alloc (.cells A tA)) w2) :
    (∀ o, w2.cell? ⟨w1.heap.size, o, none⟩ = A[o]?) ∧ w1.heap.size < w2.heap.size ∧ Below w1.heap.size w1 w2 := by
  have hs := hb.size
  simp at hs
  have h1 : (w1.alloc (.cells A tA)).heap[w1.heap.size]? = some (.cells A tA (0, 0)) := heap_alloc_new _ _
  refine ⟨fun o => ?_, by omega, ((Below.refl w1.heap.size w1).alloc (Nat.le_refl _) _).trans (hb.mono (by simp))⟩
  rw [hb.cell (p := ⟨w1.heap.size, o, none⟩) (by simp)]
  unfold World.cell?; simp only [h1]; rfl
/-- the numbers' bytes so far -/
def pre (f l s a : Nat) : Nat → List UInt8
  | 0 => []
  | 1 => By.uv f
  | 2 => By.uv f ++ By.uv l
  | 3 => By.uv f ++ By.uv l ++ By.uv s
  | _ => By.uv f ++ By.uv l ++ By.uv s ++ By.uv a
theorem pre_len (f l s a j : Nat) : (pre f l s a j).length ≤ 40 := by
  have h1 := (By.uv_len f).1
  have h2 := (By.uv_len l).1
  have h3 := (By.uv_len s).1
  have h4 := (By.uv_len a).1
  unfold pre
  split
  · exact Nat.zero_le _
  · omega
  · simp only [List.length_append]; omega
  · simp only [List.length_append]; omega
  · simp only [List.length_append]; omega
set_option maxHeartbeats 3200000 in
set_option maxRecDepth 100000 in
theorem pack_yes (f l s a : Nat) (ba : Option Addr) (n cap : Nat) (d : List UInt8) (w : World) (hn : d.length = n) (hr : Rd w ba d) (hb : ba = none → n = 0) (hp : (⟨f, l, s, a, d⟩ : By.Pk).right) :
    Calls Try.prog 18 #[.agg #[.int .i64 f, .int .i64 l, .int .i64 s, .int .i64 a, .slice ba n cap]] w (NewErr (By.pack ⟨f, l, s, a, d⟩) 0 w) := by
  obtain ⟨p1, p2, p3, p4, p5, p6⟩ := hp
  simp only at p1 p2 p3 p4 p5 p6
  unfold By.top at p1 p2 p3 p4
  have hrt : rightB f l s a n = true := by
    unfold rightB
    rw [(okN_iff f).2 (by omega), (okN_iff l).2 (by omega), (okN_iff s).2 (by omega), (okN_iff a).2 (by omega)]
    have h1 : n ≤ 1048576 := by omega
    rcases p6 with h | h
    · simp [h1, h]
    · have : n = 0 := by rw [← hn, h]; rfl
      simp [this]
  have c1 := fun w => pkr_any f l s a ba n cap w
  rw [hrt] at c1
  have C1 := Lib.hid c1
  have HR := Lib.hid hr
  have HN := Lib.hid hn
  have HBA := Lib.hid hb
  have i0 : ∀ w, (Instr.index 84 (.agg #[.int .i64 f, .int .i64 l, .int .i64 s, .int .i64 a]) (.int .i64 0)).run Try.prog w = .ok (.int .i64 f) w := fun _ => by kernel_rfl
  have i1 : ∀ w, (Instr.index 84 (.agg #[.int .i64 f, .int .i64 l, .int .i64 s, .int .i64 a]) (.int .i64 1)).run Try.prog w = .ok (.int .i64 l) w := fun _ => by kernel_rfl
  have i2 : ∀ w, (Instr.index 84 (.agg #[.int .i64 f, .int .i64 l, .int .i64 s, .int .i64 a]) (.int .i64 2)).run Try.prog w = .ok (.int .i64 s) w := fun _ => by kernel_rfl
  have i3 : ∀ w, (Instr.index 84 (.agg #[.int .i64 f, .int .i64 l, .int .i64 s, .int .i64 a]) (.int .i64 3)).run Try.prog w = .ok (.int .i64 a) w := fun _ => by kernel_rfl
  clear hr hn hb c1 hrt p6
  go_enter Try.func18, Try.ntmps18
  go_wp2_with fail
  with_reducible refine (C1.out _).mono ?_
  rintro e w2 ⟨rfl, hb2⟩
  obtain ⟨q1, q2, q3⟩ := cells_one hb2
  have HB2 := Lib.hid q3
  have HQ := Lib.hid q1
  clear hb2 q3
  go_wp2_with fail
  clear q1
  go_loopw [4, 19] (fun v i wr => ∃ j : Nat, j ≤ 4 ∧ i = .int .i64 j ∧ Ow wr w2.heap.size v (pre f l s a j) ∧ Below w2.heap.size w2 wr) (fun _ i _ => 4 - (intOf i).toNat)
  case atStart => exact ⟨0, by omega, rfl, Ow.nil _ _, Below.refl _ _⟩
  case round =>
    obtain ⟨j, hj, rfl, ho, hbl⟩ := hrel
    have HO := Lib.hid ho
    have HBL := Lib.hid hbl
    have hsz := hbl.size
    have hpl := pre_len f l s a j
    have HPL := Lib.hid hpl
    clear ho hbl hpl
    have step : ∀ (x k : Nat), x < 18446744073709551616 → pre f l s a (k + 1) = pre f l s a k ++ By.uv x → k = j → Calls Try.prog 51 #[u4, .int .u64 x] wr (OwPost w2.heap.size u4 (pre f l s a (k + 1)) wr) := fun x k hx hk e => by
      subst e
      rw [hk]
      exact uint_any w2.heap.size u4 _ x wr hx HO.out hsz (by have := HPL.out; omega)
    have STEP := Lib.hid step
    clear step
    have hcase : j = 0 ∨ j = 1 ∨ j = 2 ∨ j = 3 ∨ j = 4 := by omega
    rcases hcase with rfl | rfl | rfl | rfl | rfl
    · go_wp2_with fail
      with_reducible refine (STEP.out f 0 (by omega) rfl rfl).mono ?_
      rintro e w3 ⟨v3, rfl, ho3, hg3, _⟩
      have HO3 := Lib.hid ho3
      have HB3 := Lib.hid (hg3.less HBL.out hsz (fun i hi => (HO.out.lt i hi).1))
      clear ho3 hg3
      go_wp2
      go_roundw
      case rel => exact ⟨1, by omega, by go_num, HO3.out, HB3.out⟩
      case measure => simp [intOf]
    · go_wp2_with fail
      with_reducible refine (STEP.out l 1 (by omega) rfl rfl).mono ?_
      rintro e w3 ⟨v3, rfl, ho3, hg3, _⟩
      have HO3 := Lib.hid ho3
      have HB3 := Lib.hid (hg3.less HBL.out hsz (fun i hi => (HO.out.lt i hi).1))
      clear ho3 hg3
      go_wp2
      go_roundw
      case rel => exact ⟨2, by omega, by go_num, HO3.out, HB3.out⟩
      case measure => simp [intOf]
    · go_wp2_with fail
      with_reducible refine (STEP.out s 2 (by omega) rfl rfl).mono ?_
      rintro e w3 ⟨v3, rfl, ho3, hg3, _⟩
      have HO3 := Lib.hid ho3
      have HB3 := Lib.hid (hg3.less HBL.out hsz (fun i hi => (HO.out.lt i hi).1))
      clear ho3 hg3
      go_wp2
      go_roundw
      case rel => exact ⟨3, by omega, by go_num, HO3.out, HB3.out⟩
      case measure => simp [intOf]
    · go_wp2_with fail
      with_reducible refine (STEP.out a 3 (by omega) rfl rfl).mono ?_
      rintro e w3 ⟨v3, rfl, ho3, hg3, _⟩
      have HO3 := Lib.hid ho3
      have HB3 := Lib.hid (hg3.less HBL.out hsz (fun i hi => (HO.out.lt i hi).1))
      clear ho3 hg3
      go_wp2
      go_roundw
      case rel => exact ⟨4, by omega, by go_num, HO3.out, HB3.out⟩
      case measure => simp [intOf]
    · have hq : ∀ o, wr.cell? ⟨w.heap.size, o, none⟩ = #[Value.int .i64 f, .int .i64 l, .int .i64 s, .int .i64 a, .slice ba n cap][o]? := fun o => by rw [HBL.out.cell (p := ⟨w.heap.size, o, none⟩) q2]; exact HQ.out o
      have hRr : Rd wr ba d := Rd.below (Rd.below HR.out HB2.out) HBL.out
      have cb := blobPut_any w2.heap.size u4 (pre f l s a 4) ba n cap d wr HN.out hRr HBA.out HO.out hsz (by have := HPL.out; omega) (by have := HN.out; omega) (fun i b o hi hbo hd e => by
        have h1 := (HO.out.lt i hi).1
        rcases HR.out with h | ⟨b', o', e', hlt, _⟩
        · exact hd h
        · rw [hbo] at e'; cases e'; have := HB2.out.size; omega)
      have CB := Lib.hid cb
      clear cb hRr i0 i1 i2 i3
      go_wp2_with fail
      with_reducible refine (CB.out).mono ?_
      rintro e w3 ⟨v3, rfl, ho3, hg3, _⟩
      obtain ⟨b3, c3, rfl, hr3, hn3, hc3⟩ := ho3.rd
      have hlen : (pre f l s a 4 ++ By.blob d).length ≤ 1099511627776 := by
        have h1 := HPL.out
        have h2 := (By.uv_len d.length).1
        have h3 := HN.out
        unfold By.blob
        simp only [List.length_append]; omega
      rw [List.length_append] at hlen hn3
      have CS := Lib.hid (seal_any b3 ((pre f l s a 4).length + (By.blob d).length) c3 _ w3 List.length_append hr3 hn3 hlen)
      have HB3 := Lib.hid (hg3.less HBL.out hsz (fun i hi => (HO.out.lt i hi).1))
      clear ho3 hg3 hr3 hn3 hc3 hlen hq
      go_wp2_with fail
      with_reducible refine (CS.out).mono ?_
      rintro e w4 ⟨v4, rfl, ho4, hb4, _⟩
      have hfin : pre f l s a 4 ++ By.blob d = By.pk ⟨f, l, s, a, d⟩ := by
        show (By.uv f ++ By.uv l ++ By.uv s ++ By.uv a) ++ By.blob d = By.uv f ++ (By.uv l ++ (By.uv s ++ (By.uv a ++ By.blob d)))
        simp only [List.append_assoc]
      rw [hfin] at ho4
      have HO4 := Lib.hid (ho4.mono (Nat.le_trans HB2.out.size HB3.out.size))
      have HB4 := Lib.hid ((HB2.out.trans (HB3.out.mono HB2.out.size)).trans (hb4.mono (Nat.le_trans HB2.out.size HB3.out.size)))
      clear ho4 hb4 hfin
      go_wp2
      go_ret2
      exact ⟨_, rfl, HO4.out, HB4.out⟩
end Go.Proofs.Ytgamhgeiceakeaa
/- package frame: the getter, by contract. -/
set_option linter.unusedVariables false
namespace Go.Proofs.Ytgamhgeiceakeaa
open Go.RowKit
/-- a getter: its bytes, place and error -/
def Gt (w : World) (p : Nat) (v : Value) (at' er : Nat) : Prop := Blk w p #[v, .int .i64 at', .int .i64 er] 68
def TookPost (p : Nat) (v : Value) (at' er : Nat) (w : World) (e : Ending) (w' : World) : Prop := e = .returned (.tuple #[]) ∧ Gt w' p v at' er ∧ w.grownBy w' (some p)
set_option maxHeartbeats 1600000 in
set_option maxRecDepth 100000 in
theorem took_any (p : Nat) (v : Value) (at' er nx e2 : Nat) (w : World) (hg : Gt w p v at' er) :
    Calls Try.prog 37 #[.pointer (some ⟨p, 0, none⟩), .int .i64 nx, .int .i64 e2] w (TookPost p v (if e2 = 0 then nx else at') e2 w) := by
  have HG := Lib.hid hg
  have c0 := hg.cell 0
  have c1 := hg.cell 1
  have c2 := hg.cell 2
  have hf := fun o => hg.free o
  have hlt := hg.lt
  clear hg
  by_cases h : e2 = 0
  · subst h
    go_enter Try.func37, Try.ntmps37
    go_wp2
    have hfin : Gt ((w.setCell ⟨p, 2, none⟩ (.int .i64 0)).setCell ⟨p, 1, none⟩ (.int .i64 nx)) p v nx 0 := ((HG.out.set 2 _).set 1 _)
    have hgr : w.grownBy ((w.setCell ⟨p, 2, none⟩ (.int .i64 0)).setCell ⟨p, 1, none⟩ (.int .i64 nx)) (some p) := grown_set (grown_set (grown_refl _ _) _ _) _ _
    go_end0
    exact ⟨rfl, hfin, hgr⟩
  · have h' : ((e2 : Int) == 0) = false := bneI (by omega)
    rw [if_neg h]
    go_enter Try.func37, Try.ntmps37
    go_wp2
    have hfin : Gt (w.setCell ⟨p, 2, none⟩ (.int .i64 e2)) p v at' e2 := HG.out.set 2 _
    have hgr : w.grownBy (w.setCell ⟨p, 2, none⟩ (.int .i64 e2)) (some p) := grown_set (grown_refl _ _) _ _
    go_end0
    exact ⟨rfl, hfin, hgr⟩
theorem took_int (p : Nat) (v : Value) (at' er nx e2 : Nat) (w : World) (hg : Gt w p v at' er) (x y : Int) (hx : x = (nx : Nat)) (hy : y = (e2 : Nat)) :
    Calls Try.prog 37 #[.pointer (some ⟨p, 0, none⟩), .int .i64 x, .int .i64 y] w (TookPost p v (if e2 = 0 then nx else at') e2 w) := by
  subst hx; subst hy; exact took_any p v at' er nx e2 w hg
/-- a getter's number: it, the place behind, the error -/
def gnum (l : List UInt8) (at' er : Nat) : Nat × Nat × Nat := if er ≠ 0 then (0, at', er) else if (By.gu (l.drop at')).2.2 = 0 then ((By.gu (l.drop at')).1, at' + (By.gu (l.drop at')).2.1, 0) else (0, at', (By.gu (l.drop at')).2.2)
theorem gnum_le (l : List UInt8) (at' er : Nat) (h : at' ≤ l.length) : (gnum l at' er).2.1 ≤ l.length := by
  unfold gnum
  split
  · exact h
  · split
    · rename_i h2
      have := By.gu_len _ h2
      rw [List.length_drop] at this
      show at' + _ ≤ _; omega
    · exact h
def GnPost (p : Nat) (v : Value) (x at' er : Nat) (w : World) (e : Ending) (w' : World) : Prop := e = .returned (.int .u64 x) ∧ Gt w' p v at' er ∧ w.grownBy w' (some p)
set_option maxHeartbeats 1600000 in
set_option maxRecDepth 100000 in
theorem guint_any (p : Nat) (ba : Option Addr) (n cap : Nat) (l : List UInt8) (at' er : Nat) (w : World) (hg : Gt w p (.slice ba n cap) at' er) (hn : l.length = n) (hr : Rd w ba l) (ha : at' ≤ n) (hl : n ≤ 1099511627776) :
    Calls Try.prog 47 #[.pointer (some ⟨p, 0, none⟩)] w (GnPost p (.slice ba n cap) (gnum l at' er).1 (gnum l at' er).2.1 (gnum l at' er).2.2 w) := by
  have HG := Lib.hid hg
  have c0 := hg.cell 0
  have c1 := hg.cell 1
  have c2 := hg.cell 2
  have hlt := hg.lt
  by_cases h : er = 0
  · subst h
    have cg := fun k => quiet_flip (getUint_any ba n cap l at' (w.drewN k) hn (hr.below (belowN (Below.refl _ _) k)) ha hl)
    unfold gnum
    rw [if_neg (by simp)]
    generalize By.gu (l.drop at') = r at cg ⊢
    obtain ⟨N, c, e2⟩ := r
    simp only at cg ⊢
    have CG := Lib.hid cg
    have hT := fun k nx => took_int p (.slice ba n cap) at' 0 nx e2 (w.drewN k) (hg.below (belowN (Below.refl _ _) k))
    have HT := Lib.hid hT
    clear hg hr hn cg hT
    by_cases h2 : e2 = 0
    · subst h2
      simp only [if_true] at CG HT ⊢
      go_enter Try.func47, Try.ntmps47
      go_wp2_with fail
      go_quiet ((go_at_call 71; exact Calls.quiet_of_same (CG.out _)))
      go_wp2_with fail
      with_reducible refine (HT.out nq (at' + c) _ _ (by omega) (by omega)).mono ?_
      rintro e w2 ⟨rfl, hg2, hgr2⟩
      have HG2 := Lib.hid hg2
      have HR2 := Lib.hid (below_grown (belowN (Below.refl w.heap.size w) nq) hgr2)
      clear hg2 hgr2
      go_wp2
      go_ret
      exact ⟨rfl, HG2.out, HR2.out⟩
    · simp only [if_neg h2] at CG HT ⊢
      go_enter Try.func47, Try.ntmps47
      go_wp2_with fail
      go_quiet ((go_at_call 71; exact Calls.quiet_of_same (CG.out _)))
      go_wp2_with fail
      with_reducible refine (HT.out nq 0 _ _ (by omega) (by omega)).mono ?_
      rintro e w2 ⟨rfl, hg2, hgr2⟩
      have HG2 := Lib.hid hg2
      have HR2 := Lib.hid (below_grown (belowN (Below.refl w.heap.size w) nq) hgr2)
      clear hg2 hgr2
      go_wp2
      go_ret
      exact ⟨rfl, HG2.out, HR2.out⟩
  · have h' : ((er : Int) != 0) = true := by rw [bne_iff_ne]; omega
    unfold gnum
    rw [if_pos h]
    clear hg hr hn
    go_enter Try.func47, Try.ntmps47
    go_wp2
    go_ret
    exact ⟨rfl, HG.out, grown_refl _ _⟩
end Go.Proofs.Ytgamhgeiceakeaa
/- package frame: the getter's blob, end, opened, by contract. -/
set_option linter.unusedVariables false
namespace Go.Proofs.Ytgamhgeiceakeaa
open Go.RowKit
theorem own_below {w w' : World} {B : Nat} {v : Value} {l : List UInt8} (h : Ow w B v l) (hb : Below w.heap.size w w') : Ow w' B v l :=
  World.ownsRow.kept (row := none) h ⟨hb.os, hb.tape, hb.output, hb.size, fun k hk _ => hb.block k hk⟩ (by cases v.ownBlock with | none => exact Or.inl rfl | some k => exact Or.inr (by simp))
theorem own_kept {w w' : World} {B : Nat} {v : Value} {l : List UInt8} {row : Option Nat} (h : Ow w B v l) (hg : w.grownBy w' row) (hne : ∀ k, v.ownBlock = some k → row ≠ some k) : Ow w' B v l :=
  World.ownsRow.kept h hg (by cases hv : v.ownBlock with | none => exact Or.inl rfl | some k => exact Or.inr (fun e => hne k hv e.symm))
/-- a getter's blob: it, the place behind, the error -/
def gblob (most : Nat) (l : List UInt8) (at' er : Nat) : List UInt8 × Nat × Nat := if er ≠ 0 then ([], at', er) else if (By.getBlob most (l.drop at')).2.2 = 0 then ((By.getBlob most (l.drop at')).1, at' + (By.getBlob most (l.drop at')).2.1, 0) else ([], at', (By.getBlob most (l.drop at')).2.2)
theorem getBlob_no (most : Nat) (l : List UInt8) (h : (By.getBlob most l).2.2 ≠ 0) : (By.getBlob most l).1 = [] := by
  unfold By.getBlob at h ⊢
  split
  · rfl
  · split
    · rfl
    · split
      · rfl
      · rename_i h1 h2 h3
        rw [if_neg h1, if_neg h2, if_neg h3] at h; exact absurd rfl h
def GbkPost (p : Nat) (v : Value) (d : List UInt8) (at' er : Nat) (w : World) (e : Ending) (w' : World) : Prop := ∃ v', e = .returned v' ∧ Ow w' w.heap.size v' d ∧ Gt w' p v at' er ∧ w.grownBy w' (some p)
set_option maxHeartbeats 1600000 in
set_option maxRecDepth 100000 in
theorem gblob_any (p : Nat) (ba : Option Addr) (n cap : Nat) (l : List UInt8) (at' er most : Nat) (w : World) (hg : Gt w p (.slice ba n cap) at' er) (hn : l.length = n) (hr : Rd w ba l) (hb : ba = none → n = 0) (ha : at' ≤ n) (hc : n ≤ cap) (hl : n ≤ 1099511627776) (hm : most ≤ 1099511627776) :
    Calls Try.prog 43 #[.pointer (some ⟨p, 0, none⟩), .int .i64 most] w (GbkPost p (.slice ba n cap) (gblob most l at' er).1 (gblob most l at' er).2.1 (gblob most l at' er).2.2 w) := by
  have HG := Lib.hid hg
  have c0 := hg.cell 0
  have c1 := hg.cell 1
  have c2 := hg.cell 2
  have hlt := hg.lt
  by_cases h : er = 0
  · subst h
    have cg := fun W (hW : Below w.heap.size w W) => getBlob_any ba n cap l at' most W hn (hr.below hW) hb ha hc hl hm
    have hno := getBlob_no most (l.drop at')
    unfold gblob
    rw [if_neg (by simp)]
    unfold GbPost at cg
    generalize By.getBlob most (l.drop at') = r at cg hno ⊢
    obtain ⟨d, c, e2⟩ := r
    simp only at cg hno ⊢
    have CG := Lib.hid cg
    have HNO := Lib.hid hno
    clear hg hr hn cg hb
    by_cases h2 : e2 = 0
    · subst h2
      clear hno
      simp only [if_true] at CG ⊢
      go_enter Try.func43, Try.ntmps43
      go_wp2_with fail
      go_region_with (go_at_call 73; refine (CG.out _ ((Below.refl _ _).drew)).mono ?_; rintro e w1 ⟨v1, rfl, ho1, hb1⟩)
      all_goals
        have HO1 := Lib.hid (ho1.mono (Nat.le_refl w.heap.size))
        have HB1 := Lib.hid ((Below.refl w.heap.size w).drew.trans (hb1.mono (Nat.le_refl w.heap.size)))
        clear ho1 hb1
        have HT := Lib.hid (fun x y hx hy => took_int p (.slice ba n cap) at' 0 (at' + c) 0 w1 (HG.out.below HB1.out) x y hx hy)
        go_wp2_with fail
        with_reducible refine (HT.out _ _ (by simp) (by simp)).mono ?_
        rintro e w2 ⟨rfl, hg2, hgr2⟩
        have HG2 : Hid (Gt w2 p (.slice ba n cap) (at' + c) 0) := Lib.hid (by simpa using hg2)
        have HR2 := Lib.hid (below_grown HB1.out hgr2)
        have HO2 := Lib.hid (own_kept HO1.out hgr2 (fun k hk e => by have := (HO1.out.lt k hk).1; cases e; omega))
        clear hg2 hgr2
        go_wp2
        go_ret
        exact ⟨_, rfl, HO2.out, HG2.out, HR2.out⟩
    · obtain rfl := hno h2
      clear hno
      simp only [if_neg h2] at CG ⊢
      go_enter Try.func43, Try.ntmps43
      go_wp2_with fail
      go_region_with (go_at_call 73; refine (CG.out _ ((Below.refl _ _).drew)).mono ?_; rintro e w1 ⟨v1, rfl, ho1, hb1⟩)
      all_goals
        have HO1 := Lib.hid (ho1.mono (Nat.le_refl w.heap.size))
        have HB1 := Lib.hid ((Below.refl w.heap.size w).drew.trans (hb1.mono (Nat.le_refl w.heap.size)))
        clear ho1 hb1
        have HT := Lib.hid (fun x y hx hy => took_int p (.slice ba n cap) at' 0 0 e2 w1 (HG.out.below HB1.out) x y hx hy)
        go_wp2_with fail
        with_reducible refine (HT.out _ _ (by simp) (by simp)).mono ?_
        rintro e w2 ⟨rfl, hg2, hgr2⟩
        have HG2 : Hid (Gt w2 p (.slice ba n cap) at' e2) := Lib.hid (by simpa [h2] using hg2)
        have HR2 := Lib.hid (below_grown HB1.out hgr2)
        have HO2 := Lib.hid (own_kept HO1.out hgr2 (fun k hk e => by have := (HO1.out.lt k hk).1; cases e; omega))
        clear hg2 hgr2
        go_wp2
        go_ret
        exact ⟨_, rfl, HO2.out, HG2.out, HR2.out⟩
  · have h' : ((er : Int) != 0) = true := by rw [bne_iff_ne]; omega
    unfold gblob
    rw [if_pos h]
    clear hg hr hn
    go_enter Try.func43, Try.ntmps43
    go_wp2
    go_ret
    exact ⟨_, rfl, Ow.nil _ _, HG.out, grown_refl _ _⟩
end Go.Proofs.Ytgamhgeiceakeaa
/- package frame: opened, end, by contract. -/
set_option linter.unusedVariables false
namespace Go.Proofs.Ytgamhgeiceakeaa
open Go.RowKit
def EndPost (p : Nat) (v : Value) (at' er : Nat) (w : World) (e : Ending) (w' : World) : Prop := e = .returned (.int .i64 er) ∧ Gt w' p v at' er ∧ w.grownBy w' (some p)
def gend (n at' er : Nat) : Nat := if er = 0 ∧ at' < n then 10 else er
set_option maxHeartbeats 1600000 in
set_option maxRecDepth 100000 in
theorem gend_any (p : Nat) (ba : Option Addr) (n cap at' er : Nat) (w : World) (hg : Gt w p (.slice ba n cap) at' er) :
    Calls Try.prog 44 #[.pointer (some ⟨p, 0, none⟩)] w (EndPost p (.slice ba n cap) at' (gend n at' er) w) := by
  have HG := Lib.hid hg
  have c0 := hg.cell 0
  have c1 := hg.cell 1
  have c2 := hg.cell 2
  have hlt := hg.lt
  have hf := fun o => hg.free o
  unfold gend
  clear hg
  by_cases h : er = 0
  · subst h
    by_cases h2 : at' < n
    · rw [if_pos ⟨rfl, h2⟩]
      go_enter Try.func44, Try.ntmps44
      go_wp2_with fail
      go_quiet (fail)
      have hfin : Gt ((w.drewN nq).setCell ⟨p, 2, none⟩ (.int .i64 10)) p (.slice ba n cap) at' 10 := (HG.out.below (belowN (Below.refl _ _) nq)).set 2 _
      have hgr : w.grownBy ((w.drewN nq).setCell ⟨p, 2, none⟩ (.int .i64 10)) (some p) := grown_set (grown_below (grown_refl _ _) (belowN (Below.refl _ _) nq)) _ _
      have HF := Lib.hid hfin
      have HR := Lib.hid hgr
      clear hfin hgr
      go_wp2
      go_ret
      exact ⟨rfl, HF.out, HR.out⟩
    · rw [if_neg (fun h => h2 h.2)]
      have h2' : decide ((at' : Int) < (n : Int)) = false := by simp; omega
      go_enter Try.func44, Try.ntmps44
      go_wp2_with fail
      go_quiet (fail)
      go_wp2
      go_ret
      exact ⟨rfl, HG.out.below (belowN (Below.refl _ _) nq), grown_below (grown_refl _ _) (belowN (Below.refl _ _) nq)⟩
  · rw [if_neg (fun h' => h h'.1)]
    have h' : ((er : Int) == 0) = false := bneI (by omega)
    go_enter Try.func44, Try.ntmps44
    go_wp2_with fail
    go_quiet (fail)
    go_wp2
    go_ret
    exact ⟨rfl, HG.out.below (belowN (Below.refl _ _) nq), grown_below (grown_refl _ _) (belowN (Below.refl _ _) nq)⟩
def OpnPost (l : List UInt8) (er : Nat) (w : World) (e : Ending) (w' : World) : Prop := ∃ p v', e = .returned (.tuple #[.pointer (some ⟨p, 0, none⟩), .int .i64 er]) ∧ Gt w' p v' 0 0 ∧ Ow w' w.heap.size v' l ∧ (∀ k, v'.ownBlock = some k → k < p) ∧ w.heap.size ≤ p ∧ Below w.heap.size w w'
set_option maxHeartbeats 1600000 in
set_option maxRecDepth 100000 in
theorem opened_any (ba : Option Addr) (n cap most : Nat) (l : List UInt8) (w : World) (hn : l.length = n) (hr : Rd w ba l) (hb : ba = none → n = 0) (hl : n ≤ 1099511627776) (hc : n ≤ cap) (hm : n ≤ most) :
    Calls Try.prog 33 #[.slice ba n cap, .int .i64 most] w (OpnPost (By.opn l).1 (By.opn l).2 w) := by
  have cu := unseal_any ba n cap l w hn hr hb hl hc
  generalize By.opn l = r at cu ⊢
  obtain ⟨d, er⟩ := r
  simp only at cu ⊢
  have CU := Lib.hid cu
  have i1 : ¬ (most : Int) < (n : Int) := by omega
  clear cu hr hb hn
  go_enter Try.func33, Try.ntmps33
  go_wp2_with fail
  with_reducible refine (CU.out).mono ?_
  rintro e w1 ⟨v1, rfl, ho1, hb1⟩
  obtain ⟨b3, c3, rfl, _, _, _⟩ := ho1.rd
  have HO := Lib.hid ho1
  have HB := Lib.hid hb1
  clear ho1 hb1
  go_wp2
  go_ret2
  exact ⟨w1.heap.size, _, rfl, Blk.new _ _ _, HO.out.alloc _, (fun k hk => (HO.out.lt k hk).2), HB.out.size, HB.out.alloc HB.out.size _⟩
theorem opened_long (ba : Option Addr) (n cap most : Nat) (w : World) (hm : most < n) :
    Calls Try.prog 33 #[.slice ba n cap, .int .i64 most] w fun e w' => e = .returned (.tuple #[.pointer none, .int .i64 3]) ∧ w = w' := by
  have i1 : (most : Int) < (n : Int) := by omega
  go_enter Try.func33, Try.ntmps33
  go_wp2
  go_ret2
  exact ⟨rfl, rfl⟩
end Go.Proofs.Ytgamhgeiceakeaa
/- package frame: Unpack, by contract. -/
set_option linter.unusedVariables false
namespace Go.Proofs.Ytgamhgeiceakeaa
open Go.RowKit
def gtop (x er : Nat) : Nat := if er = 0 ∧ 4611686018427387904 < x then 14 else er
def gs (c : List UInt8) : Nat → Nat × Nat
  | 0 => (0, 0)
  | j + 1 => ((gnum c (gs c j).1 (gs c j).2).2.1, gtop (gnum c (gs c j).1 (gs c j).2).1 (gnum c (gs c j).1 (gs c j).2).2.2)
def gx (c : List UInt8) (j : Nat) : Nat := (gnum c (gs c j).1 (gs c j).2).1
theorem gs_le (c : List UInt8) : ∀ j, (gs c j).1 ≤ c.length
  | 0 => Nat.zero_le _
  | j + 1 => gnum_le c _ _ (gs_le c j)
def ncell (c : List UInt8) (j i : Nat) : Value := .int .i64 (if i < j then IntKind.i64.wrap (gx c i) else 0)
def narr (c : List UInt8) (j : Nat) : Array Value := #[ncell c j 0, ncell c j 1, ncell c j 2, ncell c j 3]
theorem narr_at (c : List UInt8) (j : Nat) (h : j < 4) : (narr c j)[j]? = some (.int .i64 0) := by
  match j, h with
  | 0, _ => rfl
  | 1, _ => rfl
  | 2, _ => rfl
  | 3, _ => rfl
theorem narr_next (c : List UInt8) (j : Nat) (h : j < 4) : (narr c j).setIfInBounds j (.int .i64 (IntKind.i64.wrap (gx c j))) = narr c (j + 1) := by
  match j, h with
  | 0, _ => rfl
  | 1, _ => rfl
  | 2, _ => rfl
  | 3, _ => rfl
theorem Ow.rd1 {w : World} {B : Nat} {ba : Option Addr} {n cap : Nat} {l : List UInt8} (h : Ow w B (.slice ba n cap) l) : Rd w ba l ∧ (ba = none → n = 0) ∧ n ≤ cap ∧ l.length = n := by
  obtain ⟨ba', cap', e, h1, h2, h3⟩ := h.rd
  cases e
  exact ⟨h1, h2, h3, rfl⟩
/-- a fact that no tactic looks into -/
structure Lock (p : Prop) : Prop where
  out : p
def UpRel (c : List UInt8) (p pn : Nat) (v : Value) (w : World) (iv : Value) (wr : World) : Prop := ∃ j : Nat, j ≤ 4 ∧ iv = .int .i64 j ∧ Gt wr p v (gs c j).1 (gs c j).2 ∧ Blk wr pn (narr c j) 84 ∧ Ow wr (w.heap.size + 1) v c ∧ Below w.heap.size w wr ∧ Blk wr w.heap.size #[.int .i64 0, .int .i64 0, .int .i64 0, .int .i64 0, .slice none 0 0] 41
theorem up_n {c : List UInt8} {p pn : Nat} {v : Value} {w w3 : World} {j : Nat} {x : Int} (hj : j < 4) (hg : Gt w3 p v (gs c (j + 1)).1 (gs c (j + 1)).2) (hn : Blk w3 pn (narr c j) 84) (ho : Ow w3 (w.heap.size + 1) v c) (hw : Below w.heap.size w w3)
    (hx : Blk w3 w.heap.size #[.int .i64 0, .int .i64 0, .int .i64 0, .int .i64 0, .slice none 0 0] 41) (e3 : (narr c j).setIfInBounds j (.int .i64 x) = narr c (j + 1)) (h1 : p ≠ pn) (h2 : w.heap.size < pn) (h3 : ∀ k, v.ownBlock = some k → k ≠ pn) :
    UpRel c p pn v w (.int .i64 ((j : Int) + 1)) (w3.setCell ⟨pn, j, none⟩ (.int .i64 x)) := by
  have hgr : w3.grownBy (w3.setCell ⟨pn, j, none⟩ (.int .i64 x)) (some pn) := grown_set (grown_refl _ _) _ _
  refine ⟨j + 1, by omega, by go_num, hg.kept hgr (fun e => h1 (by cases e; rfl)), ?_, own_kept ho hgr (fun k hk e => h3 k hk (by cases e; rfl)), hw.grown hgr hw.size (fun k hk => by cases hk; omega), hx.kept hgr (fun e => by cases e; omega)⟩
  rw [← e3]; exact hn.set j _
theorem up_e {c : List UInt8} {p pn : Nat} {v : Value} {w w3 : World} {at2 er e' : Nat} {A : Array Value} (hg : Gt w3 p v at2 er) (hn : Blk w3 pn A 84) (ho : Ow w3 (w.heap.size + 1) v c) (hw : Below w.heap.size w w3)
    (hx : Blk w3 w.heap.size #[.int .i64 0, .int .i64 0, .int .i64 0, .int .i64 0, .slice none 0 0] 41) (h1 : p ≠ pn) (h2 : w.heap.size < p) (h3 : ∀ k, v.ownBlock = some k → k ≠ p) :
    Gt (w3.setCell ⟨p, 2, none⟩ (.int .i64 e')) p v at2 e' ∧ Blk (w3.setCell ⟨p, 2, none⟩ (.int .i64 e')) pn A 84 ∧ Ow (w3.setCell ⟨p, 2, none⟩ (.int .i64 e')) (w.heap.size + 1) v c ∧ Below w.heap.size w (w3.setCell ⟨p, 2, none⟩ (.int .i64 e')) ∧
    Blk (w3.setCell ⟨p, 2, none⟩ (.int .i64 e')) w.heap.size #[.int .i64 0, .int .i64 0, .int .i64 0, .int .i64 0, .slice none 0 0] 41 := by
  have hgr : w3.grownBy (w3.setCell ⟨p, 2, none⟩ (.int .i64 e')) (some p) := grown_set (grown_refl _ _) _ _
  exact ⟨hg.set 2 _, hn.kept hgr (fun e => h1 (by cases e; rfl)), own_kept ho hgr (fun k hk e => h3 k hk (by cases e; rfl)), hw.grown hgr hw.size (fun k hk => by cases hk; omega), hx.kept hgr (fun e => by cases e; omega)⟩
def bl4 (c : List UInt8) : List UInt8 × Nat × Nat := gblob 1048576 c (gs c 4).1 (gs c 4).2
theorem bl4_eq (c : List UInt8) : bl4 c = gblob 1048576 c (gs c 4).1 (gs c 4).2 := by unfold bl4; rfl
def er2 (c : List UInt8) : Nat := if (bl4 c).2.2 = 0 ∧ rightB (IntKind.i64.wrap (gx c 0)) (IntKind.i64.wrap (gx c 1)) (IntKind.i64.wrap (gx c 2)) (IntKind.i64.wrap (gx c 3)) (bl4 c).1.length = false then 14 else (bl4 c).2.2
def er3 (c : List UInt8) : Nat := gend c.length (bl4 c).2.1 (er2 c)
/-- a packet that is handed back, and an error -/
def UnpPost (f l s a : Int) (d : List UInt8) (er : Nat) (w : World) (e : Ending) (w' : World) : Prop := ∃ v', e = .returned (.tuple #[.agg #[.int .i64 f, .int .i64 l, .int .i64 s, .int .i64 a, v'], .int .i64 er]) ∧ Ow w' w.heap.size v' d ∧ Below w.heap.size w w'
theorem box_grown {wr w5 : World} {A : Array Value} {T : TypeId} {p : Nat} (hg : ((wr.alloc (.cells A T)).drew).grownBy w5 (some p)) (hp : p < wr.heap.size) :
    (∀ o, w5.cell? ⟨wr.heap.size, o, none⟩ = A[o]?) ∧ (∀ o, w5.frozen? ⟨wr.heap.size, o, none⟩ = false) ∧ wr.heap.size < w5.heap.size := by
  have hs := hg.size
  simp at hs
  have h1 : Blk (wr.alloc (.cells A T)).drew wr.heap.size A T := (Blk.new wr A T).below (Below.refl _ _).drew
  have h2 := h1.kept hg (fun e => by cases e; omega)
  exact ⟨fun o => h2.cell o, fun o => h2.free o, by omega⟩
theorem narr_grown {wr W w5 : World} {A : Array Value} {T : TypeId} {p pn : Nat} (h : Blk wr pn A T) (hW : Below wr.heap.size wr W) (hg : W.grownBy w5 (some p)) (hp : p ≠ pn) : (∀ o, w5.cell? ⟨pn, o, none⟩ = A[o]?) ∧ pn < w5.heap.size :=
  ⟨fun o => ((h.below hW).kept hg (fun e => hp (by cases e; rfl))).cell o, ((h.below hW).kept hg (fun e => hp (by cases e; rfl))).lt⟩
theorem cell_set5 {w : World} {b b' o : Nat} {v0 v1 v2 v3 v4 : Value} (h : b' ≠ b) : (((((w.setCell ⟨b, 0, none⟩ v0).setCell ⟨b, 1, none⟩ v1).setCell ⟨b, 2, none⟩ v2).setCell ⟨b, 3, none⟩ v3).setCell ⟨b, 4, none⟩ v4).cell? ⟨b', o, none⟩ = w.cell? ⟨b', o, none⟩ := by
  apply World.cell?_of_block
  show ((((((w.setCell ⟨b, 0, none⟩ v0).setCell ⟨b, 1, none⟩ v1).setCell ⟨b, 2, none⟩ v2).setCell ⟨b, 3, none⟩ v3).setCell ⟨b, 4, none⟩ v4)).heap[b']? = _
  rw [Below.heap_setCell _ _ _ _ h, Below.heap_setCell _ _ _ _ h, Below.heap_setCell _ _ _ _ h, Below.heap_setCell _ _ _ _ h, Below.heap_setCell _ _ _ _ h]
theorem lt_alloc {w : World} {a : Nat} {o : Obj} (h : a < w.heap.size) : a < (w.alloc o).heap.size := by simp; omega
/-- what holds where the packet has been put together -/
structure UF (w w6 : World) (p q : Nat) (v : Value) (d : List UInt8) (at2 e1 : Nat) (a0 a1 a2 a3 : Int) (b5 : Option Addr) (c5 : Nat) : Prop where
  pk : Blk w6 q #[.int .i64 a0, .int .i64 a1, .int .i64 a2, .int .i64 a3, .slice b5 d.length c5] 41
  gt : Gt w6 p v at2 e1
  own : Ow w6 (w.heap.size + 1) (.slice b5 d.length c5) d
  row : ∀ k, (Value.slice b5 d.length c5).ownBlock = some k → k ≠ p
  below : Below w.heap.size w w6
  box : Blk w6 w.heap.size #[.int .i64 0, .int .i64 0, .int .i64 0, .int .i64 0, .slice none 0 0] 41
  ne : q ≠ p ∧ w.heap.size < q ∧ w.heap.size < p
theorem uf_one {w wr w5 : World} {p q : Nat} {v : Value} {c d : List UInt8} {at2 e1 : Nat} {a0 a1 a2 a3 : Int} {b5 : Option Addr} {c5 : Nat} (hg5 : Gt w5 p v at2 e1) (ho5 : Ow w5 wr.drew.heap.size (.slice b5 d.length c5) d) (hgr5 : wr.drew.grownBy w5 (some p))
    (hw : Below w.heap.size w wr) (hx : Blk wr w.heap.size #[.int .i64 0, .int .i64 0, .int .i64 0, .int .i64 0, .slice none 0 0] 41) (ho : Ow wr (w.heap.size + 1) v c) (hp : w.heap.size < p) (hpr : p < wr.heap.size) :
    UF w (w5.alloc (.cells #[.int .i64 a0, .int .i64 a1, .int .i64 a2, .int .i64 a3, .slice b5 d.length c5] 41)) p w5.heap.size v d at2 e1 a0 a1 a2 a3 b5 c5 := by
  have hs : wr.heap.size ≤ w5.heap.size := hgr5.size
  have hws := hw.size
  have hgr : wr.grownBy w5 (some p) := below_grown (Below.refl wr.heap.size wr).drew hgr5
  refine ⟨Blk.new _ _ _, hg5.below ((Below.refl _ _).alloc (Nat.le_refl _) _), (ho5.mono (by show w.heap.size + 1 ≤ wr.heap.size; omega)).alloc _, fun k hk => ?_, (hw.grown hgr hws (fun k hk => by cases hk; omega)).alloc (by omega) _, (hx.kept hgr (fun e => by cases e; omega)).below ((Below.refl _ _).alloc (Nat.le_refl _) _), by omega, by omega, hp⟩
  have : wr.heap.size ≤ k := (ho5.lt k hk).1
  omega
theorem uf_two {w wr w5 : World} {p : Nat} {v : Value} {c d : List UInt8} {at2 e1 : Nat} {a0 a1 a2 a3 : Int} {b5 : Option Addr} {c5 : Nat} {Z : Array Value} (hg5 : Gt w5 p v at2 e1) (ho5 : Ow w5 (wr.alloc (.cells Z 41)).drew.heap.size (.slice b5 d.length c5) d) (hgr5 : (wr.alloc (.cells Z 41)).drew.grownBy w5 (some p))
    (hw : Below w.heap.size w wr) (hx : Blk wr w.heap.size #[.int .i64 0, .int .i64 0, .int .i64 0, .int .i64 0, .slice none 0 0] 41) (ho : Ow wr (w.heap.size + 1) v c) (hp : w.heap.size < p) (hpr : p < wr.heap.size) (hZ : Z = #[.int .i64 0, .int .i64 0, .int .i64 0, .int .i64 0, .slice none 0 0] := by rfl) :
    UF w (((((w5.setCell ⟨wr.heap.size, 0, none⟩ (.int .i64 a0)).setCell ⟨wr.heap.size, 1, none⟩ (.int .i64 a1)).setCell ⟨wr.heap.size, 2, none⟩ (.int .i64 a2)).setCell ⟨wr.heap.size, 3, none⟩ (.int .i64 a3)).setCell ⟨wr.heap.size, 4, none⟩ (.slice b5 d.length c5)) p wr.heap.size v d at2 e1 a0 a1 a2 a3 b5 c5 := by
  subst hZ
  have hs : (wr.alloc (.cells #[.int .i64 0, .int .i64 0, .int .i64 0, .int .i64 0, .slice none 0 0] 41)).heap.size ≤ w5.heap.size := hgr5.size
  simp at hs
  have hws := hw.size
  have hgr : wr.grownBy w5 (some p) := below_grown ((Below.refl wr.heap.size wr).alloc (Nat.le_refl _) _).drew hgr5
  have hq : Blk w5 wr.heap.size #[.int .i64 0, .int .i64 0, .int .i64 0, .int .i64 0, .slice none 0 0] 41 := ((Blk.new wr _ _).below (Below.refl _ _).drew).kept hgr5 (fun e => by have := Option.some.inj e; omega)
  have h6 : w5.grownBy (((((w5.setCell ⟨wr.heap.size, 0, none⟩ (.int .i64 a0)).setCell ⟨wr.heap.size, 1, none⟩ (.int .i64 a1)).setCell ⟨wr.heap.size, 2, none⟩ (.int .i64 a2)).setCell ⟨wr.heap.size, 3, none⟩ (.int .i64 a3)).setCell ⟨wr.heap.size, 4, none⟩ (.slice b5 d.length c5)) (some wr.heap.size) :=
    grown_set (grown_set (grown_set (grown_set (grown_set (grown_refl _ _) _ _) _ _) _ _) _ _) _ _
  have hlo : ∀ k, (Value.slice b5 d.length c5).ownBlock = some k → wr.heap.size + 1 ≤ k := fun k hk => by have := (ho5.lt k hk).1; simpa using this
  refine ⟨((((hq.set 0 _).set 1 _).set 2 _).set 3 _).set 4 _, hg5.kept h6 (fun e => by have := Option.some.inj e; omega), own_kept (ho5.mono (by show w.heap.size + 1 ≤ (wr.alloc _).heap.size; simp; omega)) h6 (fun k hk e => by cases e; have := hlo _ hk; omega), fun k hk => by have := hlo k hk; omega,
    (hw.grown hgr hws (fun k hk => by cases hk; omega)).grown h6 (by omega) (fun k hk => by cases hk; omega), (hx.kept hgr (fun e => by have := Option.some.inj e; omega)).kept h6 (fun e => by have := Option.some.inj e; omega), by omega, by omega, hp⟩
theorem UF.below_ {w w6 w7 : World} {p q : Nat} {v : Value} {d : List UInt8} {at2 e1 : Nat} {a0 a1 a2 a3 : Int} {b5 : Option Addr} {c5 : Nat} (h : UF w w6 p q v d at2 e1 a0 a1 a2 a3 b5 c5) (hb : Below w6.heap.size w6 w7) : UF w w7 p q v d at2 e1 a0 a1 a2 a3 b5 c5 :=
  ⟨h.pk.below hb, h.gt.below hb, own_below h.own hb, h.row, h.below.trans (hb.mono h.below.size), h.box.below hb, h.ne⟩
theorem UF.err {w w6 w7 : World} {p q : Nat} {v : Value} {d : List UInt8} {at2 e1 e2 : Nat} {a0 a1 a2 a3 : Int} {b5 : Option Addr} {c5 : Nat} (h : UF w w6 p q v d at2 e1 a0 a1 a2 a3 b5 c5) (hg : Gt w7 p v at2 e2) (hb : w6.grownBy w7 (some p)) : UF w w7 p q v d at2 e2 a0 a1 a2 a3 b5 c5 :=
  ⟨h.pk.kept hb (fun e => h.ne.1 (Option.some.inj e)), hg, own_kept h.own hb (fun k hk e => h.row k hk (Option.some.inj e).symm), h.row, h.below.grown hb h.below.size (fun k hk => by have := Option.some.inj hk; have := h.ne; omega), h.box.kept hb (fun e => by have := Option.some.inj e; have := h.ne; omega), h.ne⟩
/-- what Unpack makes of bytes whose sum is right -/
def fin (c : List UInt8) : Int × Int × Int × Int × List UInt8 × Nat := if er3 c ≠ 0 then (0, 0, 0, 0, [], er3 c) else (IntKind.i64.wrap (gx c 0), IntKind.i64.wrap (gx c 1), IntKind.i64.wrap (gx c 2), IntKind.i64.wrap (gx c 3), (bl4 c).1, 0)
theorem fin_cases (c : List UInt8) (d : List UInt8) (at2 e1 : Nat) (a0 a1 a2 a3 : Int) (h0 : a0 = IntKind.i64.wrap (gx c 0)) (h1 : a1 = IntKind.i64.wrap (gx c 1)) (h2 : a2 = IntKind.i64.wrap (gx c 2)) (h3 : a3 = IntKind.i64.wrap (gx c 3)) (hb : bl4 c = (d, at2, e1)) :
    (e1 ≠ 0 → fin c = (0, 0, 0, 0, [], e1)) ∧ (e1 = 0 → rightB a0 a1 a2 a3 d.length = false → fin c = (0, 0, 0, 0, [], 14)) ∧
    (e1 = 0 → rightB a0 a1 a2 a3 d.length = true → at2 < c.length → fin c = (0, 0, 0, 0, [], 10)) ∧ (e1 = 0 → rightB a0 a1 a2 a3 d.length = true → ¬ at2 < c.length → fin c = (a0, a1, a2, a3, d, 0)) := by
  subst h0; subst h1; subst h2; subst h3
  have e2 : er2 c = if e1 = 0 ∧ rightB (IntKind.i64.wrap (gx c 0)) (IntKind.i64.wrap (gx c 1)) (IntKind.i64.wrap (gx c 2)) (IntKind.i64.wrap (gx c 3)) d.length = false then 14 else e1 := by unfold er2; rw [hb]
  have e3 : er3 c = gend c.length at2 (er2 c) := by unfold er3; rw [hb]
  have ef : fin c = if er3 c ≠ 0 then (0, 0, 0, 0, [], er3 c) else (IntKind.i64.wrap (gx c 0), IntKind.i64.wrap (gx c 1), IntKind.i64.wrap (gx c 2), IntKind.i64.wrap (gx c 3), d, 0) := by unfold fin; rw [hb]
  rw [ef, e3]
  refine ⟨fun h => ?_, fun h hr => ?_, fun h hr ha => ?_, fun h hr ha => ?_⟩
  · have q : er2 c = e1 := by rw [e2, if_neg (fun q => h q.1)]
    have q2 : gend c.length at2 e1 = e1 := by unfold gend; rw [if_neg (fun q => h q.1)]
    rw [q, q2, if_pos h]
  · have q : er2 c = 14 := by rw [e2, if_pos ⟨h, hr⟩]
    have q2 : gend c.length at2 14 = 14 := by unfold gend; rw [if_neg (fun q => by cases q.1)]
    rw [q, q2, if_pos (by decide)]
  · have q : er2 c = 0 := by rw [e2, if_neg (fun q => by rw [hr] at q; cases q.2), h]
    have q2 : gend c.length at2 0 = 10 := by unfold gend; rw [if_pos ⟨rfl, ha⟩]
    rw [q, q2, if_pos (by decide)]
  · have q : er2 c = 0 := by rw [e2, if_neg (fun q => by rw [hr] at q; cases q.2), h]
    have q2 : gend c.length at2 0 = 0 := by unfold gend; rw [if_neg (fun q => ha q.2)]
    rw [q, q2, if_neg (by decide)]
set_option maxHeartbeats 4000000 in
set_option maxRecDepth 100000 in
theorem unpack_body (ba : Option Addr) (n cap : Nat) (l c : List UInt8) (F L S A : Int) (D : List UInt8) (E : Nat) (w : World) (hn : l.length = n) (hr : Rd w ba l) (hb : ba = none → n = 0) (hl : n ≤ 1048640) (hc : n ≤ cap) (ho : Lock (By.opn l = (c, 0))) (hF : Lock (fin c = (F, L, S, A, D, E))) :
    Calls Try.prog 15 #[.slice ba n cap] w (UnpPost F L S A D E w) := by
  have co : ∀ W, Below w.heap.size w W → Calls Try.prog 33 #[.slice ba n cap, .int .i64 1048640] W (OpnPost (By.opn l).1 (By.opn l).2 W) := fun W hW => opened_any ba n cap 1048640 l W hn (hr.below hW) hb (by omega) hc hl
  have hcl : (By.opn l).1.length ≤ n := by
    unfold By.opn
    split
    · exact Nat.zero_le _
    · split
      · simp only [List.length_take]; omega
      · exact Nat.zero_le _
  rw [ho.out] at co hcl
  simp only at hcl
  have CO := Lib.hid co
  clear co hr hb hn ho
  go_enter Try.func15, Try.ntmps15
  go_wp2_with fail
  with_reducible refine (CO.out _ ((Below.refl _ _).alloc (Nat.le_refl _) _)).mono ?_
  rintro e w1 ⟨p, v1, rfl, hg1, ho1, hv1, hp1, hb1⟩
  obtain ⟨b1, c1, rfl, hr1, hn1, hc1⟩ := ho1.rd
  have HG1 := Lib.hid hg1
  have HO1 := Lib.hid ho1
  have HB1 := Lib.hid hb1
  have HV1 := Lib.hid hv1
  clear hg1 ho1 hb1 hr1 hn1 hc1 hv1
  go_wp2_with fail
  have hpL : w.heap.size + 1 ≤ p := by simpa using hp1
  have hpN : p < w1.heap.size := HG1.out.lt
  have hbox : Blk w1 w.heap.size #[.int .i64 0, .int .i64 0, .int .i64 0, .int .i64 0, .slice none 0 0] 41 := (Blk.new w _ _).below HB1.out
  have HBX := Lib.hid hbox
  have HBW : Hid (Below w.heap.size w w1) := Lib.hid (((Below.refl w.heap.size w).alloc (Nat.le_refl _) _).trans (HB1.out.mono (by simp)))
  have HOW : Hid (Ow w1 (w.heap.size + 1) (.slice b1 c.length c1) c) := Lib.hid (HO1.out.mono (by simp))
  clear hp1 hbox HB1 HO1
  go_loopw [20] (fun iv wr => UpRel c p w1.heap.size (.slice b1 c.length c1) w iv wr) (fun i _ => 4 - (intOf i).toNat)
  case atStart => exact ⟨0, by omega, rfl, HG1.out.below ((Below.refl _ _).alloc (Nat.le_refl _) _), Blk.new _ _ _, HOW.out.alloc _, HBW.out.alloc HBW.out.size _, HBX.out.below ((Below.refl _ _).alloc (Nat.le_refl _) _)⟩
  case round =>
    obtain ⟨j, hj, rfl, hg, hb2, ho2, hw2, hx2⟩ := hrel
    obtain ⟨hrd, hba, hcp, _⟩ := ho2.rd1
    have hsle := gs_le c j
    have hpr := hg.lt
    have hnr := hb2.lt
    have HG := Lib.hid hg
    have HN := Lib.hid hb2
    have HO := Lib.hid ho2
    have HW := Lib.hid hw2
    have HX := Lib.hid hx2
    by_cases hj4 : j < 4
    · have cn := guint_any p b1 c.length c1 c (gs c j).1 (gs c j).2 wr hg rfl hrd hsle (by omega)
      have e1 : gs c (j + 1) = ((gnum c (gs c j).1 (gs c j).2).2.1, gtop (gnum c (gs c j).1 (gs c j).2).1 (gnum c (gs c j).1 (gs c j).2).2.2) := rfl
      have e2 : gx c j = (gnum c (gs c j).1 (gs c j).2).1 := rfl
      have e3 := narr_next c j hj4
      have e4 := narr_at c j hj4
      rw [e2] at e3
      clear e2
      generalize gnum c (gs c j).1 (gs c j).2 = r at cn e1 e3
      obtain ⟨x, at2, er2⟩ := r
      simp only at cn e1 e3
      have CN := Lib.hid cn
      have E1 := Lib.hid e1
      have E3 := Lib.hid e3
      have E4 := Lib.hid e4
      clear hg hb2 ho2 hw2 hx2 hrd hba cn e1 e3 e4
      go_wp2_with fail
      with_reducible refine (CN.out).mono ?_
      rintro e w3 ⟨rfl, hg3, hgr3⟩
      have c2 := hg3.cell 2
      have hf3 := fun o => hg3.free o
      have hp3 := hg3.lt
      have hN3 := HN.out.kept hgr3 (by intro e; cases e; omega)
      have hn3 := hN3.lt
      have hx3 := HX.out.kept hgr3 (by intro e; cases e; omega)
      have hne : ∀ k, (Value.slice b1 c.length c1).ownBlock = some k → some p ≠ some k := by
        intro k hk e; cases e; exact absurd (HV1.out p hk) (Nat.lt_irrefl _)
      have ho3 := own_kept HO.out hgr3 hne
      clear hne
      have hcj := hN3.cell j
      rw [E4.out] at hcj
      have hfj := hN3.free j
      have hw3 : Below w.heap.size w w3 := HW.out.grown hgr3 HW.out.size (fun k hk => by cases hk; omega)
      have HG3 := Lib.hid hg3
      have HN3 := Lib.hid hN3
      have HX3 := Lib.hid hx3
      have HO3 := Lib.hid ho3
      have HW3 := Lib.hid hw3
      clear hg3 hN3 hx3 ho3 hw3 hgr3
      by_cases her : er2 = 0
      · subst her
        by_cases htop : 4611686018427387904 < x
        · have i1 : (4611686018427387904 : Int) < (x : Int) := by omega
          have hg5 := E1.out
          unfold gtop at hg5
          rw [if_pos ⟨rfl, htop⟩] at hg5
          have HG5 : Lock (gs c (j + 1) = (at2, 14)) := ⟨hg5⟩
          clear hg5
          go_wp2_with fail
          obtain ⟨m1, m2, m3, m4, m5⟩ := up_e (e' := 14) HG3.out HN3.out HO3.out HW3.out HX3.out (by omega) (by omega) (fun k hk e => by subst e; exact absurd (HV1.out k hk) (Nat.lt_irrefl _))
          exact ⟨up_n hj4 (by rw [HG5.out]; exact m1) m2 m3 m4 m5 (by rw [← E3.out]; congr 2; unfold wrap64; rw [IntKind.wrap_i64]) (by omega) (by omega) (fun k hk e => by have := HV1.out k hk; omega), by simp [intOf]; omega⟩
        · have hg5 := E1.out
          unfold gtop at hg5
          rw [if_neg (fun h => htop h.2)] at hg5
          have HG5 : Lock (gs c (j + 1) = (at2, 0)) := ⟨hg5⟩
          have i1 : ¬ (4611686018427387904 : Int) < (x : Int) := by omega
          have i2 : decide ((4611686018427387904 : Int) < (x : Int)) = false := by simp; omega
          clear hg5
          go_wp2_with fail
          exact ⟨up_n hj4 (by rw [HG5.out]; exact HG3.out) HN3.out HO3.out HW3.out HX3.out (by rw [← E3.out, IntWalk.i64_in _ (by omega)]) (by omega) (by omega) (fun k hk e => by have := HV1.out k hk; omega), by simp [intOf]; omega⟩
      · have hg5 := E1.out
        unfold gtop at hg5
        rw [if_neg (fun h => her h.1)] at hg5
        have HG5 : Lock (gs c (j + 1) = (at2, er2)) := ⟨hg5⟩
        have i1 : ((er2 : Int) == 0) = false := bneI (by omega)
        clear hg5
        go_wp2_with fail
        exact ⟨up_n hj4 (by rw [HG5.out]; exact HG3.out) HN3.out HO3.out HW3.out HX3.out (by rw [← E3.out]; congr 2; unfold wrap64; rw [IntKind.wrap_i64]) (by omega) (by omega) (fun k hk e => by have := HV1.out k hk; omega), by simp [intOf]; omega⟩
    · obtain rfl : j = 4 := by omega
      have cb := fun W (hW : Below wr.heap.size wr W) => gblob_any p b1 c.length c1 c (gs c 4).1 (gs c 4).2 1048576 W (hg.below hW) rfl (hrd.below hW) hba hsle hcp (by omega) (by omega)
      rw [← bl4_eq c] at cb
      obtain ⟨a0, h0⟩ : ∃ a0, a0 = IntKind.i64.wrap (gx c 0) := ⟨_, rfl⟩
      obtain ⟨a1, h1⟩ : ∃ a1, a1 = IntKind.i64.wrap (gx c 1) := ⟨_, rfl⟩
      obtain ⟨a2, h2⟩ : ∃ a2, a2 = IntKind.i64.wrap (gx c 2) := ⟨_, rfl⟩
      obtain ⟨a3, h3⟩ : ∃ a3, a3 = IntKind.i64.wrap (gx c 3) := ⟨_, rfl⟩
      have hnar : narr c 4 = #[.int .i64 a0, .int .i64 a1, .int .i64 a2, .int .i64 a3] := by rw [h0, h1, h2, h3]; rfl
      rw [hnar] at hb2
      generalize hbl : bl4 c = r at cb
      obtain ⟨d, at2, e1⟩ := r
      simp only at cb
      have hfc := fin_cases c d at2 e1 a0 a1 a2 a3 h0 h1 h2 h3 hbl
      have FC : Lock _ := ⟨hfc⟩
      have CB := Lib.hid cb
      have HN4 := Lib.hid hb2
      have k0 := hb2.cell 0
      have k1 := hb2.cell 1
      have k2 := hb2.cell 2
      have k3 := hb2.cell 3
      clear cb hfc h0 h1 h2 h3 hnar hbl hg hb2 ho2 hw2 hx2 hrd hba HN HG hsle
      go_wp2_with fail
      go_region_held3 (fun w' => w'.cell? ⟨w1.heap.size, 0, none⟩ = some (.int .i64 a0) ∧ w'.cell? ⟨w1.heap.size, 1, none⟩ = some (.int .i64 a1) ∧ w'.cell? ⟨w1.heap.size, 2, none⟩ = some (.int .i64 a2) ∧ w'.cell? ⟨w1.heap.size, 3, none⟩ = some (.int .i64 a3)) ((first | (go_keep; done) | ((try dsimp only); refine ⟨?_, ?_, ?_, ?_⟩ <;> (first | (go_keep; done) | ((with_reducible refine Lib.cell?_alloc_some _ ?_); go_keep; done) | ((with_reducible refine (cell_set5 (Nat.ne_of_lt hnr)).trans ?_); go_keep; done))))) (first | (go_at_call 43; refine (CB.out _ ?_).mono ?_; exact (Below.refl _ _).drew; rintro e w5 ⟨v5, rfl, ho5, hg5, hgr5⟩; obtain ⟨b5, c5, rfl, hr5, hn5, hc5⟩ := ho5.rd; obtain ⟨k5, s5⟩ := narr_grown HN4.out (Below.refl _ _).drew hgr5 (by omega)) | (go_at_call 43; refine (CB.out _ ?_).mono ?_; exact ((Below.refl _ _).alloc (Nat.le_refl _) _).drew; rintro e w5 ⟨v5, rfl, ho5, hg5, hgr5⟩; obtain ⟨b5, c5, rfl, hr5, hn5, hc5⟩ := ho5.rd; obtain ⟨k5, s5⟩ := narr_grown HN4.out ((Below.refl _ _).alloc (Nat.le_refl _) _).drew hgr5 (by omega); obtain ⟨z1, z2, z3⟩ := box_grown hgr5 (by omega)))
      · have UFX := uf_one (q := w5.heap.size) (c := c) (v := .slice b1 c.length c1) (a0 := a0) (a1 := a1) (a2 := a2) (a3 := a3) hg5 ho5 hgr5 HW.out HX.out HO.out (by omega) (by omega)
        generalize w5.alloc (.cells #[.int .i64 a0, .int .i64 a1, .int .i64 a2, .int .i64 a3, .slice b5 d.length c5] 41) = w6 at UFX ⊢
        generalize w5.heap.size = q at UFX ⊢
        have HU := Lib.hid UFX
        clear UFX
        by_cases he : e1 = 0
        · subst he
          have cr := fun W => pkr_any a0 a1 a2 a3 b5 d.length c5 W
          cases hrb : rightB a0 a1 a2 a3 d.length with
          | false =>
            obtain ⟨rfl, rfl, rfl, rfl, rfl, rfl⟩ : F = 0 ∧ L = 0 ∧ S = 0 ∧ A = 0 ∧ D = [] ∧ E = 14 := by have h := hF.out.symm.trans (FC.out.2.1 rfl hrb); simpa using h
            rw [hrb] at cr
            have CR := Lib.hid cr
            clear hrb cr hF FC
            have g2 := HU.out.gt.cell 2
            have gf := fun o => HU.out.gt.free o
            have gl := HU.out.gt.lt
            have m0 := HU.out.pk.cell 0
            have m1 := HU.out.pk.cell 1
            have m2 := HU.out.pk.cell 2
            have m3 := HU.out.pk.cell 3
            have m4 := HU.out.pk.cell 4
            have z0 := HU.out.box.cell 0
            have z1 := HU.out.box.cell 1
            have z2 := HU.out.box.cell 2
            have z3 := HU.out.box.cell 3
            have z4 := HU.out.box.cell 4
            have zf := fun o => HU.out.box.free o
            have zl := HU.out.box.lt
            obtain ⟨n1, n2, n3⟩ := HU.out.ne
            go_wp2_with fail
            with_reducible refine (CR.out _).mono ?_
            rintro e w7 ⟨rfl, hb7⟩
            have HU7 := Lib.hid (HU.out.below_ hb7)
            clear hb7
            clear g2 gf gl m0 m1 m2 m3 m4 z0 z1 z2 z3 z4 zf zl n1 n2 n3
            have g2 := HU7.out.gt.cell 2
            have gf := fun o => HU7.out.gt.free o
            have gl := HU7.out.gt.lt
            have m0 := HU7.out.pk.cell 0
            have m1 := HU7.out.pk.cell 1
            have m2 := HU7.out.pk.cell 2
            have m3 := HU7.out.pk.cell 3
            have m4 := HU7.out.pk.cell 4
            have z0 := HU7.out.box.cell 0
            have z1 := HU7.out.box.cell 1
            have z2 := HU7.out.box.cell 2
            have z3 := HU7.out.box.cell 3
            have z4 := HU7.out.box.cell 4
            have zf := fun o => HU7.out.box.free o
            have zl := HU7.out.box.lt
            obtain ⟨n1, n2, n3⟩ := HU7.out.ne
            have hfin := (HU7.out.gt.set 2 (.int .i64 14))
            have hgr := grown_set (grown_refl w7 (some p)) 2 (.int .i64 14)
            have HU8 := Lib.hid (HU7.out.err (e2 := 14) hfin hgr)
            clear hfin hgr
            have ec := gend_any p b1 c.length c1 at2 14 _ HU8.out.gt
            rw [show gend c.length at2 14 = 14 from by unfold gend; rw [if_neg (fun q => by cases q.1)]] at ec
            have EC := Lib.hid ec
            clear ec
            go_wp2_with fail
            with_reducible refine (EC.out).mono ?_
            rintro e w9 ⟨rfl, hg9, hgr9⟩
            have HU9 := Lib.hid (HU8.out.err hg9 hgr9)
            clear hg9 hgr9
            clear g2 gf gl m0 m1 m2 m3 m4 z0 z1 z2 z3 z4 zf zl n1 n2 n3
            have g2 := HU9.out.gt.cell 2
            have gf := fun o => HU9.out.gt.free o
            have gl := HU9.out.gt.lt
            have m0 := HU9.out.pk.cell 0
            have m1 := HU9.out.pk.cell 1
            have m2 := HU9.out.pk.cell 2
            have m3 := HU9.out.pk.cell 3
            have m4 := HU9.out.pk.cell 4
            have z0 := HU9.out.box.cell 0
            have z1 := HU9.out.box.cell 1
            have z2 := HU9.out.box.cell 2
            have z3 := HU9.out.box.cell 3
            have z4 := HU9.out.box.cell 4
            have zf := fun o => HU9.out.box.free o
            have zl := HU9.out.box.lt
            obtain ⟨n1, n2, n3⟩ := HU9.out.ne
            go_wp2
            exact bodyPost_ret (v := .tuple #[.agg #[.int .i64 0, .int .i64 0, .int .i64 0, .int .i64 0, .slice none 0 0], .int .i64 14]) (by unfold results; rw [Try.results15]; go_simp) rfl ⟨_, rfl, Ow.nil _ _, (((((HU9.out.below.setCell (p := ⟨w.heap.size, 0, none⟩) (Nat.le_refl _) _).setCell (p := ⟨w.heap.size, 1, none⟩) (Nat.le_refl _) _).setCell (p := ⟨w.heap.size, 2, none⟩) (Nat.le_refl _) _).setCell (p := ⟨w.heap.size, 3, none⟩) (Nat.le_refl _) _).setCell (p := ⟨w.heap.size, 4, none⟩) (Nat.le_refl _) _)⟩
          | true =>
            by_cases hat : at2 < c.length
            · obtain ⟨rfl, rfl, rfl, rfl, rfl, rfl⟩ : F = 0 ∧ L = 0 ∧ S = 0 ∧ A = 0 ∧ D = [] ∧ E = 10 := by have h := hF.out.symm.trans (FC.out.2.2.1 rfl hrb hat); simpa using h
              rw [hrb] at cr
              have CR := Lib.hid cr
              clear hrb cr hF FC
              have g2 := HU.out.gt.cell 2
              have gf := fun o => HU.out.gt.free o
              have gl := HU.out.gt.lt
              have m0 := HU.out.pk.cell 0
              have m1 := HU.out.pk.cell 1
              have m2 := HU.out.pk.cell 2
              have m3 := HU.out.pk.cell 3
              have m4 := HU.out.pk.cell 4
              have z0 := HU.out.box.cell 0
              have z1 := HU.out.box.cell 1
              have z2 := HU.out.box.cell 2
              have z3 := HU.out.box.cell 3
              have z4 := HU.out.box.cell 4
              have zf := fun o => HU.out.box.free o
              have zl := HU.out.box.lt
              obtain ⟨n1, n2, n3⟩ := HU.out.ne
              go_wp2_with fail
              with_reducible refine (CR.out _).mono ?_
              rintro e w7 ⟨rfl, hb7⟩
              have HU7 := Lib.hid (HU.out.below_ hb7)
              clear hb7
              clear g2 gf gl m0 m1 m2 m3 m4 z0 z1 z2 z3 z4 zf zl n1 n2 n3
              have g2 := HU7.out.gt.cell 2
              have gf := fun o => HU7.out.gt.free o
              have gl := HU7.out.gt.lt
              have m0 := HU7.out.pk.cell 0
              have m1 := HU7.out.pk.cell 1
              have m2 := HU7.out.pk.cell 2
              have m3 := HU7.out.pk.cell 3
              have m4 := HU7.out.pk.cell 4
              have z0 := HU7.out.box.cell 0
              have z1 := HU7.out.box.cell 1
              have z2 := HU7.out.box.cell 2
              have z3 := HU7.out.box.cell 3
              have z4 := HU7.out.box.cell 4
              have zf := fun o => HU7.out.box.free o
              have zl := HU7.out.box.lt
              obtain ⟨n1, n2, n3⟩ := HU7.out.ne
              have ec := gend_any p b1 c.length c1 at2 0 _ HU7.out.gt
              rw [show gend c.length at2 0 = 10 from by unfold gend; rw [if_pos ⟨rfl, hat⟩]] at ec
              have EC := Lib.hid ec
              clear ec
              go_wp2_with fail
              with_reducible refine (EC.out).mono ?_
              rintro e w9 ⟨rfl, hg9, hgr9⟩
              have HU9 := Lib.hid (HU7.out.err hg9 hgr9)
              clear hg9 hgr9
              clear g2 gf gl m0 m1 m2 m3 m4 z0 z1 z2 z3 z4 zf zl n1 n2 n3
              have g2 := HU9.out.gt.cell 2
              have gf := fun o => HU9.out.gt.free o
              have gl := HU9.out.gt.lt
              have m0 := HU9.out.pk.cell 0
              have m1 := HU9.out.pk.cell 1
              have m2 := HU9.out.pk.cell 2
              have m3 := HU9.out.pk.cell 3
              have m4 := HU9.out.pk.cell 4
              have z0 := HU9.out.box.cell 0
              have z1 := HU9.out.box.cell 1
              have z2 := HU9.out.box.cell 2
              have z3 := HU9.out.box.cell 3
              have z4 := HU9.out.box.cell 4
              have zf := fun o => HU9.out.box.free o
              have zl := HU9.out.box.lt
              obtain ⟨n1, n2, n3⟩ := HU9.out.ne
              go_wp2
              exact bodyPost_ret (v := .tuple #[.agg #[.int .i64 0, .int .i64 0, .int .i64 0, .int .i64 0, .slice none 0 0], .int .i64 10]) (by unfold results; rw [Try.results15]; go_simp) rfl ⟨_, rfl, Ow.nil _ _, (((((HU9.out.below.setCell (p := ⟨w.heap.size, 0, none⟩) (Nat.le_refl _) _).setCell (p := ⟨w.heap.size, 1, none⟩) (Nat.le_refl _) _).setCell (p := ⟨w.heap.size, 2, none⟩) (Nat.le_refl _) _).setCell (p := ⟨w.heap.size, 3, none⟩) (Nat.le_refl _) _).setCell (p := ⟨w.heap.size, 4, none⟩) (Nat.le_refl _) _)⟩
            · obtain ⟨rfl, rfl, rfl, rfl, rfl, rfl⟩ : F = a0 ∧ L = a1 ∧ S = a2 ∧ A = a3 ∧ D = d ∧ E = 0 := by have h := hF.out.symm.trans (FC.out.2.2.2 rfl hrb hat); simpa using h
              rw [hrb] at cr
              have CR := Lib.hid cr
              clear hrb cr hF FC
              have g2 := HU.out.gt.cell 2
              have gf := fun o => HU.out.gt.free o
              have gl := HU.out.gt.lt
              have m0 := HU.out.pk.cell 0
              have m1 := HU.out.pk.cell 1
              have m2 := HU.out.pk.cell 2
              have m3 := HU.out.pk.cell 3
              have m4 := HU.out.pk.cell 4
              have z0 := HU.out.box.cell 0
              have z1 := HU.out.box.cell 1
              have z2 := HU.out.box.cell 2
              have z3 := HU.out.box.cell 3
              have z4 := HU.out.box.cell 4
              have zf := fun o => HU.out.box.free o
              have zl := HU.out.box.lt
              obtain ⟨n1, n2, n3⟩ := HU.out.ne
              go_wp2_with fail
              with_reducible refine (CR.out _).mono ?_
              rintro e w7 ⟨rfl, hb7⟩
              have HU7 := Lib.hid (HU.out.below_ hb7)
              clear hb7
              clear g2 gf gl m0 m1 m2 m3 m4 z0 z1 z2 z3 z4 zf zl n1 n2 n3
              have g2 := HU7.out.gt.cell 2
              have gf := fun o => HU7.out.gt.free o
              have gl := HU7.out.gt.lt
              have m0 := HU7.out.pk.cell 0
              have m1 := HU7.out.pk.cell 1
              have m2 := HU7.out.pk.cell 2
              have m3 := HU7.out.pk.cell 3
              have m4 := HU7.out.pk.cell 4
              have z0 := HU7.out.box.cell 0
              have z1 := HU7.out.box.cell 1
              have z2 := HU7.out.box.cell 2
              have z3 := HU7.out.box.cell 3
              have z4 := HU7.out.box.cell 4
              have zf := fun o => HU7.out.box.free o
              have zl := HU7.out.box.lt
              obtain ⟨n1, n2, n3⟩ := HU7.out.ne
              have ec := gend_any p b1 c.length c1 at2 0 _ HU7.out.gt
              rw [show gend c.length at2 0 = 0 from by unfold gend; rw [if_neg (fun q => hat q.2)]] at ec
              have EC := Lib.hid ec
              clear ec
              go_wp2_with fail
              with_reducible refine (EC.out).mono ?_
              rintro e w9 ⟨rfl, hg9, hgr9⟩
              have HU9 := Lib.hid (HU7.out.err hg9 hgr9)
              clear hg9 hgr9
              clear g2 gf gl m0 m1 m2 m3 m4 z0 z1 z2 z3 z4 zf zl n1 n2 n3
              have g2 := HU9.out.gt.cell 2
              have gf := fun o => HU9.out.gt.free o
              have gl := HU9.out.gt.lt
              have m0 := HU9.out.pk.cell 0
              have m1 := HU9.out.pk.cell 1
              have m2 := HU9.out.pk.cell 2
              have m3 := HU9.out.pk.cell 3
              have m4 := HU9.out.pk.cell 4
              have z0 := HU9.out.box.cell 0
              have z1 := HU9.out.box.cell 1
              have z2 := HU9.out.box.cell 2
              have z3 := HU9.out.box.cell 3
              have z4 := HU9.out.box.cell 4
              have zf := fun o => HU9.out.box.free o
              have zl := HU9.out.box.lt
              obtain ⟨n1, n2, n3⟩ := HU9.out.ne
              go_wp2
              exact bodyPost_ret (v := .tuple #[.agg #[.int .i64 F, .int .i64 L, .int .i64 S, .int .i64 A, .slice b5 D.length c5], .int .i64 0]) (by unfold results; rw [Try.results15]; go_simp) rfl ⟨_, rfl, own_kept (HU9.out.own.mono (Nat.le_succ _)) (grown_set (grown_set (grown_set (grown_set (grown_set (grown_refl w9 (some w.heap.size)) 0 _) 1 _) 2 _) 3 _) 4 _) (fun k hk e => by have h1 := (HU9.out.own.lt k hk).1; have h2 := Option.some.inj e; omega), (((((HU9.out.below.setCell (p := ⟨w.heap.size, 0, none⟩) (Nat.le_refl _) _).setCell (p := ⟨w.heap.size, 1, none⟩) (Nat.le_refl _) _).setCell (p := ⟨w.heap.size, 2, none⟩) (Nat.le_refl _) _).setCell (p := ⟨w.heap.size, 3, none⟩) (Nat.le_refl _) _).setCell (p := ⟨w.heap.size, 4, none⟩) (Nat.le_refl _) _)⟩
        · obtain ⟨rfl, rfl, rfl, rfl, rfl, rfl⟩ : F = 0 ∧ L = 0 ∧ S = 0 ∧ A = 0 ∧ D = [] ∧ E = e1 := by have h := hF.out.symm.trans (FC.out.1 he); simpa using h
          have he1 : ((E : Int) == 0) = false := bneI (by omega)
          have he2 : ((E : Int) != 0) = true := by rw [bne_iff_ne]; omega
          clear hF FC
          have g2 := HU.out.gt.cell 2
          have gf := fun o => HU.out.gt.free o
          have gl := HU.out.gt.lt
          have m0 := HU.out.pk.cell 0
          have m1 := HU.out.pk.cell 1
          have m2 := HU.out.pk.cell 2
          have m3 := HU.out.pk.cell 3
          have m4 := HU.out.pk.cell 4
          have z0 := HU.out.box.cell 0
          have z1 := HU.out.box.cell 1
          have z2 := HU.out.box.cell 2
          have z3 := HU.out.box.cell 3
          have z4 := HU.out.box.cell 4
          have zf := fun o => HU.out.box.free o
          have zl := HU.out.box.lt
          obtain ⟨n1, n2, n3⟩ := HU.out.ne
          have ec := gend_any p b1 c.length c1 at2 E _ HU.out.gt
          rw [show gend c.length at2 E = E from by unfold gend; rw [if_neg (fun q => he q.1)]] at ec
          have EC := Lib.hid ec
          clear ec
          go_wp2_with fail
          with_reducible refine (EC.out).mono ?_
          rintro e w9 ⟨rfl, hg9, hgr9⟩
          have HU9 := Lib.hid (HU.out.err hg9 hgr9)
          clear hg9 hgr9
          clear g2 gf gl m0 m1 m2 m3 m4 z0 z1 z2 z3 z4 zf zl n1 n2 n3
          have g2 := HU9.out.gt.cell 2
          have gf := fun o => HU9.out.gt.free o
          have gl := HU9.out.gt.lt
          have m0 := HU9.out.pk.cell 0
          have m1 := HU9.out.pk.cell 1
          have m2 := HU9.out.pk.cell 2
          have m3 := HU9.out.pk.cell 3
          have m4 := HU9.out.pk.cell 4
          have z0 := HU9.out.box.cell 0
          have z1 := HU9.out.box.cell 1
          have z2 := HU9.out.box.cell 2
          have z3 := HU9.out.box.cell 3
          have z4 := HU9.out.box.cell 4
          have zf := fun o => HU9.out.box.free o
          have zl := HU9.out.box.lt
          obtain ⟨n1, n2, n3⟩ := HU9.out.ne
          go_wp2
          exact bodyPost_ret (v := .tuple #[.agg #[.int .i64 0, .int .i64 0, .int .i64 0, .int .i64 0, .slice none 0 0], .int .i64 E]) (by unfold results; rw [Try.results15]; go_simp) rfl ⟨_, rfl, Ow.nil _ _, (((((HU9.out.below.setCell (p := ⟨w.heap.size, 0, none⟩) (Nat.le_refl _) _).setCell (p := ⟨w.heap.size, 1, none⟩) (Nat.le_refl _) _).setCell (p := ⟨w.heap.size, 2, none⟩) (Nat.le_refl _) _).setCell (p := ⟨w.heap.size, 3, none⟩) (Nat.le_refl _) _).setCell (p := ⟨w.heap.size, 4, none⟩) (Nat.le_refl _) _)⟩
      · have UFX := uf_two (c := c) (v := .slice b1 c.length c1) (a0 := a0) (a1 := a1) (a2 := a2) (a3 := a3) hg5 ho5 hgr5 HW.out HX.out HO.out (by omega) (by omega)
        generalize (((((w5.setCell ⟨wr.heap.size, 0, none⟩ (.int .i64 a0)).setCell ⟨wr.heap.size, 1, none⟩ (.int .i64 a1)).setCell ⟨wr.heap.size, 2, none⟩ (.int .i64 a2)).setCell ⟨wr.heap.size, 3, none⟩ (.int .i64 a3)).setCell ⟨wr.heap.size, 4, none⟩ (.slice b5 d.length c5)) = w6 at UFX ⊢
        generalize wr.heap.size = q at UFX ⊢
        have HU := Lib.hid UFX
        clear UFX
        by_cases he : e1 = 0
        · subst he
          have cr := fun W => pkr_any a0 a1 a2 a3 b5 d.length c5 W
          cases hrb : rightB a0 a1 a2 a3 d.length with
          | false =>
            obtain ⟨rfl, rfl, rfl, rfl, rfl, rfl⟩ : F = 0 ∧ L = 0 ∧ S = 0 ∧ A = 0 ∧ D = [] ∧ E = 14 := by have h := hF.out.symm.trans (FC.out.2.1 rfl hrb); simpa using h
            rw [hrb] at cr
            have CR := Lib.hid cr
            clear hrb cr hF FC
            have g2 := HU.out.gt.cell 2
            have gf := fun o => HU.out.gt.free o
            have gl := HU.out.gt.lt
            have m0 := HU.out.pk.cell 0
            have m1 := HU.out.pk.cell 1
            have m2 := HU.out.pk.cell 2
            have m3 := HU.out.pk.cell 3
            have m4 := HU.out.pk.cell 4
            have z0 := HU.out.box.cell 0
            have z1 := HU.out.box.cell 1
            have z2 := HU.out.box.cell 2
            have z3 := HU.out.box.cell 3
            have z4 := HU.out.box.cell 4
            have zf := fun o => HU.out.box.free o
            have zl := HU.out.box.lt
            obtain ⟨n1, n2, n3⟩ := HU.out.ne
            go_wp2_with fail
            with_reducible refine (CR.out _).mono ?_
            rintro e w7 ⟨rfl, hb7⟩
            have HU7 := Lib.hid (HU.out.below_ hb7)
            clear hb7
            clear g2 gf gl m0 m1 m2 m3 m4 z0 z1 z2 z3 z4 zf zl n1 n2 n3
            have g2 := HU7.out.gt.cell 2
            have gf := fun o => HU7.out.gt.free o
            have gl := HU7.out.gt.lt
            have m0 := HU7.out.pk.cell 0
            have m1 := HU7.out.pk.cell 1
            have m2 := HU7.out.pk.cell 2
            have m3 := HU7.out.pk.cell 3
            have m4 := HU7.out.pk.cell 4
            have z0 := HU7.out.box.cell 0
            have z1 := HU7.out.box.cell 1
            have z2 := HU7.out.box.cell 2
            have z3 := HU7.out.box.cell 3
            have z4 := HU7.out.box.cell 4
            have zf := fun o => HU7.out.box.free o
            have zl := HU7.out.box.lt
            obtain ⟨n1, n2, n3⟩ := HU7.out.ne
            have hfin := (HU7.out.gt.set 2 (.int .i64 14))
            have hgr := grown_set (grown_refl w7 (some p)) 2 (.int .i64 14)
            have HU8 := Lib.hid (HU7.out.err (e2 := 14) hfin hgr)
            clear hfin hgr
            have ec := gend_any p b1 c.length c1 at2 14 _ HU8.out.gt
            rw [show gend c.length at2 14 = 14 from by unfold gend; rw [if_neg (fun q => by cases q.1)]] at ec
            have EC := Lib.hid ec
            clear ec
            go_wp2_with fail
            with_reducible refine (EC.out).mono ?_
            rintro e w9 ⟨rfl, hg9, hgr9⟩
            have HU9 := Lib.hid (HU8.out.err hg9 hgr9)
            clear hg9 hgr9
            clear g2 gf gl m0 m1 m2 m3 m4 z0 z1 z2 z3 z4 zf zl n1 n2 n3
            have g2 := HU9.out.gt.cell 2
            have gf := fun o => HU9.out.gt.free o
            have gl := HU9.out.gt.lt
            have m0 := HU9.out.pk.cell 0
            have m1 := HU9.out.pk.cell 1
            have m2 := HU9.out.pk.cell 2
            have m3 := HU9.out.pk.cell 3
            have m4 := HU9.out.pk.cell 4
            have z0 := HU9.out.box.cell 0
            have z1 := HU9.out.box.cell 1
            have z2 := HU9.out.box.cell 2
            have z3 := HU9.out.box.cell 3
            have z4 := HU9.out.box.cell 4
            have zf := fun o => HU9.out.box.free o
            have zl := HU9.out.box.lt
            obtain ⟨n1, n2, n3⟩ := HU9.out.ne
            go_wp2
            exact bodyPost_ret (v := .tuple #[.agg #[.int .i64 0, .int .i64 0, .int .i64 0, .int .i64 0, .slice none 0 0], .int .i64 14]) (by unfold results; rw [Try.results15]; go_simp) rfl ⟨_, rfl, Ow.nil _ _, (((((HU9.out.below.setCell (p := ⟨w.heap.size, 0, none⟩) (Nat.le_refl _) _).setCell (p := ⟨w.heap.size, 1, none⟩) (Nat.le_refl _) _).setCell (p := ⟨w.heap.size, 2, none⟩) (Nat.le_refl _) _).setCell (p := ⟨w.heap.size, 3, none⟩) (Nat.le_refl _) _).setCell (p := ⟨w.heap.size, 4, none⟩) (Nat.le_refl _) _)⟩
          | true =>
            by_cases hat : at2 < c.length
            · obtain ⟨rfl, rfl, rfl, rfl, rfl, rfl⟩ : F = 0 ∧ L = 0 ∧ S = 0 ∧ A = 0 ∧ D = [] ∧ E = 10 := by have h := hF.out.symm.trans (FC.out.2.2.1 rfl hrb hat); simpa using h
              rw [hrb] at cr
              have CR := Lib.hid cr
              clear hrb cr hF FC
              have g2 := HU.out.gt.cell 2
              have gf := fun o => HU.out.gt.free o
              have gl := HU.out.gt.lt
              have m0 := HU.out.pk.cell 0
              have m1 := HU.out.pk.cell 1
              have m2 := HU.out.pk.cell 2
              have m3 := HU.out.pk.cell 3
              have m4 := HU.out.pk.cell 4
              have z0 := HU.out.box.cell 0
              have z1 := HU.out.box.cell 1
              have z2 := HU.out.box.cell 2
              have z3 := HU.out.box.cell 3
              have z4 := HU.out.box.cell 4
              have zf := fun o => HU.out.box.free o
              have zl := HU.out.box.lt
              obtain ⟨n1, n2, n3⟩ := HU.out.ne
              go_wp2_with fail
              with_reducible refine (CR.out _).mono ?_
              rintro e w7 ⟨rfl, hb7⟩
              have HU7 := Lib.hid (HU.out.below_ hb7)
              clear hb7
              clear g2 gf gl m0 m1 m2 m3 m4 z0 z1 z2 z3 z4 zf zl n1 n2 n3
              have g2 := HU7.out.gt.cell 2
              have gf := fun o => HU7.out.gt.free o
              have gl := HU7.out.gt.lt
              have m0 := HU7.out.pk.cell 0
              have m1 := HU7.out.pk.cell 1
              have m2 := HU7.out.pk.cell 2
              have m3 := HU7.out.pk.cell 3
              have m4 := HU7.out.pk.cell 4
              have z0 := HU7.out.box.cell 0
              have z1 := HU7.out.box.cell 1
              have z2 := HU7.out.box.cell 2
              have z3 := HU7.out.box.cell 3
              have z4 := HU7.out.box.cell 4
              have zf := fun o => HU7.out.box.free o
              have zl := HU7.out.box.lt
              obtain ⟨n1, n2, n3⟩ := HU7.out.ne
              have ec := gend_any p b1 c.length c1 at2 0 _ HU7.out.gt
              rw [show gend c.length at2 0 = 10 from by unfold gend; rw [if_pos ⟨rfl, hat⟩]] at ec
              have EC := Lib.hid ec
              clear ec
              go_wp2_with fail
              with_reducible refine (EC.out).mono ?_
              rintro e w9 ⟨rfl, hg9, hgr9⟩
              have HU9 := Lib.hid (HU7.out.err hg9 hgr9)
              clear hg9 hgr9
              clear g2 gf gl m0 m1 m2 m3 m4 z0 z1 z2 z3 z4 zf zl n1 n2 n3
              have g2 := HU9.out.gt.cell 2
              have gf := fun o => HU9.out.gt.free o
              have gl := HU9.out.gt.lt
              have m0 := HU9.out.pk.cell 0
              have m1 := HU9.out.pk.cell 1
              have m2 := HU9.out.pk.cell 2
              have m3 := HU9.out.pk.cell 3
              have m4 := HU9.out.pk.cell 4
              have z0 := HU9.out.box.cell 0
              have z1 := HU9.out.box.cell 1
              have z2 := HU9.out.box.cell 2
              have z3 := HU9.out.box.cell 3
              have z4 := HU9.out.box.cell 4
              have zf := fun o => HU9.out.box.free o
              have zl := HU9.out.box.lt
              obtain ⟨n1, n2, n3⟩ := HU9.out.ne
              go_wp2
              exact bodyPost_ret (v := .tuple #[.agg #[.int .i64 0, .int .i64 0, .int .i64 0, .int .i64 0, .slice none 0 0], .int .i64 10]) (by unfold results; rw [Try.results15]; go_simp) rfl ⟨_, rfl, Ow.nil _ _, (((((HU9.out.below.setCell (p := ⟨w.heap.size, 0, none⟩) (Nat.le_refl _) _).setCell (p := ⟨w.heap.size, 1, none⟩) (Nat.le_refl _) _).setCell (p := ⟨w.heap.size, 2, none⟩) (Nat.le_refl _) _).setCell (p := ⟨w.heap.size, 3, none⟩) (Nat.le_refl _) _).setCell (p := ⟨w.heap.size, 4, none⟩) (Nat.le_refl _) _)⟩
            · obtain ⟨rfl, rfl, rfl, rfl, rfl, rfl⟩ : F = a0 ∧ L = a1 ∧ S = a2 ∧ A = a3 ∧ D = d ∧ E = 0 := by have h := hF.out.symm.trans (FC.out.2.2.2 rfl hrb hat); simpa using h
              rw [hrb] at cr
              have CR := Lib.hid cr
              clear hrb cr hF FC
              have g2 := HU.out.gt.cell 2
              have gf := fun o => HU.out.gt.free o
              have gl := HU.out.gt.lt
              have m0 := HU.out.pk.cell 0
              have m1 := HU.out.pk.cell 1
              have m2 := HU.out.pk.cell 2
              have m3 := HU.out.pk.cell 3
              have m4 := HU.out.pk.cell 4
              have z0 := HU.out.box.cell 0
              have z1 := HU.out.box.cell 1
              have z2 := HU.out.box.cell 2
              have z3 := HU.out.box.cell 3
              have z4 := HU.out.box.cell 4
              have zf := fun o => HU.out.box.free o
              have zl := HU.out.box.lt
              obtain ⟨n1, n2, n3⟩ := HU.out.ne
              go_wp2_with fail
              with_reducible refine (CR.out _).mono ?_
              rintro e w7 ⟨rfl, hb7⟩
              have HU7 := Lib.hid (HU.out.below_ hb7)
              clear hb7
              clear g2 gf gl m0 m1 m2 m3 m4 z0 z1 z2 z3 z4 zf zl n1 n2 n3
              have g2 := HU7.out.gt.cell 2
              have gf := fun o => HU7.out.gt.free o
              have gl := HU7.out.gt.lt
              have m0 := HU7.out.pk.cell 0
              have m1 := HU7.out.pk.cell 1
              have m2 := HU7.out.pk.cell 2
              have m3 := HU7.out.pk.cell 3
              have m4 := HU7.out.pk.cell 4
              have z0 := HU7.out.box.cell 0
              have z1 := HU7.out.box.cell 1
              have z2 := HU7.out.box.cell 2
              have z3 := HU7.out.box.cell 3
              have z4 := HU7.out.box.cell 4
              have zf := fun o => HU7.out.box.free o
              have zl := HU7.out.box.lt
              obtain ⟨n1, n2, n3⟩ := HU7.out.ne
              have ec := gend_any p b1 c.length c1 at2 0 _ HU7.out.gt
              rw [show gend c.length at2 0 = 0 from by unfold gend; rw [if_neg (fun q => hat q.2)]] at ec
              have EC := Lib.hid ec
              clear ec
              go_wp2_with fail
              with_reducible refine (EC.out).mono ?_
              rintro e w9 ⟨rfl, hg9, hgr9⟩
              have HU9 := Lib.hid (HU7.out.err hg9 hgr9)
              clear hg9 hgr9
              clear g2 gf gl m0 m1 m2 m3 m4 z0 z1 z2 z3 z4 zf zl n1 n2 n3
              have g2 := HU9.out.gt.cell 2
              have gf := fun o => HU9.out.gt.free o
              have gl := HU9.out.gt.lt
              have m0 := HU9.out.pk.cell 0
              have m1 := HU9.out.pk.cell 1
              have m2 := HU9.out.pk.cell 2
              have m3 := HU9.out.pk.cell 3
              have m4 := HU9.out.pk.cell 4
              have z0 := HU9.out.box.cell 0
              have z1 := HU9.out.box.cell 1
              have z2 := HU9.out.box.cell 2
              have z3 := HU9.out.box.cell 3
              have z4 := HU9.out.box.cell 4
              have zf := fun o => HU9.out.box.free o
              have zl := HU9.out.box.lt
              obtain ⟨n1, n2, n3⟩ := HU9.out.ne
              go_wp2
              exact bodyPost_ret (v := .tuple #[.agg #[.int .i64 F, .int .i64 L, .int .i64 S, .int .i64 A, .slice b5 D.length c5], .int .i64 0]) (by unfold results; rw [Try.results15]; go_simp) rfl ⟨_, rfl, own_kept (HU9.out.own.mono (Nat.le_succ _)) (grown_set (grown_set (grown_set (grown_set (grown_set (grown_refl w9 (some w.heap.size)) 0 _) 1 _) 2 _) 3 _) 4 _) (fun k hk e => by have h1 := (HU9.out.own.lt k hk).1; have h2 := Option.some.inj e; omega), (((((HU9.out.below.setCell (p := ⟨w.heap.size, 0, none⟩) (Nat.le_refl _) _).setCell (p := ⟨w.heap.size, 1, none⟩) (Nat.le_refl _) _).setCell (p := ⟨w.heap.size, 2, none⟩) (Nat.le_refl _) _).setCell (p := ⟨w.heap.size, 3, none⟩) (Nat.le_refl _) _).setCell (p := ⟨w.heap.size, 4, none⟩) (Nat.le_refl _) _)⟩
        · obtain ⟨rfl, rfl, rfl, rfl, rfl, rfl⟩ : F = 0 ∧ L = 0 ∧ S = 0 ∧ A = 0 ∧ D = [] ∧ E = e1 := by have h := hF.out.symm.trans (FC.out.1 he); simpa using h
          have he1 : ((E : Int) == 0) = false := bneI (by omega)
          have he2 : ((E : Int) != 0) = true := by rw [bne_iff_ne]; omega
          clear hF FC
          have g2 := HU.out.gt.cell 2
          have gf := fun o => HU.out.gt.free o
          have gl := HU.out.gt.lt
          have m0 := HU.out.pk.cell 0
          have m1 := HU.out.pk.cell 1
          have m2 := HU.out.pk.cell 2
          have m3 := HU.out.pk.cell 3
          have m4 := HU.out.pk.cell 4
          have z0 := HU.out.box.cell 0
          have z1 := HU.out.box.cell 1
          have z2 := HU.out.box.cell 2
          have z3 := HU.out.box.cell 3
          have z4 := HU.out.box.cell 4
          have zf := fun o => HU.out.box.free o
          have zl := HU.out.box.lt
          obtain ⟨n1, n2, n3⟩ := HU.out.ne
          have ec := gend_any p b1 c.length c1 at2 E _ HU.out.gt
          rw [show gend c.length at2 E = E from by unfold gend; rw [if_neg (fun q => he q.1)]] at ec
          have EC := Lib.hid ec
          clear ec
          go_wp2_with fail
          with_reducible refine (EC.out).mono ?_
          rintro e w9 ⟨rfl, hg9, hgr9⟩
          have HU9 := Lib.hid (HU.out.err hg9 hgr9)
          clear hg9 hgr9
          clear g2 gf gl m0 m1 m2 m3 m4 z0 z1 z2 z3 z4 zf zl n1 n2 n3
          have g2 := HU9.out.gt.cell 2
          have gf := fun o => HU9.out.gt.free o
          have gl := HU9.out.gt.lt
          have m0 := HU9.out.pk.cell 0
          have m1 := HU9.out.pk.cell 1
          have m2 := HU9.out.pk.cell 2
          have m3 := HU9.out.pk.cell 3
          have m4 := HU9.out.pk.cell 4
          have z0 := HU9.out.box.cell 0
          have z1 := HU9.out.box.cell 1
          have z2 := HU9.out.box.cell 2
          have z3 := HU9.out.box.cell 3
          have z4 := HU9.out.box.cell 4
          have zf := fun o => HU9.out.box.free o
          have zl := HU9.out.box.lt
          obtain ⟨n1, n2, n3⟩ := HU9.out.ne
          go_wp2
          exact bodyPost_ret (v := .tuple #[.agg #[.int .i64 0, .int .i64 0, .int .i64 0, .int .i64 0, .slice none 0 0], .int .i64 E]) (by unfold results; rw [Try.results15]; go_simp) rfl ⟨_, rfl, Ow.nil _ _, (((((HU9.out.below.setCell (p := ⟨w.heap.size, 0, none⟩) (Nat.le_refl _) _).setCell (p := ⟨w.heap.size, 1, none⟩) (Nat.le_refl _) _).setCell (p := ⟨w.heap.size, 2, none⟩) (Nat.le_refl _) _).setCell (p := ⟨w.heap.size, 3, none⟩) (Nat.le_refl _) _).setCell (p := ⟨w.heap.size, 4, none⟩) (Nat.le_refl _) _)⟩
end Go.Proofs.Ytgamhgeiceakeaa
/- package frame: a packet that was packed comes back. -/
set_option linter.unusedVariables false
namespace Go.Proofs.Ytgamhgeiceakeaa
open Go.RowKit
theorem gnum_at (c : List UInt8) (at' n : Nat) (r : List UInt8) (hn : n < 18446744073709551616) (h : c.drop at' = By.uv n ++ r) : gnum c at' 0 = (n, at' + (By.uv n).length, 0) ∧ c.drop (at' + (By.uv n).length) = r := by
  refine ⟨?_, ?_⟩
  · unfold gnum
    rw [if_neg (by simp), h, By.gu_uv n hn r]
    rfl
  · rw [← List.drop_drop, h, List.drop_left]
theorem gs_step (c : List UInt8) (j at' n : Nat) (r : List UInt8) (hs : gs c j = (at', 0)) (hn : n ≤ 4611686018427387904) (h : c.drop at' = By.uv n ++ r) : gs c (j + 1) = (at' + (By.uv n).length, 0) ∧ gx c j = n ∧ c.drop (at' + (By.uv n).length) = r := by
  obtain ⟨g1, g2⟩ := gnum_at c at' n r (by omega) h
  have e1 : gs c (j + 1) = ((gnum c (gs c j).1 (gs c j).2).2.1, gtop (gnum c (gs c j).1 (gs c j).2).1 (gnum c (gs c j).1 (gs c j).2).2.2) := rfl
  have e2 : gx c j = (gnum c (gs c j).1 (gs c j).2).1 := rfl
  rw [hs] at e1 e2
  simp only at e1 e2
  rw [g1] at e1 e2
  simp only at e1 e2
  refine ⟨?_, e2, g2⟩
  rw [e1]
  unfold gtop
  rw [if_neg (fun q => by omega)]
theorem fin_pk (p : By.Pk) (hp : p.right) : fin (By.pk p) = ((p.fr : Int), (p.life : Int), (p.seq : Int), (p.ack : Int), p.data, 0) := by
  obtain ⟨p1, p2, p3, p4, p5, p6⟩ := hp
  unfold By.top at p1 p2 p3 p4
  have h0 : gs (By.pk p) 0 = (0, 0) := rfl
  obtain ⟨s1, x0, d1⟩ := gs_step (By.pk p) 0 0 p.fr _ h0 p1 (by unfold By.pk; rfl)
  obtain ⟨s2, x1, d2⟩ := gs_step (By.pk p) 1 _ p.life _ s1 p2 d1
  obtain ⟨s3, x2, d3⟩ := gs_step (By.pk p) 2 _ p.seq _ s2 p3 d2
  obtain ⟨s4, x3, d4⟩ := gs_step (By.pk p) 3 _ p.ack _ s3 p4 d3
  have hb := By.getBlob_blob 1048576 p.data [] p5 (by omega)
  rw [List.append_nil] at hb
  have hlen : (By.pk p).length = 0 + (By.uv p.fr).length + (By.uv p.life).length + (By.uv p.seq).length + (By.uv p.ack).length + (By.blob p.data).length := by
    unfold By.pk; simp only [List.length_append]; omega
  have hbl : bl4 (By.pk p) = (p.data, 0 + (By.uv p.fr).length + (By.uv p.life).length + (By.uv p.seq).length + (By.uv p.ack).length + (By.blob p.data).length, 0) := by
    rw [bl4_eq, s4]
    unfold gblob
    simp only
    rw [if_neg (by simp), d4, hb]
    simp
  have hw : ∀ n : Nat, n ≤ 4611686018427387904 → IntKind.i64.wrap (n : Int) = (n : Int) := fun n h => IntWalk.i64_in _ (by omega)
  have hr : rightB (p.fr : Int) (p.life : Int) (p.seq : Int) (p.ack : Int) p.data.length = true := by
    unfold rightB
    rw [(okN_iff _).2 (by omega), (okN_iff _).2 (by omega), (okN_iff _).2 (by omega), (okN_iff _).2 (by omega)]
    rcases p6 with h | h
    · simp [p5, h]
    · simp [h]
  exact (fin_cases (By.pk p) p.data _ 0 p.fr p.life p.seq p.ack (by rw [x0, hw _ p1]) (by rw [x1, hw _ p2]) (by rw [x2, hw _ p3]) (by rw [x3, hw _ p4]) hbl).2.2.2 rfl hr (by rw [hlen]; omega)
theorem unpack_packed (ba : Option Addr) (n cap : Nat) (p : By.Pk) (w : World) (hp : p.right) (hn : (By.pack p).length = n) (hr : Rd w ba (By.pack p)) (hb : ba = none → n = 0) (hc : n ≤ cap) :
    Calls Try.prog 15 #[.slice ba n cap] w (UnpPost p.fr p.life p.seq p.ack p.data 0 w) := by
  have hl := By.pk_len p
  have h5 := hp.2.2.2.2.1
  exact unpack_body ba n cap (By.pack p) (By.pk p) _ _ _ _ _ _ w hn hr hb (by rw [← hn]; unfold By.pack; rw [By.shut_len]; omega) hc ⟨By.open_shut _⟩ ⟨fin_pk p hp⟩
end Go.Proofs.Ytgamhgeiceakeaa
/- Messages as plain data: their bytes, what bytes say. No program stands here. -/
set_option linter.unusedVariables false
set_option linter.unusedSimpArgs false
namespace Go.Proofs.Ytgamhgeiceakeaa
namespace Me
open By (Bs)
open Va (V)
structure Ms where
  kind : Nat
  nums : List Int
  vals : List V
  blobs : List Bs
def numB (n : Int) : Bs := By.uv (Va.zg n)
def body (m : Ms) : Bs := UInt8.ofNat m.kind :: (By.uv m.nums.length ++ (m.nums.flatMap numB ++ (By.uv m.vals.length ++ (Va.encL m.vals ++ (By.uv m.blobs.length ++ m.blobs.flatMap By.blob)))))
def right (m : Ms) : Bool := decide (m.nums.length ≤ 64) && (decide (m.vals.length ≤ 64) && (decide (m.blobs.length ≤ 16) && (m.vals.all Va.right && (m.blobs.all (fun b => decide (b.length ≤ 65536)) && decide ((body m).length + 4 ≤ 1048576)))))
def put (m : Ms) : Bs × Nat := if right m then (By.shut (body m), 0) else ([], 14)
/-- its numbers have room -/
structure Wf (m : Ms) : Prop where
  kind : m.kind < 256
  nums : ∀ n ∈ m.nums, Va.I64 n
  vals : ∀ v ∈ m.vals, Va.wf v
/-- what stands at a place: it, and the place behind -/
abbrev At (α : Type) := Nat → Except Nat (α × Nat)
def num (b : Bs) : At Int := fun at' => if (By.gu (b.drop at')).2.2 ≠ 0 then .error (By.gu (b.drop at')).2.2 else .ok (Va.ung (By.gu (b.drop at')).1, at' + (By.gu (b.drop at')).2.1)
def val (b : Bs) : At V := fun at' => match Va.get b at' with
  | .error e => .error e
  | .ok (v, at2, _) => .ok (v, at2)
def blb (b : Bs) : At Bs := fun at' => if (By.getBlob 65536 (b.drop at')).2.2 ≠ 0 then .error (By.getBlob 65536 (b.drop at')).2.2 else .ok ((By.getBlob 65536 (b.drop at')).1, at' + (By.getBlob 65536 (b.drop at')).2.1)
def lst {α : Type} (one : At α) : Nat → Nat → List α → Except Nat (List α × Nat)
  | 0, at', acc => .ok (acc, at')
  | n + 1, at', acc => match one at' with
    | .error e => .error e
    | .ok (x, at2) => lst one n at2 (acc ++ [x])
def many {α : Type} (b : Bs) (most : Nat) (one : At α) : At (List α) := fun at' =>
  if (By.gu (b.drop at')).2.2 ≠ 0 then .error (By.gu (b.drop at')).2.2 else if most < (By.gu (b.drop at')).1 then .error 14 else lst one (By.gu (b.drop at')).1 (at' + (By.gu (b.drop at')).2.1) []
def get (b : Bs) : Except Nat Ms := match b with
  | [] => .error 11
  | k :: _ => match many b 64 (num b) 1 with
    | .error e => .error e
    | .ok (ns, a1) => match many b 64 (val b) a1 with
      | .error e => .error e
      | .ok (vs, a2) => match many b 16 (blb b) a2 with
        | .error e => .error e
        | .ok (bs, a3) => if a3 < b.length then .error 10 else .ok ⟨k.toNat, ns, vs, bs⟩
/-- what one tells of any bytes was put so -/
def Told {α : Type} (b : Bs) (one : At α) (put1 : α → Bs) (ok : α → Prop) : Prop := ∀ at' x at2, at' ≤ b.length → one at' = .ok (x, at2) → at' ≤ at2 ∧ at2 ≤ b.length ∧ put1 x = (b.drop at').take (at2 - at') ∧ ok x
/-- what was put is told -/
def Tells {α : Type} (b : Bs) (one : At α) (put1 : α → Bs) (ok : α → Prop) : Prop := ∀ at' x r, ok x → b.drop at' = put1 x ++ r → one at' = .ok (x, at' + (put1 x).length)
theorem lst_told {α : Type} {b : Bs} {one : At α} {put1 : α → Bs} {ok : α → Prop} (h : Told b one put1 ok) : ∀ (n at' : Nat) (acc l : List α) (at2 : Nat), at' ≤ b.length → lst one n at' acc = .ok (l, at2) →
    ∃ l', l = acc ++ l' ∧ l'.length = n ∧ at' ≤ at2 ∧ at2 ≤ b.length ∧ l'.flatMap put1 = (b.drop at').take (at2 - at') ∧ ∀ x ∈ l', ok x
  | 0, at', acc, l, at2, ha, hl => by
    unfold lst at hl
    cases hl
    exact ⟨[], by simp, rfl, Nat.le_refl _, ha, by simp, fun x hx => by cases hx⟩
  | n + 1, at', acc, l, at2, ha, hl => by
    unfold lst at hl
    split at hl
    · cases hl
    · rename_i x a hx
      obtain ⟨h1, h2, h3, h4⟩ := h at' x a ha hx
      obtain ⟨l', e, e2, e3, e4, e5, e6⟩ := lst_told h n a _ l at2 h2 hl
      refine ⟨x :: l', by rw [e, List.append_assoc]; rfl, by rw [List.length_cons, e2], by omega, e4, ?_, fun y hy => ?_⟩
      · rw [List.flatMap_cons, h3, e5]
        exact (Va.drop_take_add b at' a at2 h1 e3).symm
      · rcases List.mem_cons.1 hy with rfl | hy
        · exact h4
        · exact e6 y hy
theorem lst_tells {α : Type} {b : Bs} {one : At α} {put1 : α → Bs} {ok : α → Prop} (h : Tells b one put1 ok) : ∀ (l : List α) (at' : Nat) (acc : List α) (r : Bs), (∀ x ∈ l, ok x) → b.drop at' = l.flatMap put1 ++ r →
    lst one l.length at' acc = .ok (acc ++ l, at' + (l.flatMap put1).length)
  | [], at', acc, r, _, _ => by unfold lst; simp
  | x :: l, at', acc, r, ho, hd => by
    rw [List.flatMap_cons, List.append_assoc] at hd
    have h1 := h at' x _ (ho x (List.mem_cons_self ..)) hd
    have h2 : b.drop (at' + (put1 x).length) = l.flatMap put1 ++ r := by
      rw [← List.drop_drop, hd, List.drop_left']
      rfl
    have h3 := lst_tells h l (at' + (put1 x).length) (acc ++ [x]) r (fun y hy => ho y (List.mem_cons_of_mem _ hy)) h2
    rw [List.length_cons]
    unfold lst
    rw [h1]
    simp only
    rw [h3, List.flatMap_cons, List.length_append, List.append_assoc, Nat.add_assoc]
    rfl
theorem many_told {α : Type} {b : Bs} {one : At α} {put1 : α → Bs} {ok : α → Prop} (most : Nat) (h : Told b one put1 ok) (at' : Nat) (l : List α) (at2 : Nat) (ha : at' ≤ b.length) (hm : many b most one at' = .ok (l, at2)) :
    at' ≤ at2 ∧ at2 ≤ b.length ∧ l.length ≤ most ∧ (∀ x ∈ l, ok x) ∧ By.uv l.length ++ l.flatMap put1 = (b.drop at').take (at2 - at') := by
  unfold many at hm
  rcases hg : By.gu (b.drop at') with ⟨n, c, e⟩
  rw [hg] at hm
  simp only at hm
  split at hm
  · cases hm
  · rename_i he
    have he : e = 0 := by omega
    subst he
    split at hm
    · cases hm
    · rename_i hn
      obtain ⟨g1, g2, g3, g4⟩ := Va.gu_inv _ n c hg
      rw [List.length_drop] at g2
      obtain ⟨l', e1, e2, e3, e4, e5, e6⟩ := lst_told h n (at' + c) [] l at2 (by omega) hm
      rw [List.nil_append] at e1
      subst e1
      refine ⟨by omega, e4, by omega, e6, ?_⟩
      rw [e2, g1, e5, Va.drop_take_add b at' (at' + c) at2 (by omega) e3, Nat.add_sub_cancel_left]
theorem many_tells {α : Type} {b : Bs} {one : At α} {put1 : α → Bs} {ok : α → Prop} (most : Nat) (h : Tells b one put1 ok) (l : List α) (at' : Nat) (r : Bs) (ho : ∀ x ∈ l, ok x) (hl : l.length ≤ most) (h64 : most < 18446744073709551616)
    (hd : b.drop at' = By.uv l.length ++ (l.flatMap put1 ++ r)) : many b most one at' = .ok (l, at' + (By.uv l.length ++ l.flatMap put1).length) := by
  unfold many
  rw [hd, By.gu_uv _ (by omega)]
  simp only
  rw [if_neg (by simp), if_neg (by omega)]
  have h2 : b.drop (at' + (By.uv l.length).length) = l.flatMap put1 ++ r := by
    rw [← List.drop_drop, hd, List.drop_left']
    rfl
  have h3 := lst_tells h l _ [] r ho h2
  rw [List.nil_append] at h3
  rw [h3, List.length_append, Nat.add_assoc]
theorem num_told (b : Bs) : Told b (num b) numB Va.I64 := fun at' x at2 ha h => by
  unfold num at h
  rcases hg : By.gu (b.drop at') with ⟨n, c, e⟩
  rw [hg] at h
  simp only at h
  split at h
  · cases h
  · rename_i he
    have he : e = 0 := by omega
    subst he
    cases h
    obtain ⟨g1, g2, g3, g4⟩ := Va.gu_inv _ n c hg
    rw [List.length_drop] at g2
    refine ⟨by omega, by omega, ?_, Va.ung_64 g4⟩
    unfold numB
    rw [Va.zg_ung, g1, Nat.add_sub_cancel_left]
theorem num_tells (b : Bs) : Tells b (num b) numB Va.I64 := fun at' x r ho hd => by
  unfold num
  unfold numB at hd ⊢
  rw [hd, By.gu_uv _ (Va.zg_lt ho)]
  simp only
  rw [if_neg (by simp), Va.ung_zg]
theorem val_told (b : Bs) : Told b (val b) Va.enc (fun v => Va.right v = true) := fun at' x at2 ha h => by
  unfold val at h
  split at h
  · cases h
  · rename_i v a f hg
    cases h
    obtain ⟨h1, h2, h3, h4⟩ := Va.get_right b at' x at2 f ha hg
    exact ⟨by omega, h3, h4, h1⟩
theorem val_tells (b : Bs) : Tells b (val b) Va.enc (fun v => Va.right v = true ∧ Va.wf v) := fun at' x r ho hd => by
  unfold val
  rw [Va.get_enc x b at' r ho.1 ho.2 hd]
theorem blb_told (b : Bs) : Told b (blb b) By.blob (fun l => l.length ≤ 65536) := fun at' x at2 ha h => by
  unfold blb at h
  rcases hg : By.getBlob 65536 (b.drop at') with ⟨d, c, e⟩
  rw [hg] at h
  simp only at h
  split at h
  · cases h
  · rename_i he
    have he : e = 0 := by omega
    subst he
    cases h
    obtain ⟨g1, g2, g3, g4⟩ := Va.getBlob_inv _ _ _ _ hg
    rw [List.length_drop] at g2
    exact ⟨by omega, by omega, by rw [g1, Nat.add_sub_cancel_left], g3⟩
theorem blb_tells (b : Bs) : Tells b (blb b) By.blob (fun l => l.length ≤ 65536) := fun at' x r ho hd => by
  unfold blb
  rw [hd, By.getBlob_blob 65536 x r ho (by omega)]
  simp only
  rw [if_neg (by simp)]
theorem encL_flat (l : List V) : Va.encL l = l.flatMap Va.enc := by
  induction l with
  | nil => rfl
  | cons v l ih => show Va.enc v ++ Va.encL l = _; rw [ih, List.flatMap_cons]
theorem right_iff (m : Ms) : right m = true ↔ m.nums.length ≤ 64 ∧ m.vals.length ≤ 64 ∧ m.blobs.length ≤ 16 ∧ (∀ v ∈ m.vals, Va.right v = true) ∧ (∀ b ∈ m.blobs, b.length ≤ 65536) ∧ (body m).length + 4 ≤ 1048576 := by
  unfold right
  simp only [Bool.and_eq_true, decide_eq_true_eq, List.all_eq_true]
/-- what was put is got -/
theorem get_body (m : Ms) (h : right m = true) (hw : Wf m) : get (body m) = .ok m := by
  obtain ⟨r1, r2, r3, r4, r5, r6⟩ := (right_iff m).1 h
  have hb : body m = UInt8.ofNat m.kind :: (By.uv m.nums.length ++ (m.nums.flatMap numB ++ (By.uv m.vals.length ++ (m.vals.flatMap Va.enc ++ (By.uv m.blobs.length ++ (m.blobs.flatMap By.blob ++ [])))))) := by
    unfold body; rw [encL_flat, List.append_nil]
  generalize body m = b at hb ⊢
  have d0 : b.drop 1 = By.uv m.nums.length ++ (m.nums.flatMap numB ++ (By.uv m.vals.length ++ (m.vals.flatMap Va.enc ++ (By.uv m.blobs.length ++ (m.blobs.flatMap By.blob ++ []))))) := by rw [hb]; rfl
  have t1 := many_tells 64 (num_tells b) m.nums 1 _ hw.nums r1 (by decide) d0
  have d1 : b.drop (1 + (By.uv m.nums.length ++ m.nums.flatMap numB).length) = By.uv m.vals.length ++ (m.vals.flatMap Va.enc ++ (By.uv m.blobs.length ++ (m.blobs.flatMap By.blob ++ []))) := by
    rw [← List.drop_drop, d0, ← List.append_assoc, List.drop_left']; rfl
  have t2 := many_tells 64 (val_tells b) m.vals _ _ (fun v hv => ⟨r4 v hv, hw.vals v hv⟩) r2 (by decide) d1
  have d2 : b.drop (1 + (By.uv m.nums.length ++ m.nums.flatMap numB).length + (By.uv m.vals.length ++ m.vals.flatMap Va.enc).length) = By.uv m.blobs.length ++ (m.blobs.flatMap By.blob ++ []) := by
    rw [← List.drop_drop, d1, ← List.append_assoc, List.drop_left']; rfl
  have t3 := many_tells 16 (blb_tells b) m.blobs _ _ r5 r3 (by decide) d2
  have hl : ¬ (1 + (By.uv m.nums.length ++ m.nums.flatMap numB).length + (By.uv m.vals.length ++ m.vals.flatMap Va.enc).length + (By.uv m.blobs.length ++ m.blobs.flatMap By.blob).length < b.length) := by
    rw [hb]; simp only [List.length_cons, List.length_append, List.length_nil]; omega
  have hk : (UInt8.ofNat m.kind).toNat = m.kind := by rw [UInt8.toNat_ofNat']; have := hw.kind; omega
  rw [hb] at t1 t2 t3 hl ⊢
  unfold get
  simp only
  rw [t1]
  simp only
  rw [t2]
  simp only
  rw [t3]
  simp only
  rw [if_neg hl, hk]
/-- what is got was put so -/
theorem get_told (b : Bs) (m : Ms) (h : get b = .ok m) : body m = b ∧ m.nums.length ≤ 64 ∧ m.vals.length ≤ 64 ∧ m.blobs.length ≤ 16 ∧ (∀ v ∈ m.vals, Va.right v = true) ∧ (∀ l ∈ m.blobs, l.length ≤ 65536) ∧ m.kind < 256 ∧ ∀ n ∈ m.nums, Va.I64 n := by
  unfold get at h
  split at h
  · cases h
  · rename_i k r
    split at h
    · cases h
    · rename_i ns a1 h1
      split at h
      · cases h
      · rename_i vs a2 h2
        split at h
        · cases h
        · rename_i bs a3 h3
          split at h
          · cases h
          · rename_i hl
            cases h
            obtain ⟨p1, p2, p3, p4, p5⟩ := many_told 64 (num_told (k :: r)) 1 ns a1 (by simp) h1
            obtain ⟨q1, q2, q3, q4, q5⟩ := many_told 64 (val_told (k :: r)) a1 vs a2 p2 h2
            obtain ⟨u1, u2, u3, u4, u5⟩ := many_told 16 (blb_told (k :: r)) a2 bs a3 q2 h3
            refine ⟨?_, p3, q3, u3, q4, u4, k.toNat_lt, p4⟩
            unfold body
            simp only
            have e3 : a3 = (k :: r).length := by omega
            have hko : UInt8.ofNat k.toNat = k := by simp
            rw [encL_flat, u5, ← List.append_assoc (By.uv vs.length), q5, ← Va.drop_take_add (k :: r) a1 a2 a3 q1 u1, ← List.append_assoc, p5, ← Va.drop_take_add (k :: r) 1 a1 a3 p1 (by omega), hko, e3]
            congr 1
            show r.take _ = r
            rw [List.take_of_length_le (by simp)]
theorem get_right (b : Bs) (m : Ms) (h : get b = .ok m) (hb : b.length + 4 ≤ 1048576) : right m = true ∧ body m = b := by
  obtain ⟨h1, h2, h3, h4, h5, h6, _⟩ := get_told b m h
  exact ⟨(right_iff m).2 ⟨h2, h3, h4, h5, h6, by rw [h1]; exact hb⟩, h1⟩
end Me
end Go.Proofs.Ytgamhgeiceakeaa
/- Messages in memory. -/
set_option linter.unusedVariables false
set_option linter.unusedSimpArgs false
namespace Go.Proofs.Ytgamhgeiceakeaa
open Go.RowKit
open By (Bs)
open Va (V)
open Me (Ms)
/-- a slice of bytes that reads as l -/
structure Bt (w : World) (l : Bs) (x : Value) : Prop where
  ex : ∃ (ba : Option Addr) (cap : Nat), x = .slice ba l.length cap ∧ Rd w ba l ∧ (ba = none → l.length = 0) ∧ l.length ≤ cap ∧ cap ≤ maxLen
theorem Bt.past {w w' : World} {l : Bs} {x : Value} (h : Bt w l x) (hb : Below w.heap.size w w') : Bt w' l x := by
  obtain ⟨ba, cap, e, h1, h2⟩ := h.ex
  exact ⟨ba, cap, e, h1.below hb, h2⟩
/-- a list of numbers -/
structure RN (ok : Nat → Prop) (w : World) (l : List Int) (ba : Option Addr) (cap : Nat) : Prop where
  le : l.length ≤ cap
  max : cap ≤ maxLen
  nil : ba = none → l.length = 0
  at_ : ∀ i (h : i < l.length), ∃ b o, ba = some (⟨b, o, none⟩ : Addr) ∧ ok b ∧ b < w.heap.size ∧ w.cell? ⟨b, o + i, none⟩ = some (.int .i64 l[i])
theorem cell_past {w w' : World} {b o : Nat} {u : Value} (hb : Below w.heap.size w w') (hlt : b < w.heap.size) (h : w.cell? ⟨b, o, none⟩ = some u) : w'.cell? ⟨b, o, none⟩ = some u := by
  rw [World.cell?_of_block (w := w) (hb.block b hlt)]; exact h
theorem RN.past {ok : Nat → Prop} {w w' : World} {l : List Int} {ba : Option Addr} {cap : Nat} (h : RN ok w l ba cap) (hb : Below w.heap.size w w') : RN ok w' l ba cap :=
  ⟨h.le, h.max, h.nil, fun i hi => by obtain ⟨b, o, e, h1, h2, h3⟩ := h.at_ i hi; exact ⟨b, o, e, h1, Nat.lt_of_lt_of_le h2 hb.size, cell_past hb h2 h3⟩⟩
/-- a list of bytes -/
structure RB (ok : Nat → Prop) (w : World) (l : List Bs) (ba : Option Addr) (cap : Nat) : Prop where
  le : l.length ≤ cap
  max : cap ≤ maxLen
  nil : ba = none → l.length = 0
  at_ : ∀ i (h : i < l.length), ∃ b o x, ba = some (⟨b, o, none⟩ : Addr) ∧ ok b ∧ b < w.heap.size ∧ w.cell? ⟨b, o + i, none⟩ = some x ∧ Bt w l[i] x
  own : ∀ i (h : i < l.length) (b o : Nat) (g : Option Addr) (n c b' o' : Nat), ba = some (⟨b, o, none⟩ : Addr) → w.cell? ⟨b, o + i, none⟩ = some (.slice g n c) → g = some (⟨b', o', none⟩ : Addr) → l[i] ≠ [] → ok b'
theorem RB.past {ok : Nat → Prop} {w w' : World} {l : List Bs} {ba : Option Addr} {cap : Nat} (h : RB ok w l ba cap) (hb : Below w.heap.size w w') : RB ok w' l ba cap :=
  ⟨h.le, h.max, h.nil, fun i hi => by obtain ⟨b, o, x, e, h1, h2, h3, h4⟩ := h.at_ i hi; exact ⟨b, o, x, e, h1, Nat.lt_of_lt_of_le h2 hb.size, cell_past hb h2 h3, h4.past hb⟩,
  fun i hi b o g n c b' o' e hc => by
    obtain ⟨b0, o0, x, e0, _, h2, _, _⟩ := h.at_ i hi
    rw [e] at e0; cases e0
    rw [World.cell?_of_block (w := w) (hb.block b h2)] at hc
    exact h.own i hi b o g n c b' o' e hc⟩
theorem RL.past {ok : Nat → Prop} {w w' : World} {l : List V} {ba : Option Addr} {cap : Nat} (h : RL ok w l ba cap) (hb : Below w.heap.size w w') : RL ok w' l ba cap :=
  ⟨h.le, h.max, h.nil, fun i hi => by obtain ⟨b, o, x, e, h1, h2, h3⟩ := h.at_ i hi; exact ⟨b, o, x, e, h1, h2.kept hb.size (hb.block b h2.lt), h3.past hb⟩⟩
/-- a message -/
structure RM (ok : Nat → Prop) (w : World) (m : Ms) (bn bv bb : Option Addr) (cn cv cb : Nat) : Prop where
  kind : m.kind < 256
  i64 : ∀ n ∈ m.nums, Va.I64 n
  nums : RN ok w m.nums bn cn
  vals : RL ok w m.vals bv cv
  blobs : RB ok w m.blobs bb cb
theorem RM.past {ok : Nat → Prop} {w w' : World} {m : Ms} {bn bv bb : Option Addr} {cn cv cb : Nat} (h : RM ok w m bn bv bb cn cv cb) (hb : Below w.heap.size w w') : RM ok w' m bn bv bb cn cv cb :=
  ⟨h.kind, h.i64, h.nums.past hb, h.vals.past hb, h.blobs.past hb⟩
/-- its cells -/
abbrev mcells (m : Ms) (bn bv bb : Option Addr) (cn cv cb : Nat) : Array Value := #[.int .u8 m.kind, .slice bn m.nums.length cn, .slice bv m.vals.length cv, .slice bb m.blobs.length cb]
/-- the state of body: what is put so far, the message's box -/
structure BoS (w : World) (bx : Array Value) (vv : Value) (r : Bs) (W : World) : Prop where
  own : Ow W (w.heap.size + 1) vv r
  box : Blk W w.heap.size bx 30
  bl : Below w.heap.size w W
  sz : w.heap.size + 1 ≤ W.heap.size
theorem BoS.past {w W W' : World} {bx : Array Value} {vv : Value} {r : Bs} (h : BoS w bx vv r W) (hb : Below W.heap.size W W') : BoS w bx vv r W' :=
  ⟨h.own.past hb, h.box.below hb, h.bl.trans (hb.mono h.bl.size), Nat.le_trans h.sz hb.size⟩
theorem BoS.row {w W W' : World} {bx : Array Value} {vv v' : Value} {r r' : Bs} (h : BoS w bx vv r W) (ho : Ow W' (w.heap.size + 1) v' r') (hg : Gw W W' vv v') : BoS w bx v' r' W' :=
  ⟨ho, h.box.kept hg.grown (fun e => by have := (h.own.lt _ e.symm).1; omega), h.bl.grown hg.grown h.bl.size (fun k hk => by have := (h.own.lt _ hk).1; omega), Nat.le_trans h.sz hg.grown.size⟩
end Go.Proofs.Ytgamhgeiceakeaa
/- frame.body, by contract. -/
set_option linter.unusedVariables false
set_option linter.unusedSimpArgs false
namespace Go.Proofs.Ytgamhgeiceakeaa
open Go.RowKit
open By (Bs)
open Va (V)
open Me (Ms)
theorem ow_lit1 (w : World) (c : UInt8) (v : Int) (hv : v = (c.toNat : Nat)) : Ow (w.alloc (.cells #[.int .u8 v] 5)) w.heap.size (.slice (some ⟨w.heap.size, 0, none⟩) 1 1) [c] := by
  subst hv
  exact ⟨rfl, Or.inr ⟨w.heap.size, 1, #[.int .u8 (c.toNat : Nat)], rfl, Nat.le_refl _, heap_alloc_new _ _, Nat.le_refl _, by simp [maxLen], rfl, rfl⟩⟩
theorem flat_at {α : Type} (f : α → Bs) (l : List α) (i : Nat) (h : i < l.length) : (l.take (i + 1)).flatMap f = (l.take i).flatMap f ++ f l[i] := by
  rw [List.take_succ_eq_append_getElem h, List.flatMap_append]; simp
theorem flat_le {α : Type} (f : α → Bs) (c : Nat) : ∀ (l : List α), (∀ x ∈ l, (f x).length ≤ c) → (l.flatMap f).length ≤ l.length * c
  | [], _ => by simp
  | x :: l, h => by
    rw [List.flatMap_cons, List.length_append, List.length_cons, Nat.add_mul, Nat.one_mul]
    have h1 := h x (List.mem_cons_self ..)
    have h2 := flat_le f c l (fun y hy => h y (List.mem_cons_of_mem _ hy))
    omega
theorem flat_take_le {α : Type} (f : α → Bs) (c : Nat) (l : List α) (i n : Nat) (h : ∀ x ∈ l, (f x).length ≤ c) (hn : l.length ≤ n) : ((l.take i).flatMap f).length ≤ n * c := by
  have h1 := flat_le f c (l.take i) (fun x hx => h x (List.mem_of_mem_take hx))
  have h2 : (l.take i).length ≤ n := by rw [List.length_take]; omega
  exact Nat.le_trans h1 (Nat.mul_le_mul_right c h2)
theorem enc_le (v : V) (h : Va.right v = true) : (Va.enc v).length ≤ 8388608 := by
  unfold Va.right at h
  rw [Bool.and_eq_true, decide_eq_true_eq] at h
  have := enc_len v 16 h.1
  omega
theorem encL_at (l : List V) (i : Nat) (h : i < l.length) : Va.encL (l.take (i + 1)) = Va.encL (l.take i) ++ Va.enc l[i] := by
  rw [Me.encL_flat, Me.encL_flat, flat_at _ _ _ h]
set_option maxHeartbeats 3200000 in
set_option maxRecDepth 100000 in
theorem body_any (ok : Nat → Prop) (m : Ms) (bn bv bb : Option Addr) (cn cv cb : Nat) (w : World) (h : RM ok w m bn bv bb cn cv cb) (h1 : m.nums.length ≤ 64) (h2 : m.vals.length ≤ 64) (h3 : m.blobs.length ≤ 16) (h4 : ∀ v ∈ m.vals, Va.right v = true) (h5 : ∀ b ∈ m.blobs, b.length ≤ 65536) :
    Calls Try.prog 32 #[.agg (mcells m bn bv bb cn cv cb)] w fun e w' => ∃ g c, e = .returned (.slice g (Me.body m).length c) ∧ Ow w' w.heap.size (.slice g (Me.body m).length c) (Me.body m) ∧ Below w.heap.size w w' := by
  have HM := Lib.hid h
  have H4 := Lib.hid h4
  have H5 := Lib.hid h5
  have hk := h.kind
  obtain ⟨kind, ns, vs, bs⟩ := m
  simp only at hk h1 h2 h3
  have hbl : ∀ r1 r2 r3, (((UInt8.ofNat kind :: By.uv ns.length) ++ (ns.take ns.length).flatMap Me.numB = r1) ∧ (((r1 ++ By.uv vs.length) ++ Va.encL (vs.take vs.length)) = r2) ∧ ((r2 ++ By.uv bs.length) ++ (bs.take bs.length).flatMap By.blob) = r3) → r3 = Me.body ⟨kind, ns, vs, bs⟩ := by
    rintro r1 r2 r3 ⟨rfl, rfl, rfl⟩
    unfold Me.body
    simp only [List.take_length, List.append_assoc, List.cons_append]
  have HBL := Lib.hid hbl
  clear h h4 h5 hbl
  show Calls Try.prog 32 #[.agg #[.int .u8 kind, .slice bn ns.length cn, .slice bv vs.length cv, .slice bb bs.length cb]] w _
  have HS0 := Lib.hid (show BoS w #[.int .u8 kind, .slice bn ns.length cn, .slice bv vs.length cv, .slice bb bs.length cb] (.slice (some ⟨w.heap.size + 1, 0, none⟩) 1 1) [UInt8.ofNat kind] ((w.alloc (.cells #[.int .u8 kind, .slice bn ns.length cn, .slice bv vs.length cv, .slice bb bs.length cb] 30)).alloc (.cells #[.int .u8 kind] 5)) from by
    have ho := ow_lit1 (w.alloc (.cells #[.int .u8 kind, .slice bn ns.length cn, .slice bv vs.length cv, .slice bb bs.length cb] 30)) (UInt8.ofNat kind) kind (by rw [UInt8.toNat_ofNat']; omega)
    rw [show (w.alloc (.cells #[.int .u8 kind, .slice bn ns.length cn, .slice bv vs.length cv, .slice bb bs.length cb] 30)).heap.size = w.heap.size + 1 by simp] at ho
    exact ⟨ho, (Blk.new w _ _).below ((Below.refl _ _).alloc (Nat.le_refl _) _), ((Below.refl _ _).alloc (Nat.le_refl _) _).alloc (by simp) _, by simp⟩)
  go_enter Try.func32, Try.ntmps32
  go_wp2_with fail
  with_reducible refine (uint_any (w.heap.size + 1) _ [UInt8.ofNat kind] ns.length _ (by omega) (HS0.out).own (HS0.out).sz (by first | omega | simp)).mono ?_
  rintro e w1 ⟨v1, rfl, ho, hg, hn⟩
  have HSw1 := Lib.hid ((HS0.out).row ho hg)
  clear ho hg hn
  clear HS0
  have hu1 := (By.uv_len ns.length).1
  have hu2 := (By.uv_len vs.length).1
  have hu3 := (By.uv_len bs.length).1
  obtain ⟨r0, hr0⟩ : ∃ r0, ([UInt8.ofNat kind] ++ By.uv ns.length) = r0 := ⟨_, rfl⟩
  have hl0 : r0.length ≤ 11 := by rw [← hr0, List.length_append, List.length_singleton]; omega
  have HS1 := Lib.hid (hr0 ▸ HSw1.out)
  have HR0 := Lib.hid hr0
  clear HSw1 hr0
  have c0 := HS1.out.box.cell 1
  have clt := HS1.out.box.lt
  go_wp2_with fail
  clear c0 clt
  go_loopw [3, 22] (fun vv iv wr => ∃ i : Nat, i ≤ ns.length ∧ iv = .int .i64 i ∧ BoS w #[.int .u8 kind, .slice bn ns.length cn, .slice bv vs.length cv, .slice bb bs.length cb] vv (r0 ++ (ns.take i).flatMap Me.numB) wr) (fun _ iv _ => ns.length - (intOf iv).toNat)
  case atStart => exact ⟨0, by omega, rfl, by simpa using HS1.out⟩
  case round =>
    obtain ⟨i, hi, rfl, hS⟩ := hrel
    have HS := Lib.hid hS
    have hfl := flat_take_le Me.numB 10 ns i 64 (fun x _ => (By.uv_len _).1) h1
    clear hS HS1
    by_cases hlt : i < ns.length
    · obtain ⟨b, o, hbn, hokb, hblt, hc⟩ := HM.out.nums.at_ i hlt
      have y0 := cell_past HS.out.bl hblt hc
      have ylt : b < wr.heap.size := Nat.lt_of_lt_of_le hblt HS.out.bl.size
      simp only at y0
      have hj0 : (0 : Int) ≤ (i : Int) := by omega
      have hj1 : (i : Int) < (ns.length : Int) := by omega
      have HI := Lib.hid (HM.out.i64 _ (List.getElem_mem hlt))
      have HF := Lib.hid (flat_at Me.numB ns i hlt)
      subst hbn
      clear hc
      generalize ns[i] = x at y0 HI HF
      go_wp2_with fail
      with_reducible refine (int_any (w.heap.size + 1) _ (r0 ++ (ns.take i).flatMap Me.numB) x _ HI.out HS.out.own HS.out.sz (by rw [List.length_append]; omega)).mono ?_
      rintro e w2 ⟨v2, rfl, ho, hg, hn⟩
      have HS2 := Lib.hid (HS.out.row ho hg)
      clear ho hg hn y0 ylt
      go_wp2
      go_roundw
      case rel =>
        have h9 := HS2.out
        rw [List.append_assoc] at h9
        exact ⟨i + 1, by omega, by go_num, by rw [HF.out]; exact h9⟩
      case measure => simp [intOf]; omega
    · obtain rfl : i = ns.length := by omega
      obtain ⟨wx, rfl⟩ : ∃ wx, wx = wr := ⟨_, rfl⟩
      obtain ⟨r1, hr1⟩ : ∃ r1, r0 ++ (ns.take ns.length).flatMap Me.numB = r1 := ⟨_, rfl⟩
      have hl1 : r1.length ≤ 700 := by rw [← hr1, List.length_append]; omega
      rw [hr1] at HS
      have HR1 := Lib.hid hr1
      clear hr1 hfl
      have c0 := HS.out.box.cell 2
      have clt := HS.out.box.lt
      go_wp2_with fail
      with_reducible refine (uint_any (w.heap.size + 1) _ r1 vs.length _ (by omega) (HS.out).own (HS.out).sz (by first | omega | simp)).mono ?_
      rintro e w3 ⟨v3, rfl, ho, hg, hn⟩
      have HSw3 := Lib.hid ((HS.out).row ho hg)
      clear ho hg hn
      clear c0 clt HS
      obtain ⟨r1', hr1'⟩ : ∃ r1', r1 ++ By.uv vs.length = r1' := ⟨_, rfl⟩
      have hl1' : r1'.length ≤ 710 := by rw [← hr1', List.length_append]; omega
      have HS3 := Lib.hid (hr1' ▸ HSw3.out)
      have HR1' := Lib.hid hr1'
      clear HSw3 hr1'
      have c0 := HS3.out.box.cell 2
      have clt := HS3.out.box.lt
      go_wp2_with fail
      clear c0 clt
      go_loopw [3, 39] (fun vv iv wr => ∃ i : Nat, i ≤ vs.length ∧ iv = .int .i64 i ∧ BoS w #[.int .u8 kind, .slice bn ns.length cn, .slice bv vs.length cv, .slice bb bs.length cb] vv (r1' ++ Va.encL (vs.take i)) wr) (fun _ iv _ => vs.length - (intOf iv).toNat)
      case atStart => exact ⟨0, by omega, rfl, by simpa [Va.encL] using HS3.out⟩
      case round =>
        obtain ⟨i, hi, rfl, hS⟩ := hrel
        have HS := Lib.hid hS
        have hfl : (Va.encL (vs.take i)).length ≤ 64 * 8388608 := by
          rw [Me.encL_flat]; exact flat_take_le Va.enc 8388608 vs i 64 (fun x hx => enc_le x (H4.out x hx)) h2
        clear hS HS3
        by_cases hlt : i < vs.length
        · obtain ⟨b, o, x, hbv, hokb, h4w, hrv⟩ := HM.out.vals.at_ i hlt
          have h4' := h4w.kept HS.out.bl.size (HS.out.bl.block b h4w.lt)
          have hri := H4.out _ (List.getElem_mem hlt)
          have HF := Lib.hid (encL_at vs i hlt)
          have hj0 : (0 : Int) ≤ (i : Int) := by omega
          have hj1 : (i : Int) < (vs.length : Int) := by omega
          simp only at hrv hri HF
          generalize vs[i] = y at hrv hri HF
          have CP := Lib.hid (fun W (hW : Below w.heap.size w W) (hs : w.heap.size + 1 ≤ W.heap.size) (u : Value) (r : List UInt8) (ho : Ow W (w.heap.size + 1) u r) (hl : r.length ≤ 137438953472) => Put_any _ _ _ _ hrv W hW (w.heap.size + 1) (by omega) hs u r ho hl)
          have HRI := Lib.hid hri
          obtain ⟨k2, n2, s2, l2⟩ := y
          obtain ⟨ba2, cap2, rfl, -, -, -, -⟩ := hrv.inv
          obtain ⟨hlt4, a1, a2, a3, a4, hx4, e1, e2, e3, e4⟩ := h4'
          cases hx4
          subst hbv
          have hbx := Lib.hid (HS.out.past ((Below.refl _ _).alloc (Nat.le_refl _) (.cells #[.int .u8 k2, .int .i64 n2, .string s2, .slice ba2 l2.length cap2] 25)))
          clear h4w hrv hri
          go_wp2_with fail
          with_reducible refine (CP.out _ hbx.out.bl hbx.out.sz _ (r1' ++ Va.encL (vs.take i)) hbx.out.own (by rw [List.length_append]; omega)).mono ?_
          rintro e w4 (⟨_, v4, rfl, ho, hg, hn⟩ | ⟨hr, _⟩)
          · have HS4 := Lib.hid (hbx.out.row ho hg)
            clear ho hg hn e1 e2 e3 e4 hlt4 hbx CP
            go_wp2
            go_roundw
            case rel =>
              have h9 := HS4.out
              rw [List.append_assoc] at h9
              exact ⟨i + 1, by omega, by go_num, by rw [HF.out]; exact h9⟩
            case measure => simp [intOf]; omega
          · rw [HRI.out] at hr; cases hr
        · obtain rfl : i = vs.length := by omega
          obtain ⟨wy, rfl⟩ : ∃ wy, wy = wr := ⟨_, rfl⟩
          obtain ⟨r2, hr2⟩ : ∃ r2, r1' ++ Va.encL (vs.take vs.length) = r2 := ⟨_, rfl⟩
          have hl2 : r2.length ≤ 600000000 := by rw [← hr2, List.length_append]; omega
          rw [hr2] at HS
          have HR2 := Lib.hid hr2
          clear hr2 hfl
          have c0 := HS.out.box.cell 3
          have clt := HS.out.box.lt
          go_wp2_with fail
          with_reducible refine (uint_any (w.heap.size + 1) _ r2 bs.length _ (by omega) (HS.out).own (HS.out).sz (by first | omega | simp)).mono ?_
          rintro e w5 ⟨v5, rfl, ho, hg, hn⟩
          have HSw5 := Lib.hid ((HS.out).row ho hg)
          clear ho hg hn
          clear c0 clt HS
          obtain ⟨r2', hr2'⟩ : ∃ r2', r2 ++ By.uv bs.length = r2' := ⟨_, rfl⟩
          have hl2' : r2'.length ≤ 600000010 := by rw [← hr2', List.length_append]; omega
          have HS5 := Lib.hid (hr2' ▸ HSw5.out)
          have HR2' := Lib.hid hr2'
          clear HSw5 hr2'
          have c0 := HS5.out.box.cell 3
          have clt := HS5.out.box.lt
          go_wp2_with fail
          clear c0 clt
          go_loopw [3, 59] (fun vv iv wr => ∃ i : Nat, i ≤ bs.length ∧ iv = .int .i64 i ∧ BoS w #[.int .u8 kind, .slice bn ns.length cn, .slice bv vs.length cv, .slice bb bs.length cb] vv (r2' ++ (bs.take i).flatMap By.blob) wr) (fun _ iv _ => bs.length - (intOf iv).toNat)
          case atStart => exact ⟨0, by omega, rfl, by simpa using HS5.out⟩
          case round =>
            obtain ⟨i, hi, rfl, hS⟩ := hrel
            have HS := Lib.hid hS
            have hfl := flat_take_le By.blob 65546 bs i 16 (fun x hx => by have := (By.uv_len x.length).1; have := H5.out x hx; unfold By.blob; rw [List.length_append]; omega) h3
            clear hS HS5
            by_cases hlt : i < bs.length
            · obtain ⟨b, o, x, hbb, hokb, hblt, hc, hbt⟩ := HM.out.blobs.at_ i hlt
              have y0 := cell_past HS.out.bl hblt hc
              have ylt : b < wr.heap.size := Nat.lt_of_lt_of_le hblt HS.out.bl.size
              have h65 := H5.out _ (List.getElem_mem hlt)
              have HF := Lib.hid (flat_at By.blob bs i hlt)
              have hj0 : (0 : Int) ≤ (i : Int) := by omega
              have hj1 : (i : Int) < (bs.length : Int) := by omega
              simp only at hbt h65 HF
              generalize bs[i] = d at hbt h65 HF
              obtain ⟨bd, cd, rfl, hrd, hnd, -, -⟩ := hbt.ex
              subst hbb
              have HRD := Lib.hid (hrd.below HS.out.bl)
              have hapart : ∀ k b' o', u3.ownBlock = some k → bd = some (⟨b', o', none⟩ : Addr) → d ≠ [] → b' ≠ k := fun k b' o' hk hb hd e => by
                have h7 := (HS.out.own.lt k hk).1
                rcases hrd with h8 | ⟨b2, o2, e2, hlt2, _⟩
                · exact hd h8
                · rw [hb] at e2; cases e2; omega
              have HAP := Lib.hid hapart
              have HND := Lib.hid hnd
              clear hc hbt hrd hnd hapart
              go_wp2_with fail
              with_reducible refine (blobPut_any (w.heap.size + 1) _ (r2' ++ (bs.take i).flatMap By.blob) bd d.length cd d _ rfl HRD.out HND.out HS.out.own HS.out.sz (by rw [List.length_append]; omega) (by omega) HAP.out).mono ?_
              rintro e w6 ⟨v6, rfl, ho, hg, hn⟩
              have HS6 := Lib.hid (HS.out.row ho hg)
              clear ho hg hn y0 ylt
              go_wp2
              go_roundw
              case rel =>
                have h9 := HS6.out
                rw [List.append_assoc] at h9
                exact ⟨i + 1, by omega, by go_num, by rw [HF.out]; exact h9⟩
              case measure => simp [intOf]; omega
            · obtain rfl : i = bs.length := by omega
              have hfin := HBL.out r1 r2 _ ⟨by rw [← HR1.out, ← HR0.out]; rfl, by rw [← HR2.out, ← HR1'.out], rfl⟩
              have hS9 := HS.out
              rw [← HR2'.out, hfin] at hS9
              obtain ⟨ga, gc, hgv, -, -, -⟩ := hS9.own.rd
              subst hgv
              have HS9 := Lib.hid hS9
              clear hS9 hfin hfl HS
              go_wp2
              go_ret
              exact ⟨ga, gc, rfl, HS9.out.own.mono (by omega), HS9.out.bl⟩
end Go.Proofs.Ytgamhgeiceakeaa
/- frame.Right, frame.Put, by contract. -/
set_option linter.unusedVariables false
set_option linter.unusedSimpArgs false
namespace Go.Proofs.Ytgamhgeiceakeaa
open Go.RowKit
open By (Bs)
open Va (V)
open Me (Ms)
def BqPost (x : Value) (w : World) (e : Ending) (w' : World) : Prop := e = .returned x ∧ Below w.heap.size w w'
/-- the box stays -/
structure BxS (w : World) (bx : Array Value) (W : World) : Prop where
  box : Blk W w.heap.size bx 30
  bl : Below w.heap.size w W
theorem BxS.past {w W W' : World} {bx : Array Value} (h : BxS w bx W) (hb : Below W.heap.size W W') : BxS w bx W' := ⟨h.box.below hb, h.bl.trans (hb.mono h.bl.size)⟩
theorem body_le {m : Ms} (h1 : m.nums.length ≤ 64) (h2 : m.vals.length ≤ 64) (h3 : m.blobs.length ≤ 16) (h4 : ∀ v ∈ m.vals, Va.right v = true) (h5 : ∀ b ∈ m.blobs, b.length ≤ 65536) : (Me.body m).length ≤ 700000000 := by
  have u1 := (By.uv_len m.nums.length).1
  have u2 := (By.uv_len m.vals.length).1
  have u3 := (By.uv_len m.blobs.length).1
  have f1 := flat_le Me.numB 10 m.nums (fun x _ => (By.uv_len _).1)
  have f2 := flat_le Va.enc 8388608 m.vals (fun x hx => enc_le x (h4 x hx))
  have f3 := flat_le By.blob 65546 m.blobs (fun x hx => by have := (By.uv_len x.length).1; have := h5 x hx; unfold By.blob; rw [List.length_append]; omega)
  unfold Me.body
  rw [Me.encL_flat]
  simp only [List.length_cons, List.length_append]
  omega
theorem mr_not {m : Ms} (h : ¬ (m.nums.length ≤ 64 ∧ m.vals.length ≤ 64 ∧ m.blobs.length ≤ 16 ∧ (∀ v ∈ m.vals, Va.right v = true) ∧ (∀ b ∈ m.blobs, b.length ≤ 65536))) : Me.right m = false := by
  rw [Bool.eq_false_iff]
  intro h2
  obtain ⟨a, b, c, d, e, _⟩ := (Me.right_iff m).1 h2
  exact h ⟨a, b, c, d, e⟩
theorem mr_yes {m : Ms} (h1 : m.nums.length ≤ 64) (h2 : m.vals.length ≤ 64) (h3 : m.blobs.length ≤ 16) (h4 : ∀ v ∈ m.vals, Va.right v = true) (h5 : ∀ b ∈ m.blobs, b.length ≤ 65536) : Me.right m = decide ((Me.body m).length + 4 ≤ 1048576) := by
  rw [Bool.eq_iff_iff, Me.right_iff, decide_eq_true_eq]
  exact ⟨fun h => h.2.2.2.2.2, fun h => ⟨h1, h2, h3, h4, h5, h⟩⟩
set_option maxHeartbeats 3200000 in
set_option maxRecDepth 100000 in
theorem mright_any (ok : Nat → Prop) (m : Ms) (bn bv bb : Option Addr) (cn cv cb : Nat) (w : World) (h : RM ok w m bn bv bb cn cv cb) :
    Calls Try.prog 13 #[.agg (mcells m bn bv bb cn cv cb)] w (BqPost (.bool (Me.right m)) w) := by
  have HM := Lib.hid h
  have HN := Lib.hid (fun hh => mr_not (m := m) hh)
  have HY := Lib.hid (fun a b c d e => mr_yes (m := m) a b c d e)
  have HL := Lib.hid (fun a b c d e => body_le (m := m) a b c d e)
  have HC := Lib.hid (fun W (hW : Below w.heap.size w W) a b c d e => body_any ok m bn bv bb cn cv cb W (h.past hW) a b c d e)
  clear h
  generalize Me.right m = R at HN HY ⊢
  generalize Me.body m = BD at HY HC HL
  obtain ⟨kind, ns, vs, bs⟩ := m
  have HN2 := Lib.hid (show ¬ (ns.length ≤ 64 ∧ vs.length ≤ 64 ∧ bs.length ≤ 16 ∧ (∀ v ∈ vs, Va.right v = true) ∧ (∀ b ∈ bs, b.length ≤ 65536)) → R = false from HN.out)
  have HC2 := Lib.hid (show ∀ W (hW : Below w.heap.size w W), ns.length ≤ 64 → vs.length ≤ 64 → bs.length ≤ 16 → (∀ v ∈ vs, Va.right v = true) → (∀ b ∈ bs, b.length ≤ 65536) → Calls Try.prog 32 #[.agg #[.int .u8 kind, .slice bn ns.length cn, .slice bv vs.length cv, .slice bb bs.length cb]] W _ from HC.out)
  have HY2 := Lib.hid (show ns.length ≤ 64 → vs.length ≤ 64 → bs.length ≤ 16 → (∀ v ∈ vs, Va.right v = true) → (∀ b ∈ bs, b.length ≤ 65536) → R = _ from HY.out)
  have HL2 := Lib.hid (show ns.length ≤ 64 → vs.length ≤ 64 → bs.length ≤ 16 → (∀ v ∈ vs, Va.right v = true) → (∀ b ∈ bs, b.length ≤ 65536) → _ from HL.out)
  clear HN HC HY HL
  show Calls Try.prog 13 #[.agg #[.int .u8 kind, .slice bn ns.length cn, .slice bv vs.length cv, .slice bb bs.length cb]] w _
  have HS0 := Lib.hid (show BxS w #[.int .u8 kind, .slice bn ns.length cn, .slice bv vs.length cv, .slice bb bs.length cb] (w.alloc (.cells #[.int .u8 kind, .slice bn ns.length cn, .slice bv vs.length cv, .slice bb bs.length cb] 30)) from ⟨Blk.new w _ _, (Below.refl _ _).alloc (Nat.le_refl _) _⟩)
  by_cases h1 : ns.length ≤ 64
  · by_cases h2 : vs.length ≤ 64
    · by_cases h3 : bs.length ≤ 16
      · have q1 : ¬ (64 : Int) < (ns.length : Int) := by omega
        have q2 : ¬ (64 : Int) < (vs.length : Int) := by omega
        have q3 : ¬ (16 : Int) < (bs.length : Int) := by omega
        go_enter Try.func13, Try.ntmps13
        go_wp2_with fail
        go_loopw [4, 26] (fun _ iv wr => ∃ i : Nat, i ≤ vs.length ∧ iv = .int .i64 i ∧ BxS w #[.int .u8 kind, .slice bn ns.length cn, .slice bv vs.length cv, .slice bb bs.length cb] wr ∧ ∀ v ∈ vs.take i, Va.right v = true) (fun _ iv _ => vs.length - (intOf iv).toNat)
        case atStart => exact ⟨0, by omega, rfl, HS0.out, by simp⟩
        case round =>
          obtain ⟨i, hi, rfl, hS, hall⟩ := hrel
          have HS := Lib.hid hS
          have HALL := Lib.hid hall
          clear hS hall
          by_cases hlt : i < vs.length
          · obtain ⟨b, o, x, hbv, hokb, h4w, hrv⟩ := HM.out.vals.at_ i hlt
            have h4' := h4w.kept HS.out.bl.size (HS.out.bl.block b h4w.lt)
            have HF := Lib.hid (List.take_succ_eq_append_getElem hlt)
            have HMEM := Lib.hid (List.getElem_mem hlt)
            have hj0 : (0 : Int) ≤ (i : Int) := by omega
            have hj1 : (i : Int) < (vs.length : Int) := by omega
            simp only at hrv
            generalize vs[i] = y at hrv HF HMEM
            have CR := Lib.hid (fun W (hW : Below w.heap.size w W) => right_any _ _ _ W (hrv.past hW))
            obtain ⟨rb, hrb⟩ : ∃ rb, Va.right y = rb := ⟨_, rfl⟩
            rw [hrb] at CR
            have HRB := Lib.hid hrb
            obtain ⟨k2, n2, s2, l2⟩ := y
            obtain ⟨ba2, cap2, rfl, -, -, -, -⟩ := hrv.inv
            obtain ⟨hlt4, a1, a2, a3, a4, hx4, e1, e2, e3, e4⟩ := h4'
            cases hx4
            subst hbv
            have hbx := Lib.hid (HS.out.past ((Below.refl _ _).alloc (Nat.le_refl _) (.cells #[.int .u8 k2, .int .i64 n2, .string s2, .slice ba2 l2.length cap2] 25)))
            clear h4w hrv hrb
            go_wp2_with fail
            with_reducible refine (CR.out _ hbx.out.bl).mono ?_
            rintro e w4 ⟨rfl, hb⟩
            have HS4 := Lib.hid (hbx.out.past hb)
            clear hb e1 e2 e3 e4 hlt4 hbx CR
            cases rb with
            | true =>
              go_wp2
              go_roundw
              case rel => exact ⟨i + 1, by omega, by go_num, HS4.out, fun v hv => by
                rw [HF.out, List.mem_append, List.mem_singleton] at hv
                rcases hv with hv | rfl
                · exact HALL.out v hv
                · exact HRB.out⟩
              case measure => simp [intOf]; omega
            | false =>
              have hR : R = false := HN2.out (fun hh => by have := hh.2.2.2.1 _ HMEM.out; rw [HRB.out] at this; cases this)
              subst hR
              go_wp2
              go_ret
              exact ⟨rfl, HS4.out.bl⟩
          · obtain rfl : i = vs.length := by omega
            obtain ⟨wx, rfl⟩ : ∃ wx, wx = wr := ⟨_, rfl⟩
            have HV := Lib.hid (show ∀ v ∈ vs, Va.right v = true by have := HALL.out; rwa [List.take_length] at this)
            have c0 := HS.out.box.cell 3
            have clt := HS.out.box.lt
            clear HALL
            go_wp2_with fail
            clear c0 clt
            go_loopw [6, 37] (fun _ iv wr => ∃ i : Nat, i ≤ bs.length ∧ iv = .int .i64 i ∧ BxS w #[.int .u8 kind, .slice bn ns.length cn, .slice bv vs.length cv, .slice bb bs.length cb] wr ∧ ∀ v ∈ bs.take i, v.length ≤ 65536) (fun _ iv _ => bs.length - (intOf iv).toNat)
            case atStart => exact ⟨0, by omega, rfl, HS.out, by simp⟩
            case round =>
              obtain ⟨i, hi, rfl, hS, hall⟩ := hrel
              have HS3 := Lib.hid hS
              have HALL := Lib.hid hall
              clear hS hall HS
              by_cases hlt : i < bs.length
              · obtain ⟨b, o, x, hbb, hokb, hblt, hc, hbt⟩ := HM.out.blobs.at_ i hlt
                have y0 := cell_past HS3.out.bl hblt hc
                have ylt : b < wr.heap.size := Nat.lt_of_lt_of_le hblt HS3.out.bl.size
                have HF := Lib.hid (List.take_succ_eq_append_getElem hlt)
                have HMEM := Lib.hid (List.getElem_mem hlt)
                have hj0 : (0 : Int) ≤ (i : Int) := by omega
                have hj1 : (i : Int) < (bs.length : Int) := by omega
                simp only at hbt
                generalize bs[i] = d at hbt HF HMEM
                obtain ⟨bd, cd, rfl, -, -, -, -⟩ := hbt.ex
                subst hbb
                clear hc hbt
                by_cases hd : d.length ≤ 65536
                · have hd2 : ¬ (65536 : Int) < (d.length : Int) := by omega
                  have HD := Lib.hid hd
                  go_wp2
                  go_roundw
                  case rel => exact ⟨i + 1, by omega, by go_num, HS3.out, fun v hv => by
                    rw [HF.out, List.mem_append, List.mem_singleton] at hv
                    rcases hv with hv | rfl
                    · exact HALL.out v hv
                    · exact HD.out⟩
                  case measure => simp [intOf]; omega
                · have hd2 : (65536 : Int) < (d.length : Int) := by omega
                  have hR : R = false := HN2.out (fun hh => hd (hh.2.2.2.2 _ HMEM.out))
                  subst hR
                  go_wp2
                  go_ret
                  exact ⟨rfl, HS3.out.bl⟩
              · obtain rfl : i = bs.length := by omega
                have hB : ∀ v ∈ bs, v.length ≤ 65536 := by have := HALL.out; rwa [List.take_length] at this
                have hbd := HL2.out h1 h2 h3 HV.out hB
                have HR := Lib.hid (HY2.out h1 h2 h3 HV.out hB)
                have CB := Lib.hid (HC2.out wr HS3.out.bl h1 h2 h3 HV.out hB)
                have c0 := HS3.out.box.cell 0
                have c1 := HS3.out.box.cell 1
                have c2 := HS3.out.box.cell 2
                have c3 := HS3.out.box.cell 3
                have clt := HS3.out.box.lt
                clear hB HALL
                go_wp2_with fail
                with_reducible refine (CB.out).mono ?_
                rintro e w7 ⟨g7, c7, rfl, -, hb⟩
                have HB7 := Lib.hid (HS3.out.past hb)
                have hR2 : decide ((BD.length : Int) + 4 ≤ 1048576) = R := by rw [HR.out, Bool.eq_iff_iff, decide_eq_true_eq, decide_eq_true_eq]; omega
                clear hb c0 c1 c2 c3 clt
                go_wp2
                go_ret
                exact ⟨rfl, HB7.out.bl⟩
      · have q1 : ¬ (64 : Int) < (ns.length : Int) := by omega
        have q2 : ¬ (64 : Int) < (vs.length : Int) := by omega
        have q3 : (16 : Int) < (bs.length : Int) := by omega
        have hR : R = false := HN2.out (fun hh => by omega)
        subst hR
        go_enter Try.func13, Try.ntmps13
        go_wp2
        go_ret
        exact ⟨rfl, HS0.out.bl⟩
    · have q1 : ¬ (64 : Int) < (ns.length : Int) := by omega
      have q2 : (64 : Int) < (vs.length : Int) := by omega
      have hR : R = false := HN2.out (fun hh => by omega)
      subst hR
      go_enter Try.func13, Try.ntmps13
      go_wp2
      go_ret
      exact ⟨rfl, HS0.out.bl⟩
  · have q1 : (64 : Int) < (ns.length : Int) := by omega
    have hR : R = false := HN2.out (fun hh => by omega)
    subst hR
    go_enter Try.func13, Try.ntmps13
    go_wp2
    go_ret
    exact ⟨rfl, HS0.out.bl⟩
end Go.Proofs.Ytgamhgeiceakeaa
/- frame.Put, by contract. -/
set_option linter.unusedVariables false
set_option linter.unusedSimpArgs false
namespace Go.Proofs.Ytgamhgeiceakeaa
open Go.RowKit
open By (Bs)
open Va (V)
open Me (Ms)
theorem Ow.val {w : World} {B : Nat} {v : Value} {l : List UInt8} (h : Ow w B v l) (h0 : l ≠ []) : ∃ g c, v = .slice (some ⟨g, 0, none⟩) l.length c ∧ B ≤ g ∧ l.length ≤ c := by
  rcases h.2 with ⟨_, h1⟩ | ⟨g, cap, cur, e, hb, _, hc, _⟩
  · exact absurd (List.eq_nil_of_length_eq_zero h1) h0
  · exact ⟨g, cap, e, hb, hc⟩
theorem shut_ne (l : Bs) : By.shut l ≠ [] := by
  intro h
  have := congrArg List.length h
  rw [By.shut_len] at this
  simp at this
/-- own bytes and an error, told -/
def PmPost (l : Bs) (n : Nat) (w : World) (e : Ending) (w' : World) : Prop :=
  ∃ g c, e = .returned (.tuple #[.slice (some ⟨g, 0, none⟩) n c, .int .i64 0]) ∧ Ow w' w.heap.size (.slice (some ⟨g, 0, none⟩) n c) l ∧ n ≤ c ∧ w.heap.size ≤ g ∧ Below w.heap.size w w'
set_option maxHeartbeats 3200000 in
set_option maxRecDepth 100000 in
theorem mput_yes (ok : Nat → Prop) (m : Ms) (bn bv bb : Option Addr) (cn cv cb : Nat) (w : World) (h : RM ok w m bn bv bb cn cv cb) (hr : Me.right m = true) :
    Calls Try.prog 10 #[.agg (mcells m bn bv bb cn cv cb)] w (PmPost (By.shut (Me.body m)) (By.shut (Me.body m)).length w) := by
  obtain ⟨r1, r2, r3, r4, r5, r6⟩ := (Me.right_iff m).1 hr
  have hne := shut_ne (Me.body m)
  have HR := Lib.hid (fun W (hW : Below w.heap.size w W) => mright_any ok m bn bv bb cn cv cb W (h.past hW))
  rw [hr] at HR
  have HC := Lib.hid (fun W (hW : Below w.heap.size w W) => body_any ok m bn bv bb cn cv cb W (h.past hW) r1 r2 r3 r4 r5)
  generalize Me.body m = BD at HC r6 hne ⊢
  have HSE := Lib.hid (fun W ba n cap (hn : BD.length = n) (hrd : Rd W ba BD) (hb : ba = none → n = 0) => seal_any ba n cap BD W hn hrd hb (by omega))
  generalize By.shut BD = SD at HSE hne ⊢
  obtain ⟨kind, ns, vs, bs⟩ := m
  have HC2 := Lib.hid (show ∀ W (hW : Below w.heap.size w W), Calls Try.prog 32 #[.agg #[.int .u8 kind, .slice bn ns.length cn, .slice bv vs.length cv, .slice bb bs.length cb]] W _ from HC.out)
  have HR2 := Lib.hid (show ∀ W (hW : Below w.heap.size w W), Calls Try.prog 13 #[.agg #[.int .u8 kind, .slice bn ns.length cn, .slice bv vs.length cv, .slice bb bs.length cb]] W _ from HR.out)
  have HNE := Lib.hid hne
  clear HC HR h hr r1 r2 r3 r4 r5 hne
  show Calls Try.prog 10 #[.agg #[.int .u8 kind, .slice bn ns.length cn, .slice bv vs.length cv, .slice bb bs.length cb]] w _
  have HS0 := Lib.hid (show BxS w #[.int .u8 kind, .slice bn ns.length cn, .slice bv vs.length cv, .slice bb bs.length cb] (w.alloc (.cells #[.int .u8 kind, .slice bn ns.length cn, .slice bv vs.length cv, .slice bb bs.length cb] 30)) from ⟨Blk.new w _ _, (Below.refl _ _).alloc (Nat.le_refl _) _⟩)
  go_enter Try.func10, Try.ntmps10
  go_wp2_with fail
  with_reducible refine (HR2.out _ HS0.out.bl).mono ?_
  rintro e w1 ⟨rfl, hb⟩
  have HS1 := Lib.hid (HS0.out.past hb)
  clear hb HR2 HS0
  have c0 := HS1.out.box.cell 0
  have c1 := HS1.out.box.cell 1
  have c2 := HS1.out.box.cell 2
  have c3 := HS1.out.box.cell 3
  have clt := HS1.out.box.lt
  go_wp2_with fail
  with_reducible refine (HC2.out _ HS1.out.bl).mono ?_
  rintro e w2 ⟨g2, k2, rfl, ho, hb⟩
  have HB2 := Lib.hid (HS1.out.past hb).bl
  obtain ⟨ba2, cap2, he2, hrd2, hnil2, hcap2⟩ := ho.rd
  cases he2
  have CS := Lib.hid (HSE.out w2 g2 _ k2 rfl hrd2 hnil2)
  clear ho hb hrd2 hnil2 hcap2 HC2 HS1 HSE c0 c1 c2 c3 clt
  go_wp2_with fail
  with_reducible refine (CS.out).mono ?_
  rintro e w3 ⟨v3, rfl, ho, hb, -⟩
  obtain ⟨g3, c3, rfl, hg3, hc3⟩ := ho.val HNE.out
  have hsz := HB2.out.size
  have HO3 := Lib.hid (ho.mono hsz)
  have HB3 := Lib.hid (HB2.out.trans (hb.mono hsz))
  clear ho hb CS
  go_wp2
  go_ret2
  exact ⟨g3, c3, rfl, HO3.out, hc3, by omega, HB3.out⟩
set_option maxHeartbeats 3200000 in
set_option maxRecDepth 100000 in
theorem mput_no (ok : Nat → Prop) (m : Ms) (bn bv bb : Option Addr) (cn cv cb : Nat) (w : World) (h : RM ok w m bn bv bb cn cv cb) (hr : Me.right m = false) :
    Calls Try.prog 10 #[.agg (mcells m bn bv bb cn cv cb)] w (BqPost (.tuple #[.slice none 0 0, .int .i64 14]) w) := by
  have HR := Lib.hid (fun W (hW : Below w.heap.size w W) => mright_any ok m bn bv bb cn cv cb W (h.past hW))
  rw [hr] at HR
  obtain ⟨kind, ns, vs, bs⟩ := m
  have HR2 := Lib.hid (show ∀ W (hW : Below w.heap.size w W), Calls Try.prog 13 #[.agg #[.int .u8 kind, .slice bn ns.length cn, .slice bv vs.length cv, .slice bb bs.length cb]] W _ from HR.out)
  clear HR h hr
  show Calls Try.prog 10 #[.agg #[.int .u8 kind, .slice bn ns.length cn, .slice bv vs.length cv, .slice bb bs.length cb]] w _
  have HS0 := Lib.hid (show BxS w #[.int .u8 kind, .slice bn ns.length cn, .slice bv vs.length cv, .slice bb bs.length cb] (w.alloc (.cells #[.int .u8 kind, .slice bn ns.length cn, .slice bv vs.length cv, .slice bb bs.length cb] 30)) from ⟨Blk.new w _ _, (Below.refl _ _).alloc (Nat.le_refl _) _⟩)
  go_enter Try.func10, Try.ntmps10
  go_wp2_with fail
  with_reducible refine (HR2.out _ HS0.out.bl).mono ?_
  rintro e w1 ⟨rfl, hb⟩
  have HS1 := Lib.hid (HS0.out.past hb)
  clear hb HR2 HS0
  go_wp2
  go_ret2
  exact ⟨rfl, HS1.out.bl⟩
end Go.Proofs.Ytgamhgeiceakeaa
/- frame.Get's closures, by contract. -/
set_option linter.unusedVariables false
set_option linter.unusedSimpArgs false
namespace Go.Proofs.Ytgamhgeiceakeaa
open Go.RowKit
open By (Bs)
open Va (V)
open Me (Ms)
section
variable {P : Program} {ops : Array Oper} {Q : Exit → Act → World → Prop} {md : Region.Mode} {S : World → Prop} {k : Nat}
/-- two may come up -/
theorem wpAnyT_two (i j : Nat) {o o' : Oper} {fuel : Nat} {listed : Array Bool} {a : Act} {w : World} (hr : Region.ready md ops listed = [i, j]) (hi : ops[i]? = some o) (hj : ops[j]? = some o')
    (hw : Region.wanted o (yielded ops a.tmps) = true) (hw' : Region.wanted o' (yielded ops a.tmps) = true)
    (h : ∀ K : Act → World → Prop, (∀ a' w', (i ≠ k → S w') → wpAnyT P md ops Q S k fuel (listed.setIfInBounds i true) a' w' → K a' w') → o.wp P a w K Q)
    (h' : ∀ K : Act → World → Prop, (∀ a' w', (j ≠ k → S w') → wpAnyT P md ops Q S k fuel (listed.setIfInBounds j true) a' w' → K a' w') → o'.wp P a w K Q) : wpAnyT P md ops Q S k (fuel + 1) listed a w := by
  have key : ∀ (x : Nat) (ox : Oper), x ∈ Region.ready md ops listed → ops[x]? = some ox → Region.wanted ox (yielded ops a.tmps) = true →
      (∀ K : Act → World → Prop, (∀ a' w', (x ≠ k → S w') → wpAnyT P md ops Q S k fuel (listed.setIfInBounds x true) a' w' → K a' w') → ox.wp P a w K Q) →
      wpOp P ops Q x (fun a' w' => ((listed.setIfInBounds x true).getD k false = false → S w') ∧ wpAnyT P md ops Q S k fuel (listed.setIfInBounds x true) a' w') a w := by
    intro x ox hx hox hwx hh
    unfold wpOp
    simp only [hox, hwx, if_true]
    refine Or.inl (hh _ fun a' w' h1 h2 => ⟨fun h3 => h1 ?_, h2⟩)
    rintro rfl
    exact getD_true_of (mem_ready.1 hx).1 h3
  refine ⟨(fun h0 => by rw [hr] at h0; cases h0), fun x hx => ?_⟩
  have hx' := hx
  rw [hr] at hx'
  rcases List.mem_cons.1 hx' with rfl | hx2
  · exact key _ _ hx hi hw h
  · obtain rfl : x = j := by simpa using hx2
    exact key _ _ hx hj hw' h'
end
/-- the getter, the box that holds its place, the bytes -/
structure GS (p q : Nat) (ba : Option Addr) (n cap : Nat) (l : Bs) (at' er : Nat) (W : World) : Prop where
  gt : Gt W p (.slice ba n cap) at' er
  bx : Blk W q #[.pointer (some ⟨p, 0, none⟩)] 64
  rd : Rd W ba l
  len : l.length = n
  nil : ba = none → n = 0
  cap : n ≤ cap
  max : n ≤ 1048576
  le : at' ≤ n
  ne : q ≠ p
  ap : ∀ b o, ba = some (⟨b, o, none⟩ : Addr) → b ≠ p
theorem GS.past {p q n cap at' er : Nat} {ba : Option Addr} {l : Bs} {W W' : World} (h : GS p q ba n cap l at' er W) (hb : Below W.heap.size W W') : GS p q ba n cap l at' er W' :=
  ⟨h.gt.below hb, h.bx.below hb, h.rd.below hb, h.len, h.nil, h.cap, h.max, h.le, h.ne, h.ap⟩
theorem GS.grow {p q n cap at' er at2 er2 : Nat} {ba : Option Addr} {l : Bs} {W W' : World} (h : GS p q ba n cap l at' er W) (hg : W.grownBy W' (some p)) (hgt : Gt W' p (.slice ba n cap) at2 er2) (hle : at2 ≤ n) : GS p q ba n cap l at2 er2 W' :=
  ⟨hgt, h.bx.kept hg (fun e => h.ne (Option.some.inj e)), h.rd.kept hg h.ap, h.len, h.nil, h.cap, h.max, hle, h.ne, h.ap⟩
def OneR {α : Type} (R : Except Nat (α × Nat)) (x : α) (at2 er2 : Nat) : Prop := match R with
  | .ok (y, a) => x = y ∧ at2 = a ∧ er2 = 0
  | .error er => er2 = er ∧ er ≠ 0
def NumPost (p q : Nat) (ba : Option Addr) (n cap : Nat) (l : Bs) (at' : Nat) (w : World) (e : Ending) (w' : World) : Prop :=
  ∃ (x : Int) (at2 er2 : Nat), e = .returned (.int .i64 x) ∧ GS p q ba n cap l at2 er2 w' ∧ w.grownBy w' (some p) ∧ OneR (Me.num l at') x at2 er2
set_option maxHeartbeats 1600000 in
set_option maxRecDepth 100000 in
theorem num1_any (p q : Nat) (ba : Option Addr) (n cap : Nat) (l : Bs) (at' : Nat) (w : World) (h : GS p q ba n cap l at' 0 w) :
    Calls Try.prog 35 #[.pointer (some ⟨q, 0, none⟩)] w (NumPost p q ba n cap l at' w) := by
  have HG := Lib.hid h
  have c0 := h.gt.cell 0
  have c1 := h.gt.cell 1
  have clt := h.gt.lt
  have d0 := h.bx.cell 0
  have dlt := h.bx.lt
  have hmx := h.max
  have cg := fun k => quiet_flip (getInt_any ba n cap l at' (w.drewN k) h.len (h.rd.below (belowN (Below.refl _ _) k)) h.le (by omega))
  have hl := By.gu_len (l.drop at')
  rw [List.length_drop, h.len] at hl
  have hle := h.le
  unfold NumPost Me.num
  generalize By.gu (l.drop at') = r at cg hl ⊢
  obtain ⟨N, c, e2⟩ := r
  simp only at cg hl ⊢
  have CG := Lib.hid cg
  have HT := Lib.hid (fun k nx => took_int p (.slice ba n cap) at' 0 nx e2 (w.drewN k) (h.gt.below (belowN (Below.refl _ _) k)))
  clear cg h
  by_cases h2 : e2 = 0
  · subst h2
    simp only [if_true] at CG HT hl ⊢
    rw [if_neg (by simp)]
    have hl' := hl trivial
    clear hl
    go_enter Try.func35, Try.ntmps35
    go_wp2_with fail
    go_quiet ((go_at_call 36; exact Calls.quiet_of_same (CG.out _)))
    go_wp2_with fail
    with_reducible refine (HT.out nq (at' + c) _ _ (by omega) (by omega)).mono ?_
    rintro e w2 ⟨rfl, hg2, hgr2⟩
    have HR2 := Lib.hid (below_grown (belowN (Below.refl w.heap.size w) nq) hgr2)
    have HG2 := Lib.hid (HG.out.grow HR2.out hg2 (by omega))
    clear hg2 hgr2
    go_wp2
    go_ret
    exact ⟨_, at' + c, 0, rfl, HG2.out, HR2.out, rfl, rfl, rfl⟩
  · simp only [if_neg h2] at CG HT ⊢
    rw [if_pos h2]
    clear hl
    go_enter Try.func35, Try.ntmps35
    go_wp2_with fail
    go_quiet ((go_at_call 36; exact Calls.quiet_of_same (CG.out _)))
    go_wp2_with fail
    with_reducible refine (HT.out nq 0 _ _ (by omega) (by omega)).mono ?_
    rintro e w2 ⟨rfl, hg2, hgr2⟩
    have HR2 := Lib.hid (below_grown (belowN (Below.refl w.heap.size w) nq) hgr2)
    have HG2 := Lib.hid (HG.out.grow HR2.out hg2 hle)
    clear hg2 hgr2
    go_wp2
    go_ret
    exact ⟨_, at', e2, rfl, HG2.out, HR2.out, rfl, h2⟩
end Go.Proofs.Ytgamhgeiceakeaa
/- frame.Get's closures for blobs and values, by contract. -/
set_option linter.unusedVariables false
set_option linter.unusedSimpArgs false
namespace Go.Proofs.Ytgamhgeiceakeaa
open Go.RowKit
open By (Bs)
open Va (V)
open Me (Ms)
def BlbPost (p q : Nat) (ba : Option Addr) (n cap : Nat) (l : Bs) (at' : Nat) (w : World) (e : Ending) (w' : World) : Prop :=
  ∃ (d : Bs) (g : Option Addr) (c at2 er2 : Nat), e = .returned (.slice g d.length c) ∧ Ow w' w.heap.size (.slice g d.length c) d ∧ GS p q ba n cap l at2 er2 w' ∧ w.grownBy w' (some p) ∧ OneR (Me.blb l at') d at2 er2
set_option maxHeartbeats 1600000 in
set_option maxRecDepth 100000 in
theorem blob1_any (p q : Nat) (ba : Option Addr) (n cap : Nat) (l : Bs) (at' : Nat) (w : World) (h : GS p q ba n cap l at' 0 w) :
    Calls Try.prog 42 #[.pointer (some ⟨q, 0, none⟩)] w (BlbPost p q ba n cap l at' w) := by
  have HG := Lib.hid h
  have d0 := h.bx.cell 0
  have dlt := h.bx.lt
  have hmx := h.max
  have hle := h.le
  have C0 := gblob_any p ba n cap l at' 0 65536 w h.gt h.len h.rd h.nil h.le h.cap (by omega) (by omega)
  have hinv := Va.getBlob_inv 65536 (l.drop at')
  unfold gblob at C0
  rw [if_neg (by simp)] at C0
  unfold BlbPost Me.blb
  generalize By.getBlob 65536 (l.drop at') = r at C0 hinv ⊢
  obtain ⟨d, c, e2⟩ := r
  simp only at C0 hinv ⊢
  by_cases h2 : e2 = 0
  · subst h2
    rw [if_pos rfl] at C0
    rw [if_neg (by simp)]
    have hl := (hinv d c rfl).2.1
    rw [List.length_drop, h.len] at hl
    have C := Lib.hid (show Calls Try.prog 43 #[.pointer (some ⟨p, 0, none⟩), .int .i64 65536] w _ from C0)
    clear C0 h hinv
    go_enter Try.func42, Try.ntmps42
    go_wp2_with fail
    with_reducible refine (C.out).mono ?_
    rintro e w2 ⟨v2, rfl, ho2, hg2, hgr2⟩
    obtain ⟨g2, c2, rfl, -, -, -⟩ := ho2.rd
    have HR2 := Lib.hid hgr2
    have HG2 := Lib.hid (HG.out.grow hgr2 hg2 (by omega))
    have HO2 := Lib.hid ho2
    clear hg2 hgr2 ho2
    go_wp2
    go_ret
    exact ⟨d, g2, c2, at' + c, 0, rfl, HO2.out, HG2.out, HR2.out, rfl, rfl, rfl⟩
  · rw [if_neg h2] at C0
    rw [if_pos h2]
    have C := Lib.hid (show Calls Try.prog 43 #[.pointer (some ⟨p, 0, none⟩), .int .i64 65536] w _ from C0)
    clear C0 h hinv
    go_enter Try.func42, Try.ntmps42
    go_wp2_with fail
    with_reducible refine (C.out).mono ?_
    rintro e w2 ⟨v2, rfl, ho2, hg2, hgr2⟩
    obtain ⟨g2, c2, rfl, -, -, -⟩ := ho2.rd
    have HR2 := Lib.hid hgr2
    have HG2 := Lib.hid (HG.out.grow hgr2 hg2 hle)
    have HO2 := Lib.hid ho2
    clear hg2 hgr2 ho2
    go_wp2
    go_ret
    exact ⟨[], g2, c2, at', e2, rfl, HO2.out, HG2.out, HR2.out, rfl, h2⟩
theorem gvN_ne {f : Nat → Nat → Va.Rs} (hf : ∀ a left, f a left ≠ .error 0) : ∀ (m at' left : Nat) (acc : List V), Va.gvN f m at' left acc ≠ .error 0
  | 0, at', left, acc => by unfold Va.gvN; intro h; cases h
  | m + 1, at', left, acc => by
    unfold Va.gvN
    split
    · rename_i e he
      intro h
      cases h
      exact hf _ _ he
    · exact gvN_ne hf m _ _ _
theorem gv_ne (b : Bs) : ∀ lv at' left, Va.gv b lv at' left ≠ .error 0
  | 0, at', left => by unfold Va.gv; intro h; cases h
  | lv + 1, at', left => by
    have ih := gv_ne b lv
    unfold Va.gv Va.gv1
    intro h
    split at h
    · cases h
    · split at h
      · cases h
      · split at h
        · split at h
          · rename_i h1; exact h1 (Except.error.inj h)
          · split at h <;> cases h
        · split at h
          · split at h
            · cases h
            · split at h <;> cases h
          · split at h
            · split at h
              · rename_i h1; exact h1 (Except.error.inj h)
              · cases h
            · split at h
              · split at h
                · rename_i h1; exact h1 (Except.error.inj h)
                · split at h
                  · cases h
                  · split at h
                    · rename_i e he
                      cases h
                      exact gvN_ne ih _ _ _ _ he
                    · cases h
              · cases h
/-- value.Get, in one form: what is refused tells the zero value -/
def GxPost (v : V) (nx e2 : Nat) (W : World) (e : Ending) (w' : World) : Prop := match v with
  | .mk k nn s ll => ∃ (g : Option Addr) (c : Nat), e = .returned (.tuple #[.agg #[.int .u8 k, .int .i64 nn, .string s, .slice g ll.length c], .int .i64 nx, .int .i64 e2]) ∧ RV (fun b => W.heap.size ≤ b) w' v (.agg #[.int .u8 k, .int .i64 nn, .string s, .slice g ll.length c]) ∧ Below W.heap.size W w'
theorem get_form (ba : Option Addr) (n cap : Nat) (l : Bs) (at' : Nat) (hn : l.length = n) (hmx : n ≤ 1099511627776) (hb : ba = none → n = 0) (hnc : n ≤ cap) (ha : at' ≤ n) :
    ∃ (v : V) (nx e2 : Nat), OneR (Me.val l at') v (if e2 = 0 then nx else at') e2 ∧ (e2 = 0 → nx ≤ n) ∧ ∀ W, Rd W ba l → Calls Try.prog 40 #[.slice ba n cap, .int .i64 at'] W (GxPost v nx e2 W) := by
  have C := fun W hr => get_in n cap ba l at' W hn hr hmx hb hnc ha
  have hr := Va.get_right l at'
  unfold Me.val
  generalize hR : Va.get l at' = R at C hr ⊢
  cases R with
  | error er =>
    by_cases h0 : er = 0
    · subst h0
      exact absurd hR (gv_ne l 16 at' 256)
    · refine ⟨.mk 0 0 Va.em [], 0, er, ⟨rfl, h0⟩, fun h => absurd h h0, fun W hW => (C W hW).mono fun e w' hp => ?_⟩
      obtain ⟨he, _, hb⟩ := hp
      exact ⟨none, 0, he, RV.mk' (l := []) (ba := none) (cap := 0) (by decide) (by unfold Va.I64; omega) (by decide) ⟨by simp, by simp [maxLen], fun _ => rfl, fun i hi => by simp at hi⟩, hb⟩
  | ok r =>
    obtain ⟨v, at2, lf⟩ := r
    have hr2 := hr v at2 lf (by omega) rfl
    refine ⟨v, at2, 0, ⟨rfl, rfl, rfl⟩, fun _ => by omega, fun W hW => (C W hW).mono fun e w' hp => ?_⟩
    obtain ⟨x, he, hx, hb⟩ := hp
    obtain ⟨k, nn, s, ll⟩ := v
    obtain ⟨g, c, rfl, -, -, -, -⟩ := hx.inv
    exact ⟨g, c, he, hx, hb⟩
end Go.Proofs.Ytgamhgeiceakeaa
/- frame.Get's closure for values, by contract. -/
set_option linter.unusedVariables false
set_option linter.unusedSimpArgs false
namespace Go.Proofs.Ytgamhgeiceakeaa
open Go.RowKit
open By (Bs)
open Va (V)
open Me (Ms)
def ValPost (p q : Nat) (ba : Option Addr) (n cap : Nat) (l : Bs) (at' : Nat) (w : World) (e : Ending) (w' : World) : Prop :=
  ∃ (k : Nat) (nn : Int) (s : ByteArray) (ll : List V) (g : Option Addr) (c at2 er2 : Nat), e = .returned (.agg #[.int .u8 k, .int .i64 nn, .string s, .slice g ll.length c]) ∧
    RV (fun b => w.heap.size ≤ b) w' (.mk k nn s ll) (.agg #[.int .u8 k, .int .i64 nn, .string s, .slice g ll.length c]) ∧ GS p q ba n cap l at2 er2 w' ∧ w.grownBy w' (some p) ∧ OneR (Me.val l at') (.mk k nn s ll) at2 er2
/-- cells stored over a block -/
theorem rv_put4 {W : World} {B q : Nat} {v : V} {x a b c d : Value} (h : RV (fun b => B ≤ b) W v x) (hq : q < B) : RV (fun b => B ≤ b) ((((W.setCell ⟨q, 0, none⟩ a).setCell ⟨q, 1, none⟩ b).setCell ⟨q, 2, none⟩ c).setCell ⟨q, 3, none⟩ d) v x := by
  have hs : ∀ (W : World) (i : Nat) (u : Value) (b : Nat), B ≤ b → (W.setCell ⟨q, i, none⟩ u).heap[b]? = W.heap[b]? := fun W i u b hb => Below.heap_setCell _ _ _ _ (fun e => by simp at e; omega)
  exact h.kept (by simp) (fun b hb _ => by rw [hs _ _ _ _ hb, hs _ _ _ _ hb, hs _ _ _ _ hb, hs _ _ _ _ hb])
theorem put4_grown' (w : World) (q : Nat) (a b c d : Value) : w.grownBy ((((w.setCell ⟨q, 0, none⟩ a).setCell ⟨q, 1, none⟩ b).setCell ⟨q, 2, none⟩ c).setCell ⟨q, 3, none⟩ d) (some q) :=
  grown_set (grown_set (grown_set (grown_set (grown_refl _ _) _ _) _ _) _ _) _ _
theorem grown_put4 {w W : World} {r : Option Nat} (h : w.grownBy W r) (q : Nat) (hq : w.heap.size ≤ q) (a b c d : Value) : w.grownBy ((((W.setCell ⟨q, 0, none⟩ a).setCell ⟨q, 1, none⟩ b).setCell ⟨q, 2, none⟩ c).setCell ⟨q, 3, none⟩ d) r := by
  have g := put4_grown' W q a b c d
  exact ⟨g.os.trans h.os, g.tape.trans h.tape, g.output.trans h.output, Nat.le_trans h.size g.size, fun i hi hne => by rw [g.block i (Nat.lt_of_lt_of_le hi h.size) (fun e => by have := Option.some.inj e; omega), h.block i hi hne]⟩
theorem gs_other {p q n cap at' er T : Nat} {ba : Option Addr} {l : Bs} {W W' : World} (h : GS p q ba n cap l at' er W) (hg : W.grownBy W' (some T)) (hp : p ≠ T) (hq : q ≠ T) (hrd : Rd W' ba l) : GS p q ba n cap l at' er W' :=
  ⟨h.gt.kept hg (fun e => hp (Option.some.inj e)), h.bx.kept hg (fun e => hq (Option.some.inj e)), hrd, h.len, h.nil, h.cap, h.max, h.le, h.ne, h.ap⟩
theorem rd_other {w W W' : World} {T : Nat} {ba : Option Addr} {l : Bs} (h0 : Rd w ba l) (h : Rd W ba l) (hg : W.grownBy W' (some T)) (hT : w.heap.size ≤ T) : Rd W' ba l := by
  rcases h0 with h0 | ⟨b', o', e', hlt, _⟩
  · exact Or.inl h0
  · exact h.kept hg (fun b o hb => by rw [hb] at e'; cases e'; omega)
set_option maxHeartbeats 3200000 in
set_option maxRecDepth 100000 in
theorem val1_any (p q : Nat) (ba : Option Addr) (n cap : Nat) (l : Bs) (at' : Nat) (w : World) (h : GS p q ba n cap l at' 0 w) :
    Calls Try.prog 39 #[.pointer (some ⟨q, 0, none⟩)] w (ValPost p q ba n cap l at' w) := by
  have hmx := h.max
  have hle := h.le
  obtain ⟨v, nx, e2, hone, hnx, hC⟩ := get_form ba n cap l at' h.len (by omega) h.nil h.cap h.le
  unfold ValPost
  have HONE := Lib.hid hone
  generalize Me.val l at' = R at HONE ⊢
  clear hone
  obtain ⟨k, nn, s, ll⟩ := v
  have HC := Lib.hid (fun W hW => (show Calls Try.prog 40 #[.slice ba n cap, .int .i64 at'] W (fun e w' => ∃ (g : Option Addr) (c : Nat), e = .returned (.tuple #[.agg #[.int .u8 k, .int .i64 nn, .string s, .slice g ll.length c], .int .i64 nx, .int .i64 e2]) ∧ RV (fun b => W.heap.size ≤ b) w' (.mk k nn s ll) (.agg #[.int .u8 k, .int .i64 nn, .string s, .slice g ll.length c]) ∧ Below W.heap.size W w') from hC W hW))
  have HNX := Lib.hid hnx
  clear hC hnx
  have hplt := h.gt.lt
  have hqlt := h.bx.lt
  have HGW := Lib.hid h
  have hal := (Below.refl w.heap.size w).alloc (Nat.le_refl _) (.cells #[.int .u8 0, .int .i64 0, .string ⟨#[]⟩, .slice none 0 0] 25)
  have hdr : Below w.heap.size w (w.alloc (.cells #[.int .u8 0, .int .i64 0, .string ⟨#[]⟩, .slice none 0 0] 25)).drew := hal.drew
  have HG0 := Lib.hid (h.past hdr)
  have HB0 := Lib.hid hdr
  have HA0 := Lib.hid (show Blk (w.alloc (.cells #[.int .u8 0, .int .i64 0, .string ⟨#[]⟩, .slice none 0 0] 25)).drew w.heap.size #[.int .u8 0, .int .i64 0, .string ⟨#[]⟩, .slice none 0 0] 25 from Blk.new w _ _)
  have c0 := HG0.out.gt.cell 0
  have c1 := HG0.out.gt.cell 1
  have clt := HG0.out.gt.lt
  have d0 := HG0.out.bx.cell 0
  have dlt := HG0.out.bx.lt
  clear h hal hdr
  go_enter Try.func39, Try.ntmps39
  go_upto_region 1 with (fail)
  refine wp_region_T_drew (fun w' => w'.cell? ⟨q, 0, none⟩ = some (.pointer (some ⟨p, 0, none⟩)) ∧ w'.cell? ⟨p, 0, none⟩ = some (.slice ba n cap) ∧ w'.cell? ⟨p, 1, none⟩ = some (.int .i64 at')) 17 (by kernel_rfl) ⟨d0, c0, c1⟩ (fun hS => ?_)
  clear c0 c1 clt d0 dlt
  refine wpAnyT_take 0 rfl (by kernel_rfl) (by kernel_rfl) (by decide) (by kernel_rfl) (by kernel_rfl) (fun _ _ _ h => h) hS (by kernel_rfl) (v := ?_) ?_ ?_
  rotate_left
  · intro w' hSw; (try dsimp only at hSw); go_simp; (try with_reducible rfl)
  simp only [Act.put, List.setIfInBounds_toArray, List.set_cons_zero, List.set_cons_succ]
  refine wpAnyT_take 1 rfl (by kernel_rfl) (by kernel_rfl) (by decide) (by kernel_rfl) (by kernel_rfl) (fun _ _ _ h => h) hS (by kernel_rfl) (v := ?_) ?_ ?_
  rotate_left
  · intro w' hSw; (try dsimp only at hSw); go_simp; (try with_reducible rfl)
  simp only [Act.put, List.setIfInBounds_toArray, List.set_cons_zero, List.set_cons_succ]
  refine wpAnyT_take 2 rfl (by kernel_rfl) (by kernel_rfl) (by decide) (by kernel_rfl) (by kernel_rfl) (fun _ _ _ h => h) hS (by kernel_rfl) (v := ?_) ?_ ?_
  rotate_left
  · intro w' hSw; (try dsimp only at hSw); go_simp; (try with_reducible rfl)
  simp only [Act.put, List.setIfInBounds_toArray, List.set_cons_zero, List.set_cons_succ]
  refine wpAnyT_take 3 rfl (by kernel_rfl) (by kernel_rfl) (by decide) (by kernel_rfl) (by kernel_rfl) (fun _ _ _ h => h) hS (by kernel_rfl) (v := ?_) ?_ ?_
  rotate_left
  · intro w' hSw; (try dsimp only at hSw); go_simp; (try with_reducible rfl)
  simp only [Act.put, List.setIfInBounds_toArray, List.set_cons_zero, List.set_cons_succ]
  refine wpAnyT_take 4 rfl (by kernel_rfl) (by kernel_rfl) (by decide) (by kernel_rfl) (by kernel_rfl) (fun _ _ _ h => h) hS (by kernel_rfl) (v := ?_) ?_ ?_
  rotate_left
  · intro w' hSw; (try dsimp only at hSw); go_simp; (try with_reducible rfl)
  simp only [Act.put, List.setIfInBounds_toArray, List.set_cons_zero, List.set_cons_succ]
  refine wpAnyT_take 5 rfl (by kernel_rfl) (by kernel_rfl) (by decide) (by kernel_rfl) (by kernel_rfl) (fun _ _ _ h => h) hS (by kernel_rfl) (v := ?_) ?_ ?_
  rotate_left
  · intro w' hSw; (try dsimp only at hSw); go_simp; (try with_reducible rfl)
  simp only [Act.put, List.setIfInBounds_toArray, List.set_cons_zero, List.set_cons_succ]
  refine wpAnyT_take 6 rfl (by kernel_rfl) (by kernel_rfl) (by decide) (by kernel_rfl) (by kernel_rfl) (fun _ _ _ h => h) hS (by kernel_rfl) (v := ?_) ?_ ?_
  rotate_left
  · intro w' hSw; (try dsimp only at hSw); go_simp; (try with_reducible rfl)
  simp only [Act.put, List.setIfInBounds_toArray, List.set_cons_zero, List.set_cons_succ]
  refine wpAnyT_take 7 rfl (by kernel_rfl) (by kernel_rfl) (by decide) (by kernel_rfl) (by kernel_rfl) (fun _ _ _ h => h) hS (by kernel_rfl) (v := ?_) ?_ ?_
  rotate_left
  · intro w' hSw; (try dsimp only at hSw); go_simp; (try with_reducible rfl)
  simp only [Act.put, List.setIfInBounds_toArray, List.set_cons_zero, List.set_cons_succ]
  refine wpAnyT_two 8 13 (by kernel_rfl) rfl rfl (by kernel_rfl) (by kernel_rfl) (fun K hK => ?_) (fun K hK => ?_)
  · go_simp
    with_reducible refine (HC.out _ HG0.out.rd).mono ?_
    rintro e W1 ⟨g, c, rfl, hrv, hb⟩
    have HG1 := Lib.hid (HG0.out.past hb)
    have HB1 := Lib.hid (HB0.out.trans (hb.mono HB0.out.size))
    have HA1 := Lib.hid (HA0.out.below hb)
    have HV1 := Lib.hid (hrv.mono (ok' := fun b => w.heap.size + 1 ≤ b) (fun b _ hb => by simp at hb; omega))
    have hS : _ ∧ _ ∧ _ := ⟨HG1.out.bx.cell 0, HG1.out.gt.cell 0, HG1.out.gt.cell 1⟩
    refine hK _ _ (fun _ => hS) ?_
    clear hK K hrv hb
    refine wpAnyT_pure 9 rfl (by kernel_rfl) (by decide) (by kernel_rfl) (by kernel_rfl) (fun _ _ _ h => h) hS (by kernel_rfl) (v := ?_) ?_ ?_
    rotate_left
    · intro w'; go_simp; (try with_reducible rfl)
    simp only [Act.put, List.setIfInBounds_toArray, List.set_cons_zero, List.set_cons_succ]
    refine wpAnyT_pure 10 rfl (by kernel_rfl) (by decide) (by kernel_rfl) (by kernel_rfl) (fun _ _ _ h => h) hS (by kernel_rfl) (v := ?_) ?_ ?_
    rotate_left
    · intro w'; go_simp; (try with_reducible rfl)
    simp only [Act.put, List.setIfInBounds_toArray, List.set_cons_zero, List.set_cons_succ]
    refine wpAnyT_pure 11 rfl (by kernel_rfl) (by decide) (by kernel_rfl) (by kernel_rfl) (fun _ _ _ h => h) hS (by kernel_rfl) (v := ?_) ?_ ?_
    rotate_left
    · intro w'; go_simp; (try with_reducible rfl)
    simp only [Act.put, List.setIfInBounds_toArray, List.set_cons_zero, List.set_cons_succ]
    refine wpAnyT_pure 12 rfl (by kernel_rfl) (by decide) (by kernel_rfl) (by kernel_rfl) (fun _ _ _ h => h) hS (by kernel_rfl) (v := ?_) ?_ ?_
    rotate_left
    · intro w'; go_simp; (try with_reducible rfl)
    simp only [Act.put, List.setIfInBounds_toArray, List.set_cons_zero, List.set_cons_succ]
    refine wpAnyT_one 13 (by kernel_rfl) rfl (by kernel_rfl) (fun K hK => ?_)
    go_simp
    have hal : Below W1.heap.size W1 (W1.alloc (.cells #[.int .u8 0, .int .i64 0, .string ⟨#[]⟩, .slice none 0 0] 25)) := (Below.refl _ _).alloc (Nat.le_refl _) _
    have HG2 := Lib.hid (HG1.out.past hal)
    have hS : _ ∧ _ ∧ _ := ⟨HG2.out.bx.cell 0, HG2.out.gt.cell 0, HG2.out.gt.cell 1⟩
    refine hK _ _ (fun _ => hS) ?_
    clear hK K hal
    refine wpAnyT_one 14 (by kernel_rfl) rfl (by kernel_rfl) (fun K hK => ?_)
    go_simp
    have hfb : Below W1.heap.size W1 (W1.alloc (.cells #[.int .u8 k, .int .i64 nn, .string s, .slice g ll.length c] 25)) := (Below.refl _ _).alloc (Nat.le_refl _) _
    have HG5 := Lib.hid (HG1.out.past hfb)
    have HA5 := Lib.hid (HA1.out.below hfb)
    have HT5 := Lib.hid (Blk.new W1 #[.int .u8 k, .int .i64 nn, .string s, .slice g ll.length c] 25)
    have HB5 := Lib.hid (HB1.out.trans (hfb.mono HB1.out.size))
    have HV5 := Lib.hid (HV1.out.past hfb)
    have htp : W1.heap.size ≠ p := by have := HB1.out.size; omega
    have htw : w.heap.size ≠ W1.heap.size := by have := HA1.out.lt; omega
    clear hfb
    have hS : _ ∧ _ ∧ _ := ⟨HG5.out.bx.cell 0, HG5.out.gt.cell 0, HG5.out.gt.cell 1⟩
    refine hK _ _ (fun _ => hS) ?_
    clear hK K
    refine wpAnyT_pure 15 rfl (by kernel_rfl) (by decide) (by kernel_rfl) (by kernel_rfl) (fun _ _ _ h => h) hS (by kernel_rfl) (v := ?_) ?_ ?_
    rotate_left
    · intro w'; go_simp; (try with_reducible rfl)
    simp only [Act.put, List.setIfInBounds_toArray, List.set_cons_zero, List.set_cons_succ]
    refine wpAnyT_pure 16 rfl (by kernel_rfl) (by decide) (by kernel_rfl) (by kernel_rfl) (fun _ _ _ h => h) hS (by kernel_rfl) (v := ?_) ?_ ?_
    rotate_left
    · intro w'; go_simp; (try with_reducible rfl)
    simp only [Act.put, List.setIfInBounds_toArray, List.set_cons_zero, List.set_cons_succ]
    refine wpAnyT_done (by kernel_rfl) ?_
    clear hS
    have b0 := HG5.out.bx.cell 0
    have blt := HG5.out.bx.lt
    go_wp2_with fail
    with_reducible refine (took_int p _ at' 0 nx e2 _ HG5.out.gt _ _ rfl rfl).mono ?_
    rintro e w6 ⟨rfl, hg6, hgr6⟩
    have HR6 := Lib.hid (grown_trans (below_grown HB5.out (grown_refl _ _)) hgr6)
    have HG6 := Lib.hid (HG5.out.grow hgr6 hg6 (by
      by_cases h0 : e2 = 0
      · rw [if_pos h0]; exact HNX.out h0
      · rw [if_neg h0]; exact hle))
    have HA6 := Lib.hid (HA5.out.kept hgr6 (fun e => by have := Option.some.inj e; omega))
    have HT6 := Lib.hid (HT5.out.kept hgr6 (fun e => htp (Option.some.inj e)))
    have HV6 := Lib.hid (HV5.out.kept hgr6.size (fun b hb hlt => hgr6.block b hlt (fun e => by have := Option.some.inj e; omega)))
    clear hg6 hgr6 b0 blt
    have t0 := HT6.out.cell 0
    have t1 := HT6.out.cell 1
    have t2 := HT6.out.cell 2
    have t3 := HT6.out.cell 3
    have tlt := HT6.out.lt
    have a0 := HA6.out.cell 0
    have a1 := HA6.out.cell 1
    have a2 := HA6.out.cell 2
    have a3 := HA6.out.cell 3
    have alt := HA6.out.lt
    have f0 := HA6.out.free 0
    have f1 := HA6.out.free 1
    have f2 := HA6.out.free 2
    have f3 := HA6.out.free 3
    go_wp2
    have QF := (((HA6.out.set 0 (.int .u8 k)).set 1 (.int .i64 nn)).set 2 (.string s)).set 3 (.slice g ll.length c)
    (try simp only [Exit.inBlock, Exit.then])
    refine bodyPost_ret (results_cell_row rfl _ _ w.heap.size 25 _ (0, 0) _ rfl QF Try.underlying25 rfl (by kernel_rfl)) rfl ?_
    have hf := put4_grown' w6 w.heap.size (.int .u8 k) (.int .i64 nn) (.string s) (.slice g ll.length c)
    exact ⟨k, nn, s, ll, g, c, _, e2, rfl, (rv_put4 HV6.out (by omega)).mono (fun b _ hb => by omega), gs_other HG6.out hf (by omega) (by omega) (rd_other HGW.out.rd HG6.out.rd hf (Nat.le_refl _)), grown_put4 HR6.out _ (Nat.le_refl _) _ _ _ _, HONE.out⟩
  · go_simp
    have hal2 : Below (w.alloc (.cells #[.int .u8 0, .int .i64 0, .string ⟨#[]⟩, .slice none 0 0] 25)).heap.size (w.alloc (.cells #[.int .u8 0, .int .i64 0, .string ⟨#[]⟩, .slice none 0 0] 25)) ((w.alloc (.cells #[.int .u8 0, .int .i64 0, .string ⟨#[]⟩, .slice none 0 0] 25)).alloc (.cells #[.int .u8 0, .int .i64 0, .string ⟨#[]⟩, .slice none 0 0] 25)).drew := ((Below.refl _ _).alloc (Nat.le_refl _) _).drew
    have hal : Below w.heap.size w ((w.alloc (.cells #[.int .u8 0, .int .i64 0, .string ⟨#[]⟩, .slice none 0 0] 25)).alloc (.cells #[.int .u8 0, .int .i64 0, .string ⟨#[]⟩, .slice none 0 0] 25)).drew := ((Below.refl w.heap.size w).alloc (Nat.le_refl _) (.cells #[.int .u8 0, .int .i64 0, .string ⟨#[]⟩, .slice none 0 0] 25)).trans (hal2.mono (by simp))
    have HG1 := Lib.hid (HGW.out.past hal)
    have HA1 := Lib.hid ((Blk.new w #[.int .u8 0, .int .i64 0, .string ⟨#[]⟩, .slice none 0 0] 25).below hal2)
    have HT1 := Lib.hid (show Blk ((w.alloc (.cells #[.int .u8 0, .int .i64 0, .string ⟨#[]⟩, .slice none 0 0] 25)).alloc (.cells #[.int .u8 0, .int .i64 0, .string ⟨#[]⟩, .slice none 0 0] 25)).drew (w.heap.size + 1) #[.int .u8 0, .int .i64 0, .string ⟨#[]⟩, .slice none 0 0] 25 from by
      have := Blk.new (w.alloc (.cells #[.int .u8 0, .int .i64 0, .string ⟨#[]⟩, .slice none 0 0] 25)) #[.int .u8 0, .int .i64 0, .string ⟨#[]⟩, .slice none 0 0] 25
      rw [show (w.alloc (.cells #[.int .u8 0, .int .i64 0, .string ⟨#[]⟩, .slice none 0 0] 25)).heap.size = w.heap.size + 1 by simp] at this
      exact this)
    have hsz1 : ((w.alloc (.cells #[.int .u8 0, .int .i64 0, .string ⟨#[]⟩, .slice none 0 0] 25)).alloc (.cells #[.int .u8 0, .int .i64 0, .string ⟨#[]⟩, .slice none 0 0] 25)).drew.heap.size = w.heap.size + 2 := by simp
    clear hal2
    have HB1 := Lib.hid hal
    have hS : _ ∧ _ ∧ _ := ⟨HG1.out.bx.cell 0, HG1.out.gt.cell 0, HG1.out.gt.cell 1⟩
    refine hK _ _ (fun _ => hS) ?_
    clear hK K hal
    refine wpAnyT_one 8 (by kernel_rfl) rfl (by kernel_rfl) (fun K hK => ?_)
    go_simp
    with_reducible refine (HC.out _ HG1.out.rd).mono ?_
    rintro e W2 ⟨g, c, rfl, hrv, hb⟩
    have HG2 := Lib.hid (HG1.out.past hb)
    have HB2 := Lib.hid (HB1.out.trans (hb.mono HB1.out.size))
    have HA2 := Lib.hid (HA1.out.below hb)
    have HT2 := Lib.hid (HT1.out.below hb)
    have HV2 := Lib.hid (hrv.mono (ok' := fun b => w.heap.size + 2 ≤ b) (fun b _ hb => by omega))
    have hS : _ ∧ _ ∧ _ := ⟨HG2.out.bx.cell 0, HG2.out.gt.cell 0, HG2.out.gt.cell 1⟩
    refine hK _ _ (fun _ => hS) ?_
    clear hK K hrv hb
    refine wpAnyT_pure 9 rfl (by kernel_rfl) (by decide) (by kernel_rfl) (by kernel_rfl) (fun _ _ _ h => h) hS (by kernel_rfl) (v := ?_) ?_ ?_
    rotate_left
    · intro w'; go_simp; (try with_reducible rfl)
    simp only [Act.put, List.setIfInBounds_toArray, List.set_cons_zero, List.set_cons_succ]
    refine wpAnyT_pure 10 rfl (by kernel_rfl) (by decide) (by kernel_rfl) (by kernel_rfl) (fun _ _ _ h => h) hS (by kernel_rfl) (v := ?_) ?_ ?_
    rotate_left
    · intro w'; go_simp; (try with_reducible rfl)
    simp only [Act.put, List.setIfInBounds_toArray, List.set_cons_zero, List.set_cons_succ]
    refine wpAnyT_pure 11 rfl (by kernel_rfl) (by decide) (by kernel_rfl) (by kernel_rfl) (fun _ _ _ h => h) hS (by kernel_rfl) (v := ?_) ?_ ?_
    rotate_left
    · intro w'; go_simp; (try with_reducible rfl)
    simp only [Act.put, List.setIfInBounds_toArray, List.set_cons_zero, List.set_cons_succ]
    refine wpAnyT_pure 12 rfl (by kernel_rfl) (by decide) (by kernel_rfl) (by kernel_rfl) (fun _ _ _ h => h) hS (by kernel_rfl) (v := ?_) ?_ ?_
    rotate_left
    · intro w'; go_simp; (try with_reducible rfl)
    simp only [Act.put, List.setIfInBounds_toArray, List.set_cons_zero, List.set_cons_succ]
    have t0 := HT2.out.cell 0
    have t1 := HT2.out.cell 1
    have t2 := HT2.out.cell 2
    have t3 := HT2.out.cell 3
    have tlt := HT2.out.lt
    have f0 := HT2.out.free 0
    have f1 := HT2.out.free 1
    have f2 := HT2.out.free 2
    have f3 := HT2.out.free 3
    refine wpAnyT_one 14 (by kernel_rfl) rfl (by kernel_rfl) (fun K hK => ?_)
    go_simp
    have hfb := put4_grown' W2 (w.heap.size + 1) (.int .u8 k) (.int .i64 nn) (.string s) (.slice g ll.length c)
    have htp : w.heap.size + 1 ≠ p := by omega
    have htw : w.heap.size ≠ w.heap.size + 1 := by omega
    have HG5 := Lib.hid (gs_other HG2.out hfb (by omega) (by omega) (rd_other HGW.out.rd HG2.out.rd hfb (by omega)))
    have HA5 := Lib.hid (HA2.out.kept hfb (fun e => htw (Option.some.inj e)))
    have HT5 := Lib.hid ((((HT2.out.set 0 (.int .u8 k)).set 1 (.int .i64 nn)).set 2 (.string s)).set 3 (.slice g ll.length c))
    have HB5 := Lib.hid (HB2.out.grown hfb HB2.out.size (fun k hk => by cases hk; omega))
    have HV5 := Lib.hid ((rv_put4 (a := .int .u8 k) (b := .int .i64 nn) (c := .string s) (d := .slice g ll.length c) HV2.out (show w.heap.size + 1 < w.heap.size + 2 by omega)).mono (ok' := fun b => w.heap.size + 1 ≤ b) (fun b _ hb => by omega))
    clear t0 t1 t2 t3 tlt f0 f1 f2 f3 hfb
    have hS : _ ∧ _ ∧ _ := ⟨HG5.out.bx.cell 0, HG5.out.gt.cell 0, HG5.out.gt.cell 1⟩
    refine hK _ _ (fun _ => hS) ?_
    clear hK K
    refine wpAnyT_pure 15 rfl (by kernel_rfl) (by decide) (by kernel_rfl) (by kernel_rfl) (fun _ _ _ h => h) hS (by kernel_rfl) (v := ?_) ?_ ?_
    rotate_left
    · intro w'; go_simp; (try with_reducible rfl)
    simp only [Act.put, List.setIfInBounds_toArray, List.set_cons_zero, List.set_cons_succ]
    refine wpAnyT_pure 16 rfl (by kernel_rfl) (by decide) (by kernel_rfl) (by kernel_rfl) (fun _ _ _ h => h) hS (by kernel_rfl) (v := ?_) ?_ ?_
    rotate_left
    · intro w'; go_simp; (try with_reducible rfl)
    simp only [Act.put, List.setIfInBounds_toArray, List.set_cons_zero, List.set_cons_succ]
    refine wpAnyT_done (by kernel_rfl) ?_
    clear hS
    have b0 := HG5.out.bx.cell 0
    have blt := HG5.out.bx.lt
    go_wp2_with fail
    with_reducible refine (took_int p _ at' 0 nx e2 _ HG5.out.gt _ _ rfl rfl).mono ?_
    rintro e w6 ⟨rfl, hg6, hgr6⟩
    have HR6 := Lib.hid (grown_trans (below_grown HB5.out (grown_refl _ _)) hgr6)
    have HG6 := Lib.hid (HG5.out.grow hgr6 hg6 (by
      by_cases h0 : e2 = 0
      · rw [if_pos h0]; exact HNX.out h0
      · rw [if_neg h0]; exact hle))
    have HA6 := Lib.hid (HA5.out.kept hgr6 (fun e => by have := Option.some.inj e; omega))
    have HT6 := Lib.hid (HT5.out.kept hgr6 (fun e => htp (Option.some.inj e)))
    have HV6 := Lib.hid (HV5.out.kept hgr6.size (fun b hb hlt => hgr6.block b hlt (fun e => by have := Option.some.inj e; omega)))
    clear hg6 hgr6 b0 blt
    have t0 := HT6.out.cell 0
    have t1 := HT6.out.cell 1
    have t2 := HT6.out.cell 2
    have t3 := HT6.out.cell 3
    have tlt := HT6.out.lt
    have a0 := HA6.out.cell 0
    have a1 := HA6.out.cell 1
    have a2 := HA6.out.cell 2
    have a3 := HA6.out.cell 3
    have alt := HA6.out.lt
    have f0 := HA6.out.free 0
    have f1 := HA6.out.free 1
    have f2 := HA6.out.free 2
    have f3 := HA6.out.free 3
    go_wp2
    have QF := (((HA6.out.set 0 (.int .u8 k)).set 1 (.int .i64 nn)).set 2 (.string s)).set 3 (.slice g ll.length c)
    (try simp only [Exit.inBlock, Exit.then])
    refine bodyPost_ret (results_cell_row rfl _ _ w.heap.size 25 _ (0, 0) _ rfl QF Try.underlying25 rfl (by kernel_rfl)) rfl ?_
    have hf := put4_grown' w6 w.heap.size (.int .u8 k) (.int .i64 nn) (.string s) (.slice g ll.length c)
    exact ⟨k, nn, s, ll, g, c, _, e2, rfl, (rv_put4 HV6.out (by omega)).mono (fun b _ hb => by omega), gs_other HG6.out hf (by omega) (by omega) (rd_other HGW.out.rd HG6.out.rd hf (Nat.le_refl _)), grown_put4 HR6.out _ (Nat.le_refl _) _ _ _ _, HONE.out⟩
end Go.Proofs.Ytgamhgeiceakeaa
/- frame.list, by contract: what the three have alike; numbers. -/
set_option linter.unusedVariables false
set_option linter.unusedSimpArgs false
namespace Go.Proofs.Ytgamhgeiceakeaa
open Go.RowKit
open By (Bs)
open Va (V)
open Me (Ms)
theorem grown_row {w W W' : World} {r : Option Nat} {p : Option Nat} (h : w.grownBy W p) (hg : W.grownBy W' r) (hr : ∀ k, r = some k → w.heap.size ≤ k) : w.grownBy W' p :=
  ⟨hg.os.trans h.os, hg.tape.trans h.tape, hg.output.trans h.output, Nat.le_trans h.size hg.size, fun i hi hne => by rw [hg.block i (Nat.lt_of_lt_of_le hi h.size) (fun e => by have := hr i e.symm; omega), h.block i hi hne]⟩
theorem gs_row {p q n cap at' er : Nat} {ba : Option Addr} {l : Bs} {w W W' : World} {r : Option Nat} (h : GS p q ba n cap l at' er W) (hg : W.grownBy W' r) (hr : ∀ k, r = some k → w.heap.size ≤ k) (hp : p < w.heap.size) (hq : q < w.heap.size) (hrd : Rd w ba l) :
    GS p q ba n cap l at' er W' := by
  refine ⟨h.gt.kept hg (fun e => by have := hr p e.symm; omega), h.bx.kept hg (fun e => by have := hr q e.symm; omega), ?_, h.len, h.nil, h.cap, h.max, h.le, h.ne, h.ap⟩
  rcases hrd with h0 | ⟨b, o, e, hlt, _⟩
  · exact Or.inl h0
  · rcases h.rd with h1 | ⟨b', o', e', hlt', hc'⟩
    · exact Or.inl h1
    · rw [e] at e'
      cases e'
      exact Or.inr ⟨b, o, e, Nat.lt_of_lt_of_le hlt' hg.size, fun i hi => by
        rw [World.cell?_of_block (w := W) (hg.block b hlt' (fun e2 => by have := hr b e2.symm; omega))]; exact hc' i hi⟩
/-- the state of the loop: so many are to come -/
def LsS {α : Type} (one : Me.At α) (Row : World → Value → List α → Prop) (R : Except Nat (List α × Nat)) (k at' er : Nat) (W : World) (ov : Value) : Prop :=
  (er = 0 ∧ ∃ acc, Row W ov acc ∧ acc.length + k ≤ 64 ∧ Me.lst one k at' acc = R) ∨ (er ≠ 0 ∧ R = .error er)
/-- what a list tells -/
def LsPost {α : Type} (Row : World → Value → List α → Prop) (R : Except Nat (List α × Nat)) (p q : Nat) (ba : Option Addr) (n cap : Nat) (l : Bs) (w : World) (e : Ending) (w' : World) : Prop :=
  ∃ (g : Option Addr) (m c at2 er2 : Nat), e = .returned (.slice g m c) ∧ GS p q ba n cap l at2 er2 w' ∧ w.grownBy w' (some p) ∧ ((er2 = 0 ∧ ∃ xs, R = .ok (xs, at2) ∧ Row w' (.slice g m c) xs) ∨ (er2 ≠ 0 ∧ R = .error er2))
/-- a list, behind a first error told as one -/
def manyE {α : Type} (l : Bs) (most : Nat) (one : Me.At α) (at' er : Nat) : Except Nat (List α × Nat) := if er ≠ 0 then .error er else Me.many l most one at'
theorem many_start {α : Type} (one : Me.At α) (l : Bs) (most at' er : Nat) (R : Except Nat (List α × Nat)) (hR : R = manyE l most one at' er) :
    ((gnum l at' er).2.2 ≠ 0 → R = .error (gnum l at' er).2.2 ∧ (gnum l at' er).1 = 0) ∧ ((gnum l at' er).2.2 = 0 → (most < (gnum l at' er).1 → R = .error 14) ∧ (¬ most < (gnum l at' er).1 → Me.lst one (gnum l at' er).1 (gnum l at' er).2.1 [] = R) ∧ (gnum l at' er).1 < 18446744073709551616) := by
  subst hR
  unfold manyE gnum
  by_cases h : er ≠ 0
  · rw [if_pos h, if_pos h]
    exact ⟨fun _ => ⟨rfl, rfl⟩, fun h2 => absurd h2 h⟩
  · rw [if_neg h, if_neg h]
    unfold Me.many
    rcases hg : By.gu (l.drop at') with ⟨N, c, e2⟩
    simp only
    by_cases h2 : e2 = 0
    · subst h2
      obtain ⟨_, _, _, g4⟩ := Va.gu_inv _ N c hg
      rw [if_pos rfl, if_neg (by simp)]
      exact ⟨fun h => absurd rfl h, fun _ => ⟨fun h3 => by rw [if_pos h3], fun h3 => by rw [if_neg h3], g4⟩⟩
    · rw [if_neg h2, if_pos h2]
      exact ⟨fun _ => ⟨rfl, rfl⟩, fun h3 => absurd h3 h2⟩
theorem lst_step {α : Type} {one : Me.At α} {k at' : Nat} {acc : List α} {R : Except Nat (List α × Nat)} {x : α} {at2 er2 : Nat} (h : Me.lst one (k + 1) at' acc = R) (h1 : OneR (one at') x at2 er2) :
    (er2 = 0 ∧ Me.lst one k at2 (acc ++ [x]) = R) ∨ (er2 ≠ 0 ∧ R = .error er2) := by
  unfold Me.lst at h
  unfold OneR at h1
  cases hx : one at' with
  | error e =>
    rw [hx] at h h1
    simp only at h h1
    obtain ⟨rfl, h2⟩ := h1
    exact Or.inr ⟨h2, h.symm⟩
  | ok y =>
    obtain ⟨y, a⟩ := y
    rw [hx] at h h1
    simp only at h h1
    obtain ⟨rfl, rfl, rfl⟩ := h1
    exact Or.inl ⟨rfl, h⟩
/-- numbers in a row of the call's own -/
def RowN (B : Nat) (W : World) (ov : Value) (acc : List Int) : Prop := W.ownsRow B 2 1 ov acc.length (acc.map (Value.int .i64))
theorem Try.info_i64 : (Try.prog.info? 2).map (fun i => (i.zero, i.size, i.bytes)) = some (some (.int .i64 0), 1, 8) := by kernel_rfl
theorem row_shape {w : World} {B size n : Nat} {T : TypeId} {v : Value} {xs : List Value} (h : w.ownsRow B T size v n xs) : ∃ g c, v = .slice g n c := by
  rcases h.2 with ⟨rfl, h0⟩ | ⟨g, cap, cur, h1, _⟩
  · exact ⟨none, 0, by rw [h0]⟩
  · exact ⟨_, cap, h1⟩
set_option maxHeartbeats 3200000 in
set_option maxRecDepth 100000 in
theorem listN_any (p q : Nat) (ba : Option Addr) (n cap : Nat) (l : Bs) (at' er : Nat) (w : World) (h : GS p q ba n cap l at' er w) (R : Except Nat (List Int × Nat)) (hR : R = manyE l 64 (Me.num l) at' er) :
    Calls Try.prog 34 #[.pointer (some ⟨p, 0, none⟩), .int .i64 64, .func (.func 35) #[] #[.pointer (some ⟨q, 0, none⟩)]] w (LsPost (RowN w.heap.size) R p q ba n cap l w) := by
  have hmx := h.max
  have hplt := h.gt.lt
  have hqlt := h.bx.lt
  have HRD := Lib.hid h.rd
  have CU := Lib.hid (guint_any p ba n cap l at' er w h.gt h.len h.rd h.le (by omega))
  have hle := gnum_le l at' er (by rw [h.len]; exact h.le)
  rw [h.len] at hle
  obtain ⟨s1, s2⟩ := many_start (Me.num l) l 64 at' er R hR
  generalize gnum l at' er = G at CU hle s1 s2
  obtain ⟨N, a1, e1⟩ := G
  simp only at CU hle s1 s2
  have HG := Lib.hid h
  clear h hR
  go_enter Try.func34, Try.ntmps34
  go_wp2_with fail
  with_reducible refine (CU.out).mono ?_
  rintro e w1 ⟨rfl, hg1, hgr1⟩
  have HS1 := Lib.hid (HG.out.grow hgr1 hg1 hle)
  have HW1 := Lib.hid hgr1
  clear hg1 hgr1 CU
  have g0 := HS1.out.gt.cell 2
  have glt := HS1.out.gt.lt
  have gf := HS1.out.gt.free 2
  by_cases h1 : e1 = 0
  · subst h1
    obtain ⟨s3, s4, s5⟩ := s2 rfl
    by_cases h2 : 64 < N
    · have h2' : (64 : Int) < (N : Int) := by omega
      have HR14 := Lib.hid (s3 h2)
      clear s1 s2 s3 s4
      go_wp2_with fail
      have HS2 := Lib.hid (HS1.out.grow (grown_set (grown_refl _ _) 2 (.int .i64 14)) (HS1.out.gt.set 2 (.int .i64 14)) HS1.out.le)
      have HW2 := Lib.hid (grown_set HW1.out 2 (.int .i64 14))
      clear g0 glt gf
      go_loopw [7, 8] (fun nv ov wr => ∃ (k at2 er2 : Nat) (g : Option Addr) (m c : Nat), k < 18446744073709551616 ∧ nv = .int .u64 k ∧ ov = .slice g m c ∧ GS p q ba n cap l at2 er2 wr ∧ w.grownBy wr (some p) ∧ LsS (Me.num l) (RowN w.heap.size) R k at2 er2 wr (.slice g m c)) (fun nv _ _ => (intOf nv).toNat)
      case atStart => exact ⟨N, a1, 14, none, 0, 0, s5, rfl, rfl, HS2.out, HW2.out, Or.inr ⟨by decide, HR14.out⟩⟩
      case round =>
        obtain ⟨k, at2, er2, g, m, c, hk, rfl, rfl, hgs, hgr, hst⟩ := hrel
        have HS := Lib.hid hgs
        have HW := Lib.hid hgr
        have HST := Lib.hid hst
        have g0 := hgs.gt.cell 2
        have glt := hgs.gt.lt
        clear hgs hgr hst
        by_cases hgo : 0 < k ∧ er2 = 0
        · obtain ⟨hk0, rfl⟩ := hgo
          obtain ⟨j, rfl⟩ : ∃ j, k = j + 1 := ⟨k - 1, by omega⟩
          have hj0 : (0 : Int) < ((j + 1 : Nat) : Int) := by omega
          obtain ⟨acc, hrow, hlen, hlst⟩ : ∃ acc, RowN w.heap.size wr (.slice g m c) acc ∧ acc.length + (j + 1) ≤ 64 ∧ Me.lst (Me.num l) (j + 1) at2 acc = R := by
            rcases HST.out with ⟨_, h⟩ | ⟨h, _⟩
            · exact h
            · exact absurd rfl h
          have HROW := Lib.hid hrow
          have HLST := Lib.hid hlst
          clear hrow hlst HST
          go_wp2_with fail
          with_reducible refine (num1_any p q ba n cap l at2 wr HS.out).mono ?_
          rintro e w1 ⟨x, at3, er3, rfl, hg1, hgr1, hone⟩
          have HS1 := Lib.hid hg1
          have HW1 := Lib.hid (grown_trans HW.out hgr1)
          have HO1 := Lib.hid (World.ownsRow.kept HROW.out hgr1 (Or.inr (fun e => by have := (HROW.out.lt _ e).1; omega)))
          have hst := lst_step HLST.out hone
          have HST := Lib.hid hst
          clear hg1 hgr1 hone hst HROW HLST g0 glt
          obtain ⟨i0, hi0, hz0, hz1, hz2⟩ := info_parts Try.info_i64
          have hsz1 := HW1.out.size
          go_wp2_with (at_builtin; refine wpList_append_gw _ rfl _ _ 26 rfl w.heap.size 2 i0 (.int .i64 0) 1 8 Try.underlying26 hi0 hz0 hz1 hz2 rfl (by decide) (.slice g m c) acc.length (acc.map (Value.int .i64)) rfl (HO1.out.alloc _) ⟨w1.heap.size, 0, none⟩ 1 1 [.int .i64 x] rfl rfl ?c1 ?c2 ?c3 ?c4 ?c5 ?_)
          case c1 =>
            intro j u hj
            exact cells_new _ #[.int .i64 x] _ _ rfl j u (by simpa using hj)
          case c2 => intro u hu; simp only [List.mem_singleton] at hu; subst hu; rfl
          case c3 => unfold maxLen; omega
          case c4 => omega
          case c5 => simp; omega
          intro v2 w2 hown hg hnn
          obtain ⟨g2, c2, rfl⟩ := row_shape hown
          have hal : Below w1.heap.size w1 (w1.alloc (.cells #[.int .i64 x] 2)) := (Below.refl _ _).alloc (Nat.le_refl _) _
          have hown' : RowN w.heap.size w2 (.slice g2 (acc.length + 1) c2) (acc ++ [x]) := by
            unfold RowN; rw [List.length_append, List.map_append]; exact hown
          have hrk : ∀ k, (Value.slice g m c).ownBlock = some k → w.heap.size ≤ k := fun k hk => (HO1.out.lt _ hk).1
          have HS2 := Lib.hid (gs_row (HS1.out.past hal) hg.grown hrk hplt hqlt HRD.out)
          have HW2 := Lib.hid (grown_row (grown_below HW1.out hal) hg.grown hrk)
          have hst2 : LsS (Me.num l) (RowN w.heap.size) R j at3 er3 w2 (.slice g2 (acc.length + 1) c2) := by
            rcases HST.out with ⟨h0, h1⟩ | h0
            · exact Or.inl ⟨h0, _, hown', by rw [List.length_append, List.length_singleton]; omega, h1⟩
            · exact Or.inr h0
          have HST2 := Lib.hid hst2
          clear hown hg hnn hal hown' hrk hst2 hi0 hz0 hz1 hz2 HO1 HST HS1 HW1
          go_wp2
          go_roundw
          case rel => exact ⟨j, at3, er3, g2, acc.length + 1, c2, by omega, by go_num, rfl, HS2.out, HW2.out, HST2.out⟩
          case measure => (simp [intOf] <;> omega)
        · have hend : k = 0 ∨ er2 ≠ 0 := by omega
          have hres : (er2 = 0 ∧ ∃ xs, R = .ok (xs, at2) ∧ RowN w.heap.size wr (.slice g m c) xs) ∨ (er2 ≠ 0 ∧ R = .error er2) := by
            rcases HST.out with ⟨h0, acc, h1, -, h2⟩ | h
            · subst h0
              obtain rfl : k = 0 := by omega
              unfold Me.lst at h2
              exact Or.inl ⟨rfl, acc, h2.symm, h1⟩
            · exact Or.inr h
          have HRES := Lib.hid hres
          clear hres HST hgo
          by_cases hk0 : k = 0
          · subst hk0
            clear hend
            go_wp2
            go_ret
            exact ⟨g, m, c, at2, er2, rfl, HS.out, HW.out, HRES.out⟩
          · have hk1 : (0 : Int) < (k : Int) := by omega
            have her : ((er2 : Int) == 0) = false := bneI (by omega)
            clear hend
            go_wp2
            go_ret
            exact ⟨g, m, c, at2, er2, rfl, HS.out, HW.out, HRES.out⟩
    · have h2' : ¬ (64 : Int) < (N : Int) := by omega
      have HRL := Lib.hid (s4 h2)
      clear s1 s2 s3 s4
      go_wp2_with fail
      clear g0 glt gf
      go_loopw [7, 8] (fun nv ov wr => ∃ (k at2 er2 : Nat) (g : Option Addr) (m c : Nat), k < 18446744073709551616 ∧ nv = .int .u64 k ∧ ov = .slice g m c ∧ GS p q ba n cap l at2 er2 wr ∧ w.grownBy wr (some p) ∧ LsS (Me.num l) (RowN w.heap.size) R k at2 er2 wr (.slice g m c)) (fun nv _ _ => (intOf nv).toNat)
      case atStart => exact ⟨N, a1, 0, none, 0, 0, s5, rfl, rfl, HS1.out, HW1.out, Or.inl ⟨rfl, [], World.ownsRow_nil _ _ _ _, (by simp; omega), HRL.out⟩⟩
      case round =>
        obtain ⟨k, at2, er2, g, m, c, hk, rfl, rfl, hgs, hgr, hst⟩ := hrel
        have HS := Lib.hid hgs
        have HW := Lib.hid hgr
        have HST := Lib.hid hst
        have g0 := hgs.gt.cell 2
        have glt := hgs.gt.lt
        clear hgs hgr hst
        by_cases hgo : 0 < k ∧ er2 = 0
        · obtain ⟨hk0, rfl⟩ := hgo
          obtain ⟨j, rfl⟩ : ∃ j, k = j + 1 := ⟨k - 1, by omega⟩
          have hj0 : (0 : Int) < ((j + 1 : Nat) : Int) := by omega
          obtain ⟨acc, hrow, hlen, hlst⟩ : ∃ acc, RowN w.heap.size wr (.slice g m c) acc ∧ acc.length + (j + 1) ≤ 64 ∧ Me.lst (Me.num l) (j + 1) at2 acc = R := by
            rcases HST.out with ⟨_, h⟩ | ⟨h, _⟩
            · exact h
            · exact absurd rfl h
          have HROW := Lib.hid hrow
          have HLST := Lib.hid hlst
          clear hrow hlst HST
          go_wp2_with fail
          with_reducible refine (num1_any p q ba n cap l at2 wr HS.out).mono ?_
          rintro e w1 ⟨x, at3, er3, rfl, hg1, hgr1, hone⟩
          have HS1 := Lib.hid hg1
          have HW1 := Lib.hid (grown_trans HW.out hgr1)
          have HO1 := Lib.hid (World.ownsRow.kept HROW.out hgr1 (Or.inr (fun e => by have := (HROW.out.lt _ e).1; omega)))
          have hst := lst_step HLST.out hone
          have HST := Lib.hid hst
          clear hg1 hgr1 hone hst HROW HLST g0 glt
          obtain ⟨i0, hi0, hz0, hz1, hz2⟩ := info_parts Try.info_i64
          have hsz1 := HW1.out.size
          go_wp2_with (at_builtin; refine wpList_append_gw _ rfl _ _ 26 rfl w.heap.size 2 i0 (.int .i64 0) 1 8 Try.underlying26 hi0 hz0 hz1 hz2 rfl (by decide) (.slice g m c) acc.length (acc.map (Value.int .i64)) rfl (HO1.out.alloc _) ⟨w1.heap.size, 0, none⟩ 1 1 [.int .i64 x] rfl rfl ?c1 ?c2 ?c3 ?c4 ?c5 ?_)
          case c1 =>
            intro j u hj
            exact cells_new _ #[.int .i64 x] _ _ rfl j u (by simpa using hj)
          case c2 => intro u hu; simp only [List.mem_singleton] at hu; subst hu; rfl
          case c3 => unfold maxLen; omega
          case c4 => omega
          case c5 => simp; omega
          intro v2 w2 hown hg hnn
          obtain ⟨g2, c2, rfl⟩ := row_shape hown
          have hal : Below w1.heap.size w1 (w1.alloc (.cells #[.int .i64 x] 2)) := (Below.refl _ _).alloc (Nat.le_refl _) _
          have hown' : RowN w.heap.size w2 (.slice g2 (acc.length + 1) c2) (acc ++ [x]) := by
            unfold RowN; rw [List.length_append, List.map_append]; exact hown
          have hrk : ∀ k, (Value.slice g m c).ownBlock = some k → w.heap.size ≤ k := fun k hk => (HO1.out.lt _ hk).1
          have HS2 := Lib.hid (gs_row (HS1.out.past hal) hg.grown hrk hplt hqlt HRD.out)
          have HW2 := Lib.hid (grown_row (grown_below HW1.out hal) hg.grown hrk)
          have hst2 : LsS (Me.num l) (RowN w.heap.size) R j at3 er3 w2 (.slice g2 (acc.length + 1) c2) := by
            rcases HST.out with ⟨h0, h1⟩ | h0
            · exact Or.inl ⟨h0, _, hown', by rw [List.length_append, List.length_singleton]; omega, h1⟩
            · exact Or.inr h0
          have HST2 := Lib.hid hst2
          clear hown hg hnn hal hown' hrk hst2 hi0 hz0 hz1 hz2 HO1 HST HS1 HW1
          go_wp2
          go_roundw
          case rel => exact ⟨j, at3, er3, g2, acc.length + 1, c2, by omega, by go_num, rfl, HS2.out, HW2.out, HST2.out⟩
          case measure => (simp [intOf] <;> omega)
        · have hend : k = 0 ∨ er2 ≠ 0 := by omega
          have hres : (er2 = 0 ∧ ∃ xs, R = .ok (xs, at2) ∧ RowN w.heap.size wr (.slice g m c) xs) ∨ (er2 ≠ 0 ∧ R = .error er2) := by
            rcases HST.out with ⟨h0, acc, h1, -, h2⟩ | h
            · subst h0
              obtain rfl : k = 0 := by omega
              unfold Me.lst at h2
              exact Or.inl ⟨rfl, acc, h2.symm, h1⟩
            · exact Or.inr h
          have HRES := Lib.hid hres
          clear hres HST hgo
          by_cases hk0 : k = 0
          · subst hk0
            clear hend
            go_wp2
            go_ret
            exact ⟨g, m, c, at2, er2, rfl, HS.out, HW.out, HRES.out⟩
          · have hk1 : (0 : Int) < (k : Int) := by omega
            have her : ((er2 : Int) == 0) = false := bneI (by omega)
            clear hend
            go_wp2
            go_ret
            exact ⟨g, m, c, at2, er2, rfl, HS.out, HW.out, HRES.out⟩
  · have her : ((e1 : Int) == 0) = false := bneI (by omega)
    obtain ⟨hRe, rfl⟩ := s1 h1
    have HRE := Lib.hid hRe
    clear s1 s2 hRe
    go_wp2_with fail
    clear g0 glt gf
    go_loopw [7, 8] (fun nv ov wr => ∃ (k at2 er2 : Nat) (g : Option Addr) (m c : Nat), k < 18446744073709551616 ∧ nv = .int .u64 k ∧ ov = .slice g m c ∧ GS p q ba n cap l at2 er2 wr ∧ w.grownBy wr (some p) ∧ LsS (Me.num l) (RowN w.heap.size) R k at2 er2 wr (.slice g m c)) (fun nv _ _ => (intOf nv).toNat)
    case atStart => exact ⟨0, a1, e1, none, 0, 0, by decide, rfl, rfl, HS1.out, HW1.out, Or.inr ⟨h1, HRE.out⟩⟩
    case round =>
      obtain ⟨k, at2, er2, g, m, c, hk, rfl, rfl, hgs, hgr, hst⟩ := hrel
      have HS := Lib.hid hgs
      have HW := Lib.hid hgr
      have HST := Lib.hid hst
      have g0 := hgs.gt.cell 2
      have glt := hgs.gt.lt
      clear hgs hgr hst
      by_cases hgo : 0 < k ∧ er2 = 0
      · obtain ⟨hk0, rfl⟩ := hgo
        obtain ⟨j, rfl⟩ : ∃ j, k = j + 1 := ⟨k - 1, by omega⟩
        have hj0 : (0 : Int) < ((j + 1 : Nat) : Int) := by omega
        obtain ⟨acc, hrow, hlen, hlst⟩ : ∃ acc, RowN w.heap.size wr (.slice g m c) acc ∧ acc.length + (j + 1) ≤ 64 ∧ Me.lst (Me.num l) (j + 1) at2 acc = R := by
          rcases HST.out with ⟨_, h⟩ | ⟨h, _⟩
          · exact h
          · exact absurd rfl h
        have HROW := Lib.hid hrow
        have HLST := Lib.hid hlst
        clear hrow hlst HST
        go_wp2_with fail
        with_reducible refine (num1_any p q ba n cap l at2 wr HS.out).mono ?_
        rintro e w1 ⟨x, at3, er3, rfl, hg1, hgr1, hone⟩
        have HS1 := Lib.hid hg1
        have HW1 := Lib.hid (grown_trans HW.out hgr1)
        have HO1 := Lib.hid (World.ownsRow.kept HROW.out hgr1 (Or.inr (fun e => by have := (HROW.out.lt _ e).1; omega)))
        have hst := lst_step HLST.out hone
        have HST := Lib.hid hst
        clear hg1 hgr1 hone hst HROW HLST g0 glt
        obtain ⟨i0, hi0, hz0, hz1, hz2⟩ := info_parts Try.info_i64
        have hsz1 := HW1.out.size
        go_wp2_with (at_builtin; refine wpList_append_gw _ rfl _ _ 26 rfl w.heap.size 2 i0 (.int .i64 0) 1 8 Try.underlying26 hi0 hz0 hz1 hz2 rfl (by decide) (.slice g m c) acc.length (acc.map (Value.int .i64)) rfl (HO1.out.alloc _) ⟨w1.heap.size, 0, none⟩ 1 1 [.int .i64 x] rfl rfl ?c1 ?c2 ?c3 ?c4 ?c5 ?_)
        case c1 =>
          intro j u hj
          exact cells_new _ #[.int .i64 x] _ _ rfl j u (by simpa using hj)
        case c2 => intro u hu; simp only [List.mem_singleton] at hu; subst hu; rfl
        case c3 => unfold maxLen; omega
        case c4 => omega
        case c5 => simp; omega
        intro v2 w2 hown hg hnn
        obtain ⟨g2, c2, rfl⟩ := row_shape hown
        have hal : Below w1.heap.size w1 (w1.alloc (.cells #[.int .i64 x] 2)) := (Below.refl _ _).alloc (Nat.le_refl _) _
        have hown' : RowN w.heap.size w2 (.slice g2 (acc.length + 1) c2) (acc ++ [x]) := by
          unfold RowN; rw [List.length_append, List.map_append]; exact hown
        have hrk : ∀ k, (Value.slice g m c).ownBlock = some k → w.heap.size ≤ k := fun k hk => (HO1.out.lt _ hk).1
        have HS2 := Lib.hid (gs_row (HS1.out.past hal) hg.grown hrk hplt hqlt HRD.out)
        have HW2 := Lib.hid (grown_row (grown_below HW1.out hal) hg.grown hrk)
        have hst2 : LsS (Me.num l) (RowN w.heap.size) R j at3 er3 w2 (.slice g2 (acc.length + 1) c2) := by
          rcases HST.out with ⟨h0, h1⟩ | h0
          · exact Or.inl ⟨h0, _, hown', by rw [List.length_append, List.length_singleton]; omega, h1⟩
          · exact Or.inr h0
        have HST2 := Lib.hid hst2
        clear hown hg hnn hal hown' hrk hst2 hi0 hz0 hz1 hz2 HO1 HST HS1 HW1
        go_wp2
        go_roundw
        case rel => exact ⟨j, at3, er3, g2, acc.length + 1, c2, by omega, by go_num, rfl, HS2.out, HW2.out, HST2.out⟩
        case measure => (simp [intOf] <;> omega)
      · have hend : k = 0 ∨ er2 ≠ 0 := by omega
        have hres : (er2 = 0 ∧ ∃ xs, R = .ok (xs, at2) ∧ RowN w.heap.size wr (.slice g m c) xs) ∨ (er2 ≠ 0 ∧ R = .error er2) := by
          rcases HST.out with ⟨h0, acc, h1, -, h2⟩ | h
          · subst h0
            obtain rfl : k = 0 := by omega
            unfold Me.lst at h2
            exact Or.inl ⟨rfl, acc, h2.symm, h1⟩
          · exact Or.inr h
        have HRES := Lib.hid hres
        clear hres HST hgo
        by_cases hk0 : k = 0
        · subst hk0
          clear hend
          go_wp2
          go_ret
          exact ⟨g, m, c, at2, er2, rfl, HS.out, HW.out, HRES.out⟩
        · have hk1 : (0 : Int) < (k : Int) := by omega
          have her : ((er2 : Int) == 0) = false := bneI (by omega)
          clear hend
          go_wp2
          go_ret
          exact ⟨g, m, c, at2, er2, rfl, HS.out, HW.out, HRES.out⟩
end Go.Proofs.Ytgamhgeiceakeaa
/- frame.list of values, by contract. -/
set_option linter.unusedVariables false
set_option linter.unusedSimpArgs false
namespace Go.Proofs.Ytgamhgeiceakeaa
open Go.RowKit
open By (Bs)
open Va (V)
open Me (Ms)
/-- values in a row of the call's own -/
def RowV (B : Nat) (W : World) (ov : Value) (acc : List V) : Prop := ∃ xs, Four xs ∧ W.ownsRow B 25 4 ov xs.length (vcs xs) ∧ acc.length = xs.length ∧
  ∀ i (h : i < acc.length) (h' : i < xs.length), RV (fun b => B ≤ b ∧ some b ≠ ov.ownBlock) W acc[i] xs[i]
theorem rowV_nil (B : Nat) (W : World) : RowV B W (.slice none 0 0) [] := ⟨[], (fun x hx => by cases hx), World.ownsRow_nil _ _ _ _, rfl, fun i h => by simp at h⟩
theorem rowV_step {B p : Nat} {wr w1 w2 : World} {ov ov' : Value} {acc : List V} {xs : List Value} {v : V} {o : Obj} {c0 c1 c2 c3 : Value} (hp : p < B) (hB : B ≤ wr.heap.size) (hf : Four xs) (hown0 : wr.ownsRow B 25 4 ov xs.length (vcs xs)) (hl : acc.length = xs.length)
    (hall : ∀ i (h : i < acc.length) (h' : i < xs.length), RV (fun b => B ≤ b ∧ some b ≠ ov.ownBlock) wr acc[i] xs[i]) (hG : wr.grownBy w1 (some p)) (hgw : Gw (w1.alloc o) w2 ov ov')
    (hown : w2.ownsRow B 25 4 ov' (xs.length + 1) (vcs xs ++ [c0, c1, c2, c3])) (hx : RV (fun b => wr.heap.size ≤ b) w1 v (.agg #[c0, c1, c2, c3])) : RowV B w2 ov' (acc ++ [v]) := by
  have hlt := hown0.lt
  have hal : Below w1.heap.size w1 (w1.alloc o) := (Below.refl _ _).alloc (Nat.le_refl _) _
  have key : ∀ (u : V) (y : Value), RV (fun b => B ≤ b ∧ some b ≠ ov.ownBlock) w1 u y → RV (fun b => B ≤ b ∧ some b ≠ ov'.ownBlock) w2 u y := fun u y hu => by
    have h1 : RV (fun b => (B ≤ b ∧ some b ≠ ov.ownBlock) ∧ some b ≠ ov'.ownBlock) w1 u y := hu.mono fun b hb ho => ⟨ho, fun e => by
      rcases hgw.own with q | ⟨j, q, hj⟩
      · exact ho.2 (e.trans q)
      · rw [q] at e; cases e; have := hal.size; omega⟩
    have h2 : RV (fun b => (B ≤ b ∧ some b ≠ ov.ownBlock) ∧ some b ≠ ov'.ownBlock) w2 u y := h1.kept (Nat.le_trans hal.size hgw.grown.size) fun b ho hb => by
      rw [hgw.grown.block b (Nat.lt_of_lt_of_le hb hal.size) ho.1.2, hal.block b hb]
    exact h2.mono fun b _ ho => ⟨ho.1.1, ho.2⟩
  refine ⟨xs ++ [.agg #[c0, c1, c2, c3]], ?_, by rw [vcs_snoc, List.length_append]; exact hown, by simp [hl], fun i h1 h2 => ?_⟩
  · intro x hx
    rcases List.mem_append.1 hx with hx | hx
    · exact hf x hx
    · rw [List.mem_singleton.1 hx]; exact ⟨_, _, _, _, rfl⟩
  · by_cases hi : i < acc.length
    · rw [List.getElem_append_left hi, List.getElem_append_left (by omega)]
      refine key _ _ ((hall i hi (by omega)).kept hG.size fun b ho hb => hG.block b hb (fun e => by cases e; omega))
    · have : i = acc.length := by simp at h1; omega
      subst this
      rw [List.getElem_append_right (Nat.le_refl _), List.getElem_append_right (by omega)]
      simp only [Nat.sub_self, hl, List.getElem_cons_zero]
      refine key _ _ (hx.mono fun b _ hb => ⟨by omega, fun e => ?_⟩)
      have := (hlt b e.symm).2
      omega
set_option maxHeartbeats 3200000 in
set_option maxRecDepth 100000 in
theorem listV_any (p q : Nat) (ba : Option Addr) (n cap : Nat) (l : Bs) (at' er : Nat) (w : World) (h : GS p q ba n cap l at' er w) (R : Except Nat (List V × Nat)) (hR : R = manyE l 64 (Me.val l) at' er) :
    Calls Try.prog 38 #[.pointer (some ⟨p, 0, none⟩), .int .i64 64, .func (.func 39) #[] #[.pointer (some ⟨q, 0, none⟩)]] w (LsPost (RowV w.heap.size) R p q ba n cap l w) := by
  have hmx := h.max
  have hplt := h.gt.lt
  have hqlt := h.bx.lt
  have HRD := Lib.hid h.rd
  have CU := Lib.hid (guint_any p ba n cap l at' er w h.gt h.len h.rd h.le (by omega))
  have hle := gnum_le l at' er (by rw [h.len]; exact h.le)
  rw [h.len] at hle
  obtain ⟨s1, s2⟩ := many_start (Me.val l) l 64 at' er R hR
  generalize gnum l at' er = G at CU hle s1 s2
  obtain ⟨N, a1, e1⟩ := G
  simp only at CU hle s1 s2
  have HG := Lib.hid h
  clear h hR
  go_enter Try.func38, Try.ntmps38
  go_wp2_with fail
  with_reducible refine (CU.out).mono ?_
  rintro e w1 ⟨rfl, hg1, hgr1⟩
  have HS1 := Lib.hid (HG.out.grow hgr1 hg1 hle)
  have HW1 := Lib.hid hgr1
  clear hg1 hgr1 CU
  have g0 := HS1.out.gt.cell 2
  have glt := HS1.out.gt.lt
  have gf := HS1.out.gt.free 2
  by_cases h1 : e1 = 0
  · subst h1
    obtain ⟨s3, s4, s5⟩ := s2 rfl
    by_cases h2 : 64 < N
    · have h2' : (64 : Int) < (N : Int) := by omega
      have HR14 := Lib.hid (s3 h2)
      clear s1 s2 s3 s4
      go_wp2_with fail
      have HS2 := Lib.hid (HS1.out.grow (grown_set (grown_refl _ _) 2 (.int .i64 14)) (HS1.out.gt.set 2 (.int .i64 14)) HS1.out.le)
      have HW2 := Lib.hid (grown_set HW1.out 2 (.int .i64 14))
      clear g0 glt gf
      go_loopw [7, 8] (fun nv ov wr => ∃ (k at2 er2 : Nat) (g : Option Addr) (m c : Nat), k < 18446744073709551616 ∧ nv = .int .u64 k ∧ ov = .slice g m c ∧ GS p q ba n cap l at2 er2 wr ∧ w.grownBy wr (some p) ∧ LsS (Me.val l) (RowV w.heap.size) R k at2 er2 wr (.slice g m c)) (fun nv _ _ => (intOf nv).toNat)
      case atStart => exact ⟨N, a1, 14, none, 0, 0, s5, rfl, rfl, HS2.out, HW2.out, Or.inr ⟨by decide, HR14.out⟩⟩
      case round =>
        obtain ⟨k, at2, er2, g, m, c, hk, rfl, rfl, hgs, hgr, hst⟩ := hrel
        have HS := Lib.hid hgs
        have HW := Lib.hid hgr
        have HST := Lib.hid hst
        have g0 := hgs.gt.cell 2
        have glt := hgs.gt.lt
        clear hgs hgr hst
        by_cases hgo : 0 < k ∧ er2 = 0
        · obtain ⟨hk0, rfl⟩ := hgo
          obtain ⟨j, rfl⟩ : ∃ j, k = j + 1 := ⟨k - 1, by omega⟩
          have hj0 : (0 : Int) < ((j + 1 : Nat) : Int) := by omega
          obtain ⟨acc, hrow, hlen, hlst⟩ : ∃ acc, RowV w.heap.size wr (.slice g m c) acc ∧ acc.length + (j + 1) ≤ 64 ∧ Me.lst (Me.val l) (j + 1) at2 acc = R := by
            rcases HST.out with ⟨_, h⟩ | ⟨h, _⟩
            · exact h
            · exact absurd rfl h
          have HROW := Lib.hid hrow
          have HLST := Lib.hid hlst
          clear hrow hlst HST
          go_wp2_with fail
          with_reducible refine (val1_any p q ba n cap l at2 wr HS.out).mono ?_
          rintro e w1 ⟨vk, vn, vs, vl, vg, vc, at3, er3, rfl, hrv, hg1, hgr1, hone⟩
          obtain ⟨xs, hf, hown0, hl, hall⟩ := HROW.out
          have HS1 := Lib.hid hg1
          have HW1 := Lib.hid (grown_trans HW.out hgr1)
          have HO1 := Lib.hid (World.ownsRow.kept hown0 hgr1 (Or.inr (fun e => by have := (hown0.lt _ e).1; omega)))
          have hst := lst_step HLST.out hone
          have HST := Lib.hid hst
          have hwrs := HW.out.size
          have HSTEP := Lib.hid (fun o w2 ov' hgw hown => rowV_step (o := o) (w2 := w2) (ov' := ov') hplt hwrs hf hown0 hl hall hgr1 hgw hown hrv)
          clear hg1 hgr1 hone hst HROW HLST g0 glt hown0 hall hrv hf
          obtain ⟨i0, hi0, hz0, hz1, hz2⟩ := info_parts Try.info_value
          have hsz1 := HW1.out.size
          go_wp2_with (at_builtin; refine wpList_append_gw _ rfl _ _ 23 rfl w.heap.size 25 i0 _ 4 56 Try.underlying23 hi0 hz0 hz1 hz2 rfl (by decide) (.slice g m c) xs.length (vcs xs) rfl (HO1.out.alloc _) ⟨w1.heap.size, 0, none⟩ 1 1 [.int .u8 vk, .int .i64 vn, .string vs, .slice vg vl.length vc] rfl rfl ?c1 ?c2 ?c3 ?c4 ?c5 ?_)
          case c1 =>
            intro j u hj
            exact cells_new _ #[.int .u8 vk, .int .i64 vn, .string vs, .slice vg vl.length vc] _ _ rfl j u (by simpa using hj)
          case c2 => intro u hu; simp only [List.mem_cons, List.not_mem_nil, or_false] at hu; rcases hu with rfl | rfl | rfl | rfl <;> rfl
          case c3 => unfold maxLen; omega
          case c4 => omega
          case c5 => simp; omega
          intro v2 w2 hown hg hnn
          obtain ⟨g2, c2, rfl⟩ := row_shape hown
          have hal : Below w1.heap.size w1 (w1.alloc (.cells #[.int .u8 vk, .int .i64 vn, .string vs, .slice vg vl.length vc] 25)) := (Below.refl _ _).alloc (Nat.le_refl _) _
          have hown' := HSTEP.out _ _ _ hg hown
          have hrk : ∀ k, (Value.slice g m c).ownBlock = some k → w.heap.size ≤ k := fun k hk => (HO1.out.lt _ hk).1
          have HS2 := Lib.hid (gs_row (HS1.out.past hal) hg.grown hrk hplt hqlt HRD.out)
          have HW2 := Lib.hid (grown_row (grown_below HW1.out hal) hg.grown hrk)
          have hst2 : LsS (Me.val l) (RowV w.heap.size) R j at3 er3 w2 (.slice g2 (xs.length + 1) c2) := by
            rcases HST.out with ⟨h0, h1⟩ | h0
            · exact Or.inl ⟨h0, _, hown', by rw [List.length_append, List.length_singleton]; omega, h1⟩
            · exact Or.inr h0
          have HST2 := Lib.hid hst2
          clear hown hg hnn hal hown' hrk hst2 hi0 hz0 hz1 hz2 HO1 HST HS1 HW1 HSTEP
          go_wp2
          go_roundw
          case rel => exact ⟨j, at3, er3, g2, xs.length + 1, c2, by omega, by go_num, rfl, HS2.out, HW2.out, HST2.out⟩
          case measure => (simp [intOf] <;> omega)
        · have hend : k = 0 ∨ er2 ≠ 0 := by omega
          have hres : (er2 = 0 ∧ ∃ xs, R = .ok (xs, at2) ∧ RowV w.heap.size wr (.slice g m c) xs) ∨ (er2 ≠ 0 ∧ R = .error er2) := by
            rcases HST.out with ⟨h0, acc, h1, -, h2⟩ | h
            · subst h0
              obtain rfl : k = 0 := by omega
              unfold Me.lst at h2
              exact Or.inl ⟨rfl, acc, h2.symm, h1⟩
            · exact Or.inr h
          have HRES := Lib.hid hres
          clear hres HST hgo
          by_cases hk0 : k = 0
          · subst hk0
            clear hend
            go_wp2
            go_ret
            exact ⟨g, m, c, at2, er2, rfl, HS.out, HW.out, HRES.out⟩
          · have hk1 : (0 : Int) < (k : Int) := by omega
            have her : ((er2 : Int) == 0) = false := bneI (by omega)
            clear hend
            go_wp2
            go_ret
            exact ⟨g, m, c, at2, er2, rfl, HS.out, HW.out, HRES.out⟩
    · have h2' : ¬ (64 : Int) < (N : Int) := by omega
      have HRL := Lib.hid (s4 h2)
      clear s1 s2 s3 s4
      go_wp2_with fail
      clear g0 glt gf
      go_loopw [7, 8] (fun nv ov wr => ∃ (k at2 er2 : Nat) (g : Option Addr) (m c : Nat), k < 18446744073709551616 ∧ nv = .int .u64 k ∧ ov = .slice g m c ∧ GS p q ba n cap l at2 er2 wr ∧ w.grownBy wr (some p) ∧ LsS (Me.val l) (RowV w.heap.size) R k at2 er2 wr (.slice g m c)) (fun nv _ _ => (intOf nv).toNat)
      case atStart => exact ⟨N, a1, 0, none, 0, 0, s5, rfl, rfl, HS1.out, HW1.out, Or.inl ⟨rfl, [], rowV_nil _ _, (by simp; omega), HRL.out⟩⟩
      case round =>
        obtain ⟨k, at2, er2, g, m, c, hk, rfl, rfl, hgs, hgr, hst⟩ := hrel
        have HS := Lib.hid hgs
        have HW := Lib.hid hgr
        have HST := Lib.hid hst
        have g0 := hgs.gt.cell 2
        have glt := hgs.gt.lt
        clear hgs hgr hst
        by_cases hgo : 0 < k ∧ er2 = 0
        · obtain ⟨hk0, rfl⟩ := hgo
          obtain ⟨j, rfl⟩ : ∃ j, k = j + 1 := ⟨k - 1, by omega⟩
          have hj0 : (0 : Int) < ((j + 1 : Nat) : Int) := by omega
          obtain ⟨acc, hrow, hlen, hlst⟩ : ∃ acc, RowV w.heap.size wr (.slice g m c) acc ∧ acc.length + (j + 1) ≤ 64 ∧ Me.lst (Me.val l) (j + 1) at2 acc = R := by
            rcases HST.out with ⟨_, h⟩ | ⟨h, _⟩
            · exact h
            · exact absurd rfl h
          have HROW := Lib.hid hrow
          have HLST := Lib.hid hlst
          clear hrow hlst HST
          go_wp2_with fail
          with_reducible refine (val1_any p q ba n cap l at2 wr HS.out).mono ?_
          rintro e w1 ⟨vk, vn, vs, vl, vg, vc, at3, er3, rfl, hrv, hg1, hgr1, hone⟩
          obtain ⟨xs, hf, hown0, hl, hall⟩ := HROW.out
          have HS1 := Lib.hid hg1
          have HW1 := Lib.hid (grown_trans HW.out hgr1)
          have HO1 := Lib.hid (World.ownsRow.kept hown0 hgr1 (Or.inr (fun e => by have := (hown0.lt _ e).1; omega)))
          have hst := lst_step HLST.out hone
          have HST := Lib.hid hst
          have hwrs := HW.out.size
          have HSTEP := Lib.hid (fun o w2 ov' hgw hown => rowV_step (o := o) (w2 := w2) (ov' := ov') hplt hwrs hf hown0 hl hall hgr1 hgw hown hrv)
          clear hg1 hgr1 hone hst HROW HLST g0 glt hown0 hall hrv hf
          obtain ⟨i0, hi0, hz0, hz1, hz2⟩ := info_parts Try.info_value
          have hsz1 := HW1.out.size
          go_wp2_with (at_builtin; refine wpList_append_gw _ rfl _ _ 23 rfl w.heap.size 25 i0 _ 4 56 Try.underlying23 hi0 hz0 hz1 hz2 rfl (by decide) (.slice g m c) xs.length (vcs xs) rfl (HO1.out.alloc _) ⟨w1.heap.size, 0, none⟩ 1 1 [.int .u8 vk, .int .i64 vn, .string vs, .slice vg vl.length vc] rfl rfl ?c1 ?c2 ?c3 ?c4 ?c5 ?_)
          case c1 =>
            intro j u hj
            exact cells_new _ #[.int .u8 vk, .int .i64 vn, .string vs, .slice vg vl.length vc] _ _ rfl j u (by simpa using hj)
          case c2 => intro u hu; simp only [List.mem_cons, List.not_mem_nil, or_false] at hu; rcases hu with rfl | rfl | rfl | rfl <;> rfl
          case c3 => unfold maxLen; omega
          case c4 => omega
          case c5 => simp; omega
          intro v2 w2 hown hg hnn
          obtain ⟨g2, c2, rfl⟩ := row_shape hown
          have hal : Below w1.heap.size w1 (w1.alloc (.cells #[.int .u8 vk, .int .i64 vn, .string vs, .slice vg vl.length vc] 25)) := (Below.refl _ _).alloc (Nat.le_refl _) _
          have hown' := HSTEP.out _ _ _ hg hown
          have hrk : ∀ k, (Value.slice g m c).ownBlock = some k → w.heap.size ≤ k := fun k hk => (HO1.out.lt _ hk).1
          have HS2 := Lib.hid (gs_row (HS1.out.past hal) hg.grown hrk hplt hqlt HRD.out)
          have HW2 := Lib.hid (grown_row (grown_below HW1.out hal) hg.grown hrk)
          have hst2 : LsS (Me.val l) (RowV w.heap.size) R j at3 er3 w2 (.slice g2 (xs.length + 1) c2) := by
            rcases HST.out with ⟨h0, h1⟩ | h0
            · exact Or.inl ⟨h0, _, hown', by rw [List.length_append, List.length_singleton]; omega, h1⟩
            · exact Or.inr h0
          have HST2 := Lib.hid hst2
          clear hown hg hnn hal hown' hrk hst2 hi0 hz0 hz1 hz2 HO1 HST HS1 HW1 HSTEP
          go_wp2
          go_roundw
          case rel => exact ⟨j, at3, er3, g2, xs.length + 1, c2, by omega, by go_num, rfl, HS2.out, HW2.out, HST2.out⟩
          case measure => (simp [intOf] <;> omega)
        · have hend : k = 0 ∨ er2 ≠ 0 := by omega
          have hres : (er2 = 0 ∧ ∃ xs, R = .ok (xs, at2) ∧ RowV w.heap.size wr (.slice g m c) xs) ∨ (er2 ≠ 0 ∧ R = .error er2) := by
            rcases HST.out with ⟨h0, acc, h1, -, h2⟩ | h
            · subst h0
              obtain rfl : k = 0 := by omega
              unfold Me.lst at h2
              exact Or.inl ⟨rfl, acc, h2.symm, h1⟩
            · exact Or.inr h
          have HRES := Lib.hid hres
          clear hres HST hgo
          by_cases hk0 : k = 0
          · subst hk0
            clear hend
            go_wp2
            go_ret
            exact ⟨g, m, c, at2, er2, rfl, HS.out, HW.out, HRES.out⟩
          · have hk1 : (0 : Int) < (k : Int) := by omega
            have her : ((er2 : Int) == 0) = false := bneI (by omega)
            clear hend
            go_wp2
            go_ret
            exact ⟨g, m, c, at2, er2, rfl, HS.out, HW.out, HRES.out⟩
  · have her : ((e1 : Int) == 0) = false := bneI (by omega)
    obtain ⟨hRe, rfl⟩ := s1 h1
    have HRE := Lib.hid hRe
    clear s1 s2 hRe
    go_wp2_with fail
    clear g0 glt gf
    go_loopw [7, 8] (fun nv ov wr => ∃ (k at2 er2 : Nat) (g : Option Addr) (m c : Nat), k < 18446744073709551616 ∧ nv = .int .u64 k ∧ ov = .slice g m c ∧ GS p q ba n cap l at2 er2 wr ∧ w.grownBy wr (some p) ∧ LsS (Me.val l) (RowV w.heap.size) R k at2 er2 wr (.slice g m c)) (fun nv _ _ => (intOf nv).toNat)
    case atStart => exact ⟨0, a1, e1, none, 0, 0, by decide, rfl, rfl, HS1.out, HW1.out, Or.inr ⟨h1, HRE.out⟩⟩
    case round =>
      obtain ⟨k, at2, er2, g, m, c, hk, rfl, rfl, hgs, hgr, hst⟩ := hrel
      have HS := Lib.hid hgs
      have HW := Lib.hid hgr
      have HST := Lib.hid hst
      have g0 := hgs.gt.cell 2
      have glt := hgs.gt.lt
      clear hgs hgr hst
      by_cases hgo : 0 < k ∧ er2 = 0
      · obtain ⟨hk0, rfl⟩ := hgo
        obtain ⟨j, rfl⟩ : ∃ j, k = j + 1 := ⟨k - 1, by omega⟩
        have hj0 : (0 : Int) < ((j + 1 : Nat) : Int) := by omega
        obtain ⟨acc, hrow, hlen, hlst⟩ : ∃ acc, RowV w.heap.size wr (.slice g m c) acc ∧ acc.length + (j + 1) ≤ 64 ∧ Me.lst (Me.val l) (j + 1) at2 acc = R := by
          rcases HST.out with ⟨_, h⟩ | ⟨h, _⟩
          · exact h
          · exact absurd rfl h
        have HROW := Lib.hid hrow
        have HLST := Lib.hid hlst
        clear hrow hlst HST
        go_wp2_with fail
        with_reducible refine (val1_any p q ba n cap l at2 wr HS.out).mono ?_
        rintro e w1 ⟨vk, vn, vs, vl, vg, vc, at3, er3, rfl, hrv, hg1, hgr1, hone⟩
        obtain ⟨xs, hf, hown0, hl, hall⟩ := HROW.out
        have HS1 := Lib.hid hg1
        have HW1 := Lib.hid (grown_trans HW.out hgr1)
        have HO1 := Lib.hid (World.ownsRow.kept hown0 hgr1 (Or.inr (fun e => by have := (hown0.lt _ e).1; omega)))
        have hst := lst_step HLST.out hone
        have HST := Lib.hid hst
        have hwrs := HW.out.size
        have HSTEP := Lib.hid (fun o w2 ov' hgw hown => rowV_step (o := o) (w2 := w2) (ov' := ov') hplt hwrs hf hown0 hl hall hgr1 hgw hown hrv)
        clear hg1 hgr1 hone hst HROW HLST g0 glt hown0 hall hrv hf
        obtain ⟨i0, hi0, hz0, hz1, hz2⟩ := info_parts Try.info_value
        have hsz1 := HW1.out.size
        go_wp2_with (at_builtin; refine wpList_append_gw _ rfl _ _ 23 rfl w.heap.size 25 i0 _ 4 56 Try.underlying23 hi0 hz0 hz1 hz2 rfl (by decide) (.slice g m c) xs.length (vcs xs) rfl (HO1.out.alloc _) ⟨w1.heap.size, 0, none⟩ 1 1 [.int .u8 vk, .int .i64 vn, .string vs, .slice vg vl.length vc] rfl rfl ?c1 ?c2 ?c3 ?c4 ?c5 ?_)
        case c1 =>
          intro j u hj
          exact cells_new _ #[.int .u8 vk, .int .i64 vn, .string vs, .slice vg vl.length vc] _ _ rfl j u (by simpa using hj)
        case c2 => intro u hu; simp only [List.mem_cons, List.not_mem_nil, or_false] at hu; rcases hu with rfl | rfl | rfl | rfl <;> rfl
        case c3 => unfold maxLen; omega
        case c4 => omega
        case c5 => simp; omega
        intro v2 w2 hown hg hnn
        obtain ⟨g2, c2, rfl⟩ := row_shape hown
        have hal : Below w1.heap.size w1 (w1.alloc (.cells #[.int .u8 vk, .int .i64 vn, .string vs, .slice vg vl.length vc] 25)) := (Below.refl _ _).alloc (Nat.le_refl _) _
        have hown' := HSTEP.out _ _ _ hg hown
        have hrk : ∀ k, (Value.slice g m c).ownBlock = some k → w.heap.size ≤ k := fun k hk => (HO1.out.lt _ hk).1
        have HS2 := Lib.hid (gs_row (HS1.out.past hal) hg.grown hrk hplt hqlt HRD.out)
        have HW2 := Lib.hid (grown_row (grown_below HW1.out hal) hg.grown hrk)
        have hst2 : LsS (Me.val l) (RowV w.heap.size) R j at3 er3 w2 (.slice g2 (xs.length + 1) c2) := by
          rcases HST.out with ⟨h0, h1⟩ | h0
          · exact Or.inl ⟨h0, _, hown', by rw [List.length_append, List.length_singleton]; omega, h1⟩
          · exact Or.inr h0
        have HST2 := Lib.hid hst2
        clear hown hg hnn hal hown' hrk hst2 hi0 hz0 hz1 hz2 HO1 HST HS1 HW1 HSTEP
        go_wp2
        go_roundw
        case rel => exact ⟨j, at3, er3, g2, xs.length + 1, c2, by omega, by go_num, rfl, HS2.out, HW2.out, HST2.out⟩
        case measure => (simp [intOf] <;> omega)
      · have hend : k = 0 ∨ er2 ≠ 0 := by omega
        have hres : (er2 = 0 ∧ ∃ xs, R = .ok (xs, at2) ∧ RowV w.heap.size wr (.slice g m c) xs) ∨ (er2 ≠ 0 ∧ R = .error er2) := by
          rcases HST.out with ⟨h0, acc, h1, -, h2⟩ | h
          · subst h0
            obtain rfl : k = 0 := by omega
            unfold Me.lst at h2
            exact Or.inl ⟨rfl, acc, h2.symm, h1⟩
          · exact Or.inr h
        have HRES := Lib.hid hres
        clear hres HST hgo
        by_cases hk0 : k = 0
        · subst hk0
          clear hend
          go_wp2
          go_ret
          exact ⟨g, m, c, at2, er2, rfl, HS.out, HW.out, HRES.out⟩
        · have hk1 : (0 : Int) < (k : Int) := by omega
          have her : ((er2 : Int) == 0) = false := bneI (by omega)
          clear hend
          go_wp2
          go_ret
          exact ⟨g, m, c, at2, er2, rfl, HS.out, HW.out, HRES.out⟩
end Go.Proofs.Ytgamhgeiceakeaa
