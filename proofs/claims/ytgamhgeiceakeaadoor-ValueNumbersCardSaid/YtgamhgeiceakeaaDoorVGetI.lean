/- package value: the getter's value, by contract, for any bytes; Get. -/
import Derived.Test.YtgamhgeiceakeaaDoorVGetH
set_option linter.unusedVariables false
set_option linter.unusedSimpArgs false
namespace Go.Proofs.YtgamhgeiceakeaaDoor
open Go.RowKit
open Va (V)
theorem value_any (n cap : Nat) (ba : Option Addr) (l : List UInt8) (hn : l.length = n) (hmx : n ≤ 1099511627776) (hb0 : ba = none → n = 0) (hnc : n ≤ cap) : ∀ (lv : Nat), lv ≤ 16 → ∀ (p at' left : Nat) (w : World), Gv w p (.slice ba n cap) at' left 0 → Rd w ba l → (l ≠ [] → ∀ b o, ba = some (⟨b, o, none⟩ : Addr) → b ≠ p) → at' ≤ n → left ≤ 256 →
    Calls Tryd.prog 32 #[.pointer (some ⟨p, 0, none⟩), .int .i64 lv] w (VaPost p (.slice ba n cap) (Va.gv l lv at' left) w)
  | 0, _, p, at', left, w, hg, hr, hp, ha, hl => by
    have := value_short p ba n cap at' left 0 w hg (Or.inr rfl) hl (by omega)
    unfold Va.gv; exact this
  | lv + 1, hlv, p, at', left, w, hg, hr, hp, ha, hl => by
    have ih := value_any n cap ba l hn hmx hb0 hnc lv (by omega)
    unfold Va.gv Va.gv1
    by_cases hl0 : left = 0
    · rw [if_pos hl0]
      exact value_short p ba n cap at' left (lv + 1) w hg (Or.inl hl0) hl hlv
    rw [if_neg hl0]
    by_cases he : at' = n
    · subst he
      have hd : l.drop at' = [] := by rw [← hn]; simp
      rw [hd]
      exact value_end p ba at' cap left (lv + 1) w hg (by omega) (by omega) hl hlv
    have ha' : at' < n := by omega
    have hd : l.drop at' = l[at']'(hn ▸ ha') :: l.drop (at' + 1) := by rw [List.drop_eq_getElem_cons]
    rw [hd]
    simp only
    generalize hx : l[at']'(hn ▸ ha') = x
    by_cases k1 : x.toNat = 1 ∨ x.toNat = 5
    · rw [if_pos k1]
      refine value_int p ba n cap l at' left (lv + 1) w hg hn hr hp ha' hmx (by omega) (by omega) hl hlv _ _ _ rfl _ ⟨?_, ?_⟩
      · rw [hx]; exact k1
      · rw [hx]; rfl
    rw [if_neg k1]
    by_cases k2 : x.toNat = 2
    · rw [if_pos k2]
      by_cases hend : at' + 1 = n
      · have hd1 : l.drop (at' + 1) = [] := by rw [hend, ← hn]; simp
        rw [hd1]
        exact value_bool_end p ba n cap l at' left (lv + 1) w hg hn hr hp ha' hmx (by omega) (by omega) hl hlv (by rw [hx]; exact k2) hend
      · have hend' : at' + 1 < n := by omega
        have hd1 : l.drop (at' + 1) = l[at' + 1]'(hn ▸ hend') :: l.drop (at' + 1 + 1) := by rw [List.drop_eq_getElem_cons]
        rw [hd1]
        simp only
        by_cases hy : 1 < (l[at' + 1]'(hn ▸ hend')).toNat
        · rw [if_pos hy]
          exact value_bool_bad p ba n cap l at' left (lv + 1) w hg hn hr hp ha' hmx (by omega) (by omega) hl hlv (by rw [hx]; exact k2) hend' hy
        · rw [if_neg hy]
          exact value_bool_ok p ba n cap l at' left (lv + 1) w hg hn hr hp ha' hmx (by omega) (by omega) hl hlv (by rw [hx]; exact k2) hend' (by omega)
    rw [if_neg k2]
    by_cases k3 : x.toNat = 3
    · rw [if_pos k3]
      exact value_blob p ba n cap l at' left (lv + 1) w hg hn hr hp ha' hmx (by omega) (by omega) hl hlv hb0 hnc _ _ _ rfl _ ⟨by rw [hx]; exact k3, rfl⟩
    rw [if_neg k3]
    by_cases k4 : x.toNat = 4
    · rw [if_pos k4]
      refine value_tuple p ba n cap l at' left (lv + 1) w hg hn hr hp ha' hmx (by omega) (by omega) hl hlv ?_ _ _ _ rfl _ rfl _ ⟨by rw [hx]; exact k4, ?_⟩
      · intro a lf W h1 h2 h3 h4
        have e : ((lv + 1 : Nat) : Int) - 1 = (lv : Nat) := by omega
        rw [e]
        exact ih p a lf W h1 (rd_grown hr h2 hp) hp h3 h4
      · rfl
    rw [if_neg k4]
    exact value_kind p ba n cap l at' left (lv + 1) w hg hn hr hp ha' hmx (by omega) (by omega) hl hlv (by rw [hx]; omega)
theorem results_cell_row3 {P : Program} {fn : Func} {p u v : Tmp} {ty : TypeId} (h : fn.results = #[.cell p ty, .tmp u, .tmp v]) (tmps : Array Value) (w : World) (g : Nat) (t : TypeId) (cs : Array Value) (fr : Nat × Nat) (d : TypeDesc)
    (hp : tmps.getD p undef = .pointer (some ⟨g, 0, none⟩)) (hg : w.heap[g]? = some (.cells cs t fr))
    (hu : P.underlying ty = some d) (hd : (match d with | .struct _ | .array _ _ => true | _ => false) = true) (hi : (P.info? ty).map (·.size) = some cs.size) :
    (results fn tmps).run P w = .ok (.tuple #[.agg cs, tmps.getD u undef, tmps.getD v undef]) w := by
  have hp' : tmps[p]?.getD undef = .pointer (some ⟨g, 0, none⟩) := by simpa using hp
  simp [results, h, hp', asAddr, run_loadVar_row w g t ty cs fr d hg hu hd hi]
/-- what Get tells -/
def GetPost (R : Va.Rs) (w : World) (e : Ending) (w' : World) : Prop := match R with
  | .ok (v, at2, _) => ∃ x, e = .returned (.tuple #[x, .int .i64 at2, .int .i64 0]) ∧ RV (fun b => w.heap.size ≤ b) w' v x ∧ Below w.heap.size w w'
  | .error er => e = .returned (.tuple #[.agg #[.int .u8 0, .int .i64 0, .string ⟨#[]⟩, .slice none 0 0], .int .i64 0, .int .i64 er]) ∧ er ≠ 0 ∧ Below w.heap.size w w'
theorem below_of_grown {w w1 w2 : World} {p B : Nat} (h : Below B w w1) (g : w1.grownBy w2 (some p)) (hp : B ≤ p) (hB : B ≤ w1.heap.size) : Below B w w2 := h.grown g hB (fun k hk => by cases hk; exact hp)
set_option maxHeartbeats 1600000 in
set_option maxRecDepth 100000 in
theorem get_arg (n cap : Nat) (ba : Option Addr) (at' : Int) (w : World) (h : at' < 0 ∨ (n : Int) < at') :
    Calls Tryd.prog 11 #[.slice ba n cap, .int .i64 at'] w (GetPost (.error 2) w) := by
  have hal : Below w.heap.size w (w.alloc (.cells #[.int .u8 0, .int .i64 0, .string ⟨#[]⟩, .slice none 0 0] 25)) := (Below.refl _ _).alloc (Nat.le_refl _) _
  have HA := Lib.hid hal
  clear hal
  by_cases h0 : at' < 0
  · clear h
    go_enter Tryd.func11, Tryd.ntmps11
    go_wp2
    have QF := Blk.new w #[.int .u8 0, .int .i64 0, .string ⟨#[]⟩, .slice none 0 0] 25
    (try simp only [Exit.inBlock, Exit.then])
    refine bodyPost_ret (results_cell_row3 rfl _ _ w.heap.size 25 _ (0, 0) _ rfl QF Tryd.underlying25 rfl (by kernel_rfl)) rfl ?_
    exact ⟨rfl, by decide, HA.out⟩
  · have h1 : (n : Int) < at' := by omega
    clear h
    go_enter Tryd.func11, Tryd.ntmps11
    go_wp2
    have QF := Blk.new w #[.int .u8 0, .int .i64 0, .string ⟨#[]⟩, .slice none 0 0] 25
    (try simp only [Exit.inBlock, Exit.then])
    refine bodyPost_ret (results_cell_row3 rfl _ _ w.heap.size 25 _ (0, 0) _ rfl QF Tryd.underlying25 rfl (by kernel_rfl)) rfl ?_
    exact ⟨rfl, by decide, HA.out⟩
def GRes (w : World) (R : Va.Rs) (er a : Nat) (x : Value) (W : World) : Prop := (er = 0 ∧ ∃ (v : V) (lfn : Nat), R = .ok (v, a, lfn) ∧ RV (fun b => w.heap.size < b) W v x) ∨ (er ≠ 0 ∧ R = .error er)
theorem GRes.past {w W W' : World} {R : Va.Rs} {er a : Nat} {x : Value} (h : GRes w R er a x W) (hb : Below W.heap.size W W') : GRes w R er a x W' := by
  rcases h with ⟨he, v, lfn, h1, h2⟩ | h
  · exact Or.inl ⟨he, v, lfn, h1, h2.past hb⟩
  · exact Or.inr h
theorem gres_of {w W0 W : World} {R : Va.Rs} {er a : Nat} {x : Value} {lf : Int} (hw : w.heap.size < W0.heap.size) (h : (er = 0 ∧ ∃ (v : V) (lfn : Nat), R = .ok (v, a, lfn) ∧ lf = (lfn : Nat) ∧ RV (fun b => W0.heap.size ≤ b) W v x) ∨ (er ≠ 0 ∧ R = .error er)) : GRes w R er a x W := by
  rcases h with ⟨he, v, lfn, h1, _, h2⟩ | h
  · exact Or.inl ⟨he, v, lfn, h1, h2.mono fun b _ h => by omega⟩
  · exact Or.inr h
abbrev put4 (w : World) (q : Nat) (a b c d : Value) : World := ((((w.setCell ⟨q, 0, none⟩ a).setCell ⟨q, 1, none⟩ b).setCell ⟨q, 2, none⟩ c).setCell ⟨q, 3, none⟩ d).drew
theorem put4_grown (w : World) (q : Nat) (a b c d : Value) : w.grownBy (put4 w q a b c d) (some q) :=
  grown_below (grown_set (grown_set (grown_set (grown_set (grown_refl w (some q)) 0 a) 1 b) 2 c) 3 d) (Below.refl _ _).drew
theorem get_ok {w W : World} {R : Va.Rs} {a : Nat} {k0 k1 k2 k3 : Value} (h : GRes w R 0 a (.agg #[k0, k1, k2, k3]) W) (hB : Below w.heap.size w W) (hlt : w.heap.size < W.heap.size) : GetPost R w (.returned (.tuple #[.agg #[k0, k1, k2, k3], .int .i64 a, .int .i64 0])) (put4 W w.heap.size k0 k1 k2 k3) := by
  rcases h with ⟨_, v, lfn, rfl, hx⟩ | ⟨h, _⟩
  · refine ⟨_, rfl, (hx.kept (put4_grown _ _ _ _ _ _).size fun b ho hb => ?_).mono fun b _ h => by omega, below_of_grown hB (put4_grown _ _ _ _ _ _) (Nat.le_refl _) (by omega)⟩
    exact (put4_grown _ _ _ _ _ _).block b hb (fun e => by have := Option.some.inj e; omega)
  · exact absurd rfl h
theorem get_bad {w W : World} {R : Va.Rs} {a er : Nat} {x k0 k1 k2 k3 : Value} (h : GRes w R er a x W) (he : er ≠ 0) (hB : Below w.heap.size w W) (hlt : w.heap.size < W.heap.size) : GetPost R w (.returned (.tuple #[.agg #[.int .u8 0, .int .i64 0, .string ⟨#[]⟩, .slice none 0 0], .int .i64 0, .int .i64 er])) (put4 W w.heap.size k0 k1 k2 k3) := by
  rcases h with ⟨h, _⟩ | ⟨h, rfl⟩
  · exact absurd h he
  · exact ⟨rfl, h, below_of_grown hB (put4_grown _ _ _ _ _ _) (Nat.le_refl _) (by omega)⟩
set_option maxHeartbeats 1600000 in
set_option maxRecDepth 100000 in
theorem get_in (n cap : Nat) (ba : Option Addr) (l : List UInt8) (at' : Nat) (w : World) (hn : l.length = n) (hr : Rd w ba l) (hmx : n ≤ 1099511627776) (hb0 : ba = none → n = 0) (hnc : n ≤ cap) (ha : at' ≤ n) :
    Calls Tryd.prog 11 #[.slice ba n cap, .int .i64 at'] w (GetPost (Va.get l at') w) := by
  have hsz : (w.alloc (.cells #[.int .u8 0, .int .i64 0, .string ⟨#[]⟩, .slice none 0 0] 25)).heap.size = w.heap.size + 1 := by simp
  have Q1 := Blk.new w #[.int .u8 0, .int .i64 0, .string ⟨#[]⟩, .slice none 0 0] 25
  have hb1 : Below w.heap.size w (w.alloc (.cells #[.int .u8 0, .int .i64 0, .string ⟨#[]⟩, .slice none 0 0] 25)) := (Below.refl _ _).alloc (Nat.le_refl _) _
  have hr1 := hr.below hb1
  have hp1 : l ≠ [] → ∀ b o, ba = some (⟨b, o, none⟩ : Addr) → b ≠ w.heap.size + 1 := fun h b o e => by
    rcases hr with h' | ⟨b', o', e', hlt, _⟩
    · exact absurd h' h
    · rw [e] at e'; cases e'; omega
  have h1 : ¬ ((n : Int) < (at' : Int)) := by omega
  have h2 : ¬ ((at' : Int) < 0) := by omega
  generalize hW : w.alloc (.cells #[.int .u8 0, .int .i64 0, .string ⟨#[]⟩, .slice none 0 0] 25) = W1 at hsz Q1 hb1 hr1
  have g2 := Blk.new W1 #[.slice ba n cap, .int .i64 at', .int .i64 256, .int .i64 0] 58
  have hb2 : Below W1.heap.size W1 (W1.alloc (.cells #[.slice ba n cap, .int .i64 at', .int .i64 256, .int .i64 0] 58)) := (Below.refl _ _).alloc (Nat.le_refl _) _
  rw [hsz] at g2
  have CV := Lib.hid (show Calls Tryd.prog 32 #[.pointer (some ⟨w.heap.size + 1, 0, none⟩), .int .i64 16] _ _ from value_any n cap ba l hn hmx hb0 hnc 16 (Nat.le_refl _) (w.heap.size + 1) at' 256 _ g2 (hr1.below hb2) hp1 ha (Nat.le_refl _))
  have HB2 := Lib.hid (hb1.trans (hb2.mono (by omega)))
  have HQ2 := Lib.hid (Q1.below hb2)
  have hs2 : w.heap.size + 1 < (W1.alloc (.cells #[.slice ba n cap, .int .i64 at', .int .i64 256, .int .i64 0] 58)).heap.size := by simp; omega
  clear Q1 hb1 hr1 hp1 g2 hb2 hr
  subst hW
  go_enter Tryd.func11, Tryd.ntmps11
  go_wp2_with fail
  with_reducible refine (CV.out).mono ?_
  intro e w3 hpp
  obtain ⟨kk, nn, s5, b5, m5, c5, a5, lf5, er5, rfl, hg5, hr5, hres⟩ := part_of hpp
  clear hpp CV
  have hal : Below w3.heap.size w3 (w3.alloc (.cells #[.int .u8 kk, .int .i64 nn, .string s5, .slice b5 m5 c5] 25)) := (Below.refl _ _).alloc (Nat.le_refl _) _
  have hw3 : w.heap.size + 1 < w3.heap.size := Nat.lt_of_lt_of_le hs2 hr5.size
  have Q4 := (HQ2.out.kept hr5 (fun e => by have := Option.some.inj e; omega)).below hal
  have G4 : Gv _ (w.heap.size + 1) (.slice ba n cap) a5 lf5 er5 := hg5.below hal
  have T4 := Blk.new w3 #[.int .u8 kk, .int .i64 nn, .string s5, .slice b5 m5 c5] 25
  have hB4 : Below w.heap.size w (w3.alloc (.cells #[.int .u8 kk, .int .i64 nn, .string s5, .slice b5 m5 c5] 25)) := (below_of_grown HB2.out hr5 (by omega) (by omega)).trans (hal.mono (by omega))
  have hres4 := (gres_of (w := w) (Nat.lt_of_succ_lt hs2) hres).past hal
  clear hg5 hr5 hres hal HQ2 HB2
  have HRES := Lib.hid hres4
  have HB4 := Lib.hid hB4
  have HQ4 := Lib.hid Q4
  have HG4 := Lib.hid G4
  have HT4 := Lib.hid T4
  clear hres4 hB4
  have g3 := G4.cell 3
  have glt := G4.lt
  clear Q4 G4 T4
  have hne : w.heap.size ≠ w.heap.size + 1 := by omega
  have hne3 : w.heap.size ≠ w3.heap.size := by omega
  by_cases he : er5 = 0
  · subst he
    have g1 := HG4.out.cell 1
    have t0 := HT4.out.cell 0
    have t1 := HT4.out.cell 1
    have t2 := HT4.out.cell 2
    have t3 := HT4.out.cell 3
    have tlt := HT4.out.lt
    go_wp2_with fail
    have hdr : ∀ W : World, Below W.heap.size W W.drew := fun W => (Below.refl W.heap.size W).drew
    have hgr := put4_grown (w3.alloc (.cells #[.int .u8 kk, .int .i64 nn, .string s5, .slice b5 m5 c5] 25)) w.heap.size (.int .u8 kk) (.int .i64 nn) (.string s5) (.slice b5 m5 c5)
    have HTD := Lib.hid (HT4.out.kept hgr (fun e => by have := Option.some.inj e; omega))
    have HGD := Lib.hid (Blk.kept HG4.out hgr (fun e => by have := Option.some.inj e; omega))
    have HQD := Lib.hid ((((((HQ4.out.set 0 (.int .u8 kk)).set 1 (.int .i64 nn)).set 2 (.string s5)).set 3 (.slice b5 m5 c5)).below (Below.refl _ _).drew))
    clear hdr g3 hgr
    refine wp_region_T_drew (fun w' => w'.cell? ⟨w.heap.size + 1, 1, none⟩ = some (.int .i64 a5) ∧ w'.cell? ⟨w3.heap.size, 0, none⟩ = some (.int .u8 kk) ∧ w'.cell? ⟨w3.heap.size, 1, none⟩ = some (.int .i64 nn) ∧ w'.cell? ⟨w3.heap.size, 2, none⟩ = some (.string s5) ∧ w'.cell? ⟨w3.heap.size, 3, none⟩ = some (.slice b5 m5 c5)) 8 (by kernel_rfl) ⟨g1, t0, t1, t2, t3⟩ (fun hS => ?_)
    refine wpAnyT_take 0 rfl (by kernel_rfl) (by kernel_rfl) (by decide) (by kernel_rfl) (by kernel_rfl) (fun _ _ _ h => h) hS (by kernel_rfl) (v := ?_) ?_ ?_
    rotate_left
    · intro w' hSw; (try dsimp only at hSw); go_simp; (try with_reducible rfl)
    simp only [Act.put, List.setIfInBounds_toArray, List.set_cons_zero, List.set_cons_succ]
    refine wpAnyT_take 1 rfl (by kernel_rfl) (by kernel_rfl) (by decide) (by kernel_rfl) (by kernel_rfl) (fun _ _ _ h => h) hS (by kernel_rfl) (v := ?_) ?_ ?_
    rotate_left
    · intro w' hSw; (try dsimp only at hSw); go_simp; (try with_reducible rfl)
    simp only [Act.put, List.setIfInBounds_toArray, List.set_cons_zero, List.set_cons_succ]
    refine wpAnyT_take 2 rfl (by kernel_rfl) (by kernel_rfl) (by decide) (by kernel_rfl) (by kernel_rfl) (fun _ _ _ h => h) hS (by kernel_rfl) (v := ?_) ?_ ?_
    rotate_left
    · intro w' hSw; (try dsimp only at hSw); go_simp; (try with_reducible rfl)
    simp only [Act.put, List.setIfInBounds_toArray, List.set_cons_zero, List.set_cons_succ]
    refine wpAnyT_take 3 rfl (by kernel_rfl) (by kernel_rfl) (by decide) (by kernel_rfl) (by kernel_rfl) (fun _ _ _ h => h) hS (by kernel_rfl) (v := ?_) ?_ ?_
    rotate_left
    · intro w' hSw; (try dsimp only at hSw); go_simp; (try with_reducible rfl)
    simp only [Act.put, List.setIfInBounds_toArray, List.set_cons_zero, List.set_cons_succ]
    refine wpAnyT_take 4 rfl (by kernel_rfl) (by kernel_rfl) (by decide) (by kernel_rfl) (by kernel_rfl) (fun _ _ _ h => h) hS (by kernel_rfl) (v := ?_) ?_ ?_
    rotate_left
    · intro w' hSw; (try dsimp only at hSw); go_simp; (try with_reducible rfl)
    simp only [Act.put, List.setIfInBounds_toArray, List.set_cons_zero, List.set_cons_succ]
    refine wpAnyT_one 5 (by kernel_rfl) rfl (by kernel_rfl) (fun K hK => ?_)
    have q0 := HQ4.out.cell 0
    have q1 := HQ4.out.cell 1
    have q2 := HQ4.out.cell 2
    have q3 := HQ4.out.cell 3
    have qf := fun o => HQ4.out.free o
    have qlt := HQ4.out.lt
    go_simp
    have hS : _ ∧ _ ∧ _ ∧ _ ∧ _ := ⟨HGD.out.cell 1, HTD.out.cell 0, HTD.out.cell 1, HTD.out.cell 2, HTD.out.cell 3⟩
    refine hK _ _ (fun _ => hS) ?_
    clear hK K
    refine wpAnyT_one 6 (by kernel_rfl) rfl (by kernel_rfl) (fun K hK => ?_)
    go_simp
    refine hK _ _ (fun _ => hS) ?_
    clear hK K
    refine wpAnyT_one 7 (by kernel_rfl) rfl (by kernel_rfl) (fun K hK => ?_)
    go_simp
    refine hK _ _ (fun _ => hS) ?_
    clear hK K
    refine wpAnyT_done (by kernel_rfl) ?_
    clear hS g1 t0 t1 t2 t3 tlt q0 q1 q2 q3 qf qlt
    have HF := Lib.hid (get_ok HRES.out HB4.out HQ4.out.lt)
    go_wp2_with fail
    (try simp only [Exit.inBlock, Exit.then])
    refine bodyPost_ret (results_cell_row3 rfl _ _ w.heap.size 25 _ (0, 0) _ rfl HQD.out Tryd.underlying25 rfl (by kernel_rfl)) rfl ?_
    exact HF.out
  · have he2 : ((er5 : Int) != 0) = true := by rw [bne_iff_ne]; omega
    go_wp2_with fail
    have hgr := put4_grown (w3.alloc (.cells #[.int .u8 kk, .int .i64 nn, .string s5, .slice b5 m5 c5] 25)) w.heap.size (.int .u8 0) (.int .i64 0) (.string ⟨#[]⟩) (.slice none 0 0)
    have HGD := Lib.hid (Blk.kept HG4.out hgr (fun e => by have := Option.some.inj e; omega))
    have HQD := Lib.hid ((((((HQ4.out.set 0 (.int .u8 0)).set 1 (.int .i64 0)).set 2 (.string ⟨#[]⟩)).set 3 (.slice none 0 0)).below (Below.refl _ _).drew))
    clear hgr
    refine wp_region_T_drew (fun w' => w'.cell? ⟨w.heap.size + 1, 3, none⟩ = some (.int .i64 er5)) 8 (by kernel_rfl) g3 (fun hS => ?_)
    refine wpAnyT_pure 0 rfl (by kernel_rfl) (by decide) (by kernel_rfl) (by kernel_rfl) (fun _ _ _ h => h) hS (by kernel_rfl) (v := ?_) ?_ ?_
    rotate_left
    · intro w'; go_simp; (try with_reducible rfl)
    simp only [Act.put, List.setIfInBounds_toArray, List.set_cons_zero, List.set_cons_succ]
    refine wpAnyT_take 1 rfl (by kernel_rfl) (by kernel_rfl) (by decide) (by kernel_rfl) (by kernel_rfl) (fun _ _ _ h => h) hS (by kernel_rfl) (v := ?_) ?_ ?_
    rotate_left
    · intro w' hSw; (try dsimp only at hSw); go_simp; (try with_reducible rfl)
    simp only [Act.put, List.setIfInBounds_toArray, List.set_cons_zero, List.set_cons_succ]
    refine wpAnyT_take 2 rfl (by kernel_rfl) (by kernel_rfl) (by decide) (by kernel_rfl) (by kernel_rfl) (fun _ _ _ h => h) hS (by kernel_rfl) (v := ?_) ?_ ?_
    rotate_left
    · intro w' hSw; (try dsimp only at hSw); go_simp; (try with_reducible rfl)
    simp only [Act.put, List.setIfInBounds_toArray, List.set_cons_zero, List.set_cons_succ]
    refine wpAnyT_take 3 rfl (by kernel_rfl) (by kernel_rfl) (by decide) (by kernel_rfl) (by kernel_rfl) (fun _ _ _ h => h) hS (by kernel_rfl) (v := ?_) ?_ ?_
    rotate_left
    · intro w' hSw; (try dsimp only at hSw); go_simp; (try with_reducible rfl)
    simp only [Act.put, List.setIfInBounds_toArray, List.set_cons_zero, List.set_cons_succ]
    refine wpAnyT_take 4 rfl (by kernel_rfl) (by kernel_rfl) (by decide) (by kernel_rfl) (by kernel_rfl) (fun _ _ _ h => h) hS (by kernel_rfl) (v := ?_) ?_ ?_
    rotate_left
    · intro w' hSw; (try dsimp only at hSw); go_simp; (try with_reducible rfl)
    simp only [Act.put, List.setIfInBounds_toArray, List.set_cons_zero, List.set_cons_succ]
    refine wpAnyT_one 5 (by kernel_rfl) rfl (by kernel_rfl) (fun K hK => ?_)
    have q0 := HQ4.out.cell 0
    have q1 := HQ4.out.cell 1
    have q2 := HQ4.out.cell 2
    have q3 := HQ4.out.cell 3
    have qf := fun o => HQ4.out.free o
    have qlt := HQ4.out.lt
    go_simp
    have hS := HGD.out.cell 3
    refine hK _ _ (fun _ => hS) ?_
    clear hK K
    refine wpAnyT_one 6 (by kernel_rfl) rfl (by kernel_rfl) (fun K hK => ?_)
    go_simp
    refine hK _ _ (fun _ => hS) ?_
    clear hK K
    refine wpAnyT_one 7 (by kernel_rfl) rfl (by kernel_rfl) (fun K hK => ?_)
    go_simp
    refine hK _ _ (fun _ => hS) ?_
    clear hK K
    refine wpAnyT_done (by kernel_rfl) ?_
    clear hS g3 glt q0 q1 q2 q3 qf qlt
    have HF := Lib.hid (get_bad (k0 := .int .u8 0) (k1 := .int .i64 0) (k2 := .string ⟨#[]⟩) (k3 := .slice none 0 0) HRES.out he HB4.out HQ4.out.lt)
    go_wp2_with fail
    (try simp only [Exit.inBlock, Exit.then])
    refine bodyPost_ret (results_cell_row3 rfl _ _ w.heap.size 25 _ (0, 0) _ rfl HQD.out Tryd.underlying25 rfl (by kernel_rfl)) rfl ?_
    exact HF.out
end Go.Proofs.YtgamhgeiceakeaaDoor
