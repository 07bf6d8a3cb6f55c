/- PROVED: Rows.SessionLinksSaid: for every input droverlaw07.SessionLinks hands back true, and its arguments read as they did. No condition. A session that begins anew with its link sends the same packets, and is told anew what was not done. -/
import Derived.Test.YtndfelbgppbncaaComD
import Derived.Deep.Cut
/- New over a link with items, Accept and Done, by contract. -/
set_option linter.unusedVariables false
set_option linter.unusedSimpArgs false
namespace Go.Proofs.Ytndfelbgppbncaa
open Go.RowKit
set_option maxHeartbeats 1600000 in
set_option maxRecDepth 100000 in
theorem rightL_yes (last done : Int) (ga : Option Addr) (ca : Nat) (L : List It) (w : World) (h : Ir w ga L) (hs : SeqOk last L) (hlen : L.length ≤ 1024) (hdl : ∀ x ∈ L, x.data.length ≤ 1048576) (hl : last ≤ 2305843009213693952) (h2 : 0 ≤ done ∧ done ≤ 2305843009213693952) :
    Calls Try.prog 46 #[.agg #[.int .i64 last, .slice ga L.length ca, .int .i64 done]] w (BB true w) := by
  obtain ⟨s1, s2⟩ := hs
  obtain ⟨d1, d2⟩ := h2
  have HI := Lib.hid h
  have HS := Lib.hid s2
  have HD := Lib.hid hdl
  have i1 : 0 ≤ last := by omega
  have i2 : ¬ (1024 : Int) < (L.length : Int) := by omega
  have i3 : ¬ last < (L.length : Int) := by omega
  clear h hdl s2
  go_enter Try.func46, Try.ntmps46
  go_wp2
  go_loopw [40] (fun iv wr => ∃ i : Nat, i ≤ L.length ∧ iv = .int .i64 i ∧ Below (w.heap.size + 1) (w.alloc (.cells #[.int .i64 last, .slice ga L.length ca, .int .i64 done] 24)) wr) (fun i _ => L.length - (intOf i).toNat)
  case atStart => exact ⟨0, by omega, rfl, Below.refl _ _⟩
  case round =>
    obtain ⟨i, hi, rfl, hb⟩ := hrel
    have hb' : Below (w.alloc (.cells #[.int .i64 last, .slice ga L.length ca, .int .i64 done] 24)).heap.size (w.alloc (.cells #[.int .i64 last, .slice ga L.length ca, .int .i64 done] 24)) wr := by simpa using hb
    have hx := (Blk.new w #[.int .i64 last, .slice ga L.length ca, .int .i64 done] 24).below hb'
    have hbw : Below w.heap.size w wr := ((Below.refl w.heap.size w).alloc (Nat.le_refl _) _).trans (hb'.mono (by simp))
    have x0 := hx.cell 0
    have x1 := hx.cell 1
    have x2 := hx.cell 2
    have xl := hx.lt
    have HB := Lib.hid hb
    have HBW := Lib.hid hbw
    by_cases hlt : i < L.length
    · have hir := HI.out.below hbw
      obtain ⟨k, rfl, hsrc⟩ : ∃ k, ga = some (⟨k, 0, none⟩ : Addr) ∧ Src wr k L := by
        rcases hir with h | h
        · rw [h] at hlt; simp at hlt
        · exact h
      have a0 := hsrc.c0 i hlt
      have a1 := hsrc.c1 i hlt
      have kl := hsrc.lt
      have hq := HS.out i hlt
      have hdd := HD.out _ (List.getElem_mem hlt)
      generalize L[i] = x at a0 a1 hq hdd
      obtain ⟨xs, xb, xc, xd⟩ := x
      simp only at a0 a1 hq hdd
      have t1 : (xs != last - (L.length : Int) + 1 + (i : Int)) = false := by rw [hq]; simp
      have t2 : ¬ (1048576 : Int) < (xd.length : Int) := by omega
      have hj0 : (0 : Int) ≤ (i : Int) := by omega
      have hj1 : (i : Int) < (L.length : Int) := by omega
      have hw1 : wr.heap.size = wr.heap.size := rfl
      clear hb hb' hx hbw hir hsrc hq hw1
      go_wp2
      go_roundw
      case rel => exact ⟨i + 1, by omega, by go_num, HB.out.alloc (by omega) _⟩
      case measure => simp [intOf]; omega
    · obtain rfl : i = L.length := by omega
      clear hb hb' hx hbw
      go_wp2
      go_ret
      exact ⟨rfl, HBW.out⟩
def NewLPost (me peer life last done : Int) (L : List It) (w : World) (e : Ending) (w' : World) : Prop :=
  ∃ p g c L', e = .returned (.tuple #[.pointer (some ⟨p, 0, none⟩), .int .i64 0]) ∧ Se w' p me peer life last (.slice g L'.length c) done done 0 ∧ Its w' w.heap.size (.slice g L'.length c) L' ∧ keys L' = keys L ∧ w.heap.size ≤ p ∧ Below w.heap.size w w'
set_option maxHeartbeats 1600000 in
set_option maxRecDepth 100000 in
theorem newL_any (me peer life last done : Int) (ga : Option Addr) (ca : Nat) (L : List It) (w : World) (h : Ir w ga L) (hs : SeqOk last L) (hlen : L.length ≤ 1024) (hdl : ∀ x ∈ L, x.data.length ≤ 1048576) (hl : last ≤ 2305843009213693952) (h2 : 0 ≤ done ∧ done ≤ 2305843009213693952)
    (hm : 0 ≤ me ∧ me < 16) (hp : 0 ≤ peer ∧ peer < 16) (hlf : 1 ≤ life ∧ life ≤ 2305843009213693952) :
    Calls Try.prog 10 #[.int .i64 me, .int .i64 peer, .int .i64 life, .agg #[.int .i64 last, .slice ga L.length ca, .int .i64 done]] w (NewLPost me peer life last done L w) := by
  have C1 := Lib.hid (fun w => node_any me w hm)
  have C2 := Lib.hid (fun w => node_any peer w hp)
  have hb0 : Below w.heap.size w (w.alloc (.cells #[.int .i64 last, .slice ga L.length ca, .int .i64 done] 24)) := (Below.refl _ _).alloc (Nat.le_refl _) _
  have C3 := Lib.hid (rightL_yes last done ga ca L _ (h.below hb0) hs hlen hdl hl h2)
  have C4 := Lib.hid (fun W (hW : Below w.heap.size w W) => copied_any last done ga ca L W (h.below hW) hlen hdl)
  have HB0 := Lib.hid hb0
  have hx0 := Blk.new w #[.int .i64 last, .slice ga L.length ca, .int .i64 done] 24
  have HX0 := Lib.hid hx0
  obtain ⟨l1, l2⟩ := hlf
  clear h hs hdl hl h2 hm hp hb0 hx0
  go_enter Try.func10, Try.ntmps10
  go_wp2_with fail
  with_reducible refine (C1.out _).mono ?_
  rintro e w1 ⟨rfl, rfl⟩
  go_wp2_with fail
  with_reducible refine (C2.out _).mono ?_
  rintro e w1 ⟨rfl, rfl⟩
  go_wp2_with fail
  with_reducible refine (C3.out).mono ?_
  rintro e w1 ⟨rfl, hb1⟩
  have hx1 := HX0.out.below hb1
  have HX1 := Lib.hid hx1
  have HB1 := Lib.hid (HB0.out.trans (hb1.mono HB0.out.size))
  clear hb1 hx1
  go_wp2_with fail
  refine wp_region_T_drew (fun w' => w'.cell? ⟨w.heap.size, 0, none⟩ = some (.int .i64 last) ∧ w'.cell? ⟨w.heap.size, 1, none⟩ = some (.slice ga L.length ca) ∧ w'.cell? ⟨w.heap.size, 2, none⟩ = some (.int .i64 done)) 10 (by kernel_rfl) ⟨HX1.out.cell 0, HX1.out.cell 1, HX1.out.cell 2⟩ (fun hS => ?_)
  refine wpAnyT_take 0 rfl (by kernel_rfl) (by kernel_rfl) (by decide) (by kernel_rfl) (by kernel_rfl) (fun _ _ _ h => h) hS (by kernel_rfl) (v := ?_) ?_ ?_
  rotate_left
  · intro w' hSw; (try dsimp only at hSw); go_simp; (try with_reducible rfl)
  simp only [Act.put, List.setIfInBounds_toArray, List.set_cons_zero, List.set_cons_succ]
  refine wpAnyT_take 1 rfl (by kernel_rfl) (by kernel_rfl) (by decide) (by kernel_rfl) (by kernel_rfl) (fun _ _ _ h => h) hS (by kernel_rfl) (v := ?_) ?_ ?_
  rotate_left
  · intro w' hSw; (try dsimp only at hSw); go_simp; (try with_reducible rfl)
  simp only [Act.put, List.setIfInBounds_toArray, List.set_cons_zero, List.set_cons_succ]
  refine wpAnyT_take 2 rfl (by kernel_rfl) (by kernel_rfl) (by decide) (by kernel_rfl) (by kernel_rfl) (fun _ _ _ h => h) hS (by kernel_rfl) (v := ?_) ?_ ?_
  rotate_left
  · intro w' hSw; (try dsimp only at hSw); go_simp; (try with_reducible rfl)
  simp only [Act.put, List.setIfInBounds_toArray, List.set_cons_zero, List.set_cons_succ]
  refine wpAnyT_take 3 rfl (by kernel_rfl) (by kernel_rfl) (by decide) (by kernel_rfl) (by kernel_rfl) (fun _ _ _ h => h) hS (by kernel_rfl) (v := ?_) ?_ ?_
  rotate_left
  · intro w' hSw; (try dsimp only at hSw); go_simp; (try with_reducible rfl)
  simp only [Act.put, List.setIfInBounds_toArray, List.set_cons_zero, List.set_cons_succ]
  refine wpAnyT_take 5 rfl (by kernel_rfl) (by kernel_rfl) (by decide) (by kernel_rfl) (by kernel_rfl) (fun _ _ _ h => h) hS (by kernel_rfl) (v := ?_) ?_ ?_
  rotate_left
  · intro w' hSw; (try dsimp only at hSw); go_simp; (try with_reducible rfl)
  simp only [Act.put, List.setIfInBounds_toArray, List.set_cons_zero, List.set_cons_succ]
  refine wpAnyT_take 6 rfl (by kernel_rfl) (by kernel_rfl) (by decide) (by kernel_rfl) (by kernel_rfl) (fun _ _ _ h => h) hS (by kernel_rfl) (v := ?_) ?_ ?_
  rotate_left
  · intro w' hSw; (try dsimp only at hSw); go_simp; (try with_reducible rfl)
  simp only [Act.put, List.setIfInBounds_toArray, List.set_cons_zero, List.set_cons_succ]
  refine wpAnyT_one 4 (by kernel_rfl) rfl (by kernel_rfl) (fun K hK => ?_)
  go_simp
  have hdr : Below w1.heap.size w1 w1.drew := (Below.refl _ _).drew
  refine (C4.out _ (HB1.out.trans (hdr.mono HB1.out.size))).mono ?_
  rintro e w2 ⟨g, c, L', rfl, hi, hk, hb2⟩
  have hx2 := (HX1.out.below hdr).below hb2
  have hS : _ ∧ _ ∧ _ := ⟨hx2.cell 0, hx2.cell 1, hx2.cell 2⟩
  have HI := Lib.hid hi
  have HK := Lib.hid hk
  have HB2 := Lib.hid ((HB1.out.trans (hdr.mono HB1.out.size)).trans (hb2.mono (Nat.le_trans HB1.out.size hdr.size)))
  have hsz : w.heap.size ≤ w1.drew.heap.size := Nat.le_trans HB1.out.size hdr.size
  clear hi hk hb2 hdr hx2
  refine hK _ _ (fun _ => hS) ?_
  clear hK K
  refine wpAnyT_take 7 rfl (by kernel_rfl) (by kernel_rfl) (by decide) (by kernel_rfl) (by kernel_rfl) (fun _ _ _ h => h) hS (by kernel_rfl) (v := ?_) ?_ ?_
  rotate_left
  · intro w' hSw; (try dsimp only at hSw); go_simp; (try with_reducible rfl)
  simp only [Act.put, List.setIfInBounds_toArray, List.set_cons_zero, List.set_cons_succ]
  refine wpAnyT_one 8 (by kernel_rfl) rfl (by kernel_rfl) (fun K hK => ?_)
  go_simp
  have hba : Below w2.heap.size w2 (w2.alloc (.cells #[.bool true, .int .i64 me, .int .i64 peer, .int .i64 life, .int .i64 last, .slice g L'.length c, .int .i64 done, .int .i64 done, .int .i64 0] 55)) := (Below.refl _ _).alloc (Nat.le_refl _) _
  have hlw : w.heap.size < w2.heap.size := by
    have h1 := hS.1
    unfold World.cell? at h1
    split at h1
    · rename_i hb; exact (Array.getElem?_eq_some_iff.1 hb).1
    · cases h1
  have hS : _ ∧ _ ∧ _ := ⟨(hba.cell (p := ⟨w.heap.size, 0, none⟩) hlw).trans hS.1, (hba.cell (p := ⟨w.heap.size, 1, none⟩) hlw).trans hS.2.1, (hba.cell (p := ⟨w.heap.size, 2, none⟩) hlw).trans hS.2.2⟩
  have HI3 := Lib.hid (HI.out.below hba)
  have HB3 := Lib.hid (HB2.out.trans (hba.mono HB2.out.size))
  have hse := Blk.new w2 #[.bool true, .int .i64 me, .int .i64 peer, .int .i64 life, .int .i64 last, .slice g L'.length c, .int .i64 done, .int .i64 done, .int .i64 0] 55
  have HSE := Lib.hid hse
  clear hse hba
  refine hK _ _ (fun _ => hS) ?_
  clear hK K
  refine wpAnyT_take 9 rfl (by kernel_rfl) (by kernel_rfl) (by decide) (by kernel_rfl) (by kernel_rfl) (fun _ _ _ h => h) hS (by kernel_rfl) (v := ?_) ?_ ?_
  rotate_left
  · intro w' hSw; (try dsimp only at hSw); go_simp; (try with_reducible rfl)
  simp only [Act.put, List.setIfInBounds_toArray, List.set_cons_zero, List.set_cons_succ]
  refine wpAnyT_one 10 (by kernel_rfl) rfl (by kernel_rfl) (fun K hK => ?_)
  go_simp
  refine hK _ _ (fun h => absurd rfl h) ?_
  clear hK K hS
  refine wpAnyT_done (by kernel_rfl) ?_
  go_wp2
  go_ret2
  exact ⟨w2.heap.size, g, c, L', rfl, HSE.out, ⟨HI3.out.own.mono hsz, HI3.out.rd, HI3.out.nil, HI3.out.cap⟩, HK.out, HB2.out.size, HB3.out⟩
def SsPost (B p : Nat) (me peer life last done acc pl : Int) (D : List (List UInt8)) (w : World) (e : Ending) (w' : World) : Prop :=
  e = .returned (.int .i64 0) ∧ Ss w' B p me peer life last done acc pl D ∧ Kb w w' ∧ Below B w w'
theorem ss_put {w w' : World} {B p : Nat} {me peer life last : Int} {out : Value} {L : List It} {done acc pl done' acc' : Int} (hB : B ≤ p) (h1 : SeqOk last L) (h2 : Se w p me peer life last out done acc pl) (h3 : Its w B out L)
    (hs : Se w' p me peer life last out done' acc' pl) (hg : w.grownBy w' (some p)) : Ss w' B p me peer life last done' acc' pl (L.map It.data) ∧ Kb w w' ∧ Below B w w' := by
  have hk := Kb.grown h2 (by decide) (by decide) hg
  have hlt := Blk.lt h2
  exact ⟨⟨hB, out, L, rfl, h1, hs, h3.turned hk hg (fun k hk' e => own_ne h3.own h2 (by decide) (e.trans hk'.symm))⟩, hk, below_row (Below.refl _ _) hg (by omega) (fun k hk' => by have := Option.some.inj hk'; omega)⟩
theorem ss_accept (p B : Nat) (me peer life last done acc pl : Int) (D : List (List UInt8)) (w : World) (h : Ss w B p me peer life last done acc pl D) (x : Int) (hx : x = acc + 1) (ha : 0 ≤ acc ∧ acc ≤ 4611686018427387904) :
    Calls Try.prog 18 #[.pointer (some ⟨p, 0, none⟩), .int .i64 x] w (SsPost B p me peer life last done x pl D w) := by
  obtain ⟨hB, out, L, rfl, h1, h2, h3⟩ := h
  refine (accept_yes p me peer life last out done acc pl w h2 x hx ha).mono fun e w' ⟨he, hs, hg⟩ => ?_
  obtain ⟨a, b, c⟩ := ss_put hB h1 h2 h3 hs hg
  exact ⟨he, a, b, c⟩
theorem ss_done (p B : Nat) (me peer life last done acc pl : Int) (D : List (List UInt8)) (w : World) (h : Ss w B p me peer life last done acc pl D) (x : Int) (hx : done < x) (hx2 : x ≤ acc) :
    Calls Try.prog 19 #[.pointer (some ⟨p, 0, none⟩), .int .i64 x] w (SsPost B p me peer life last x acc pl D w) := by
  obtain ⟨hB, out, L, rfl, h1, h2, h3⟩ := h
  refine (done_yes p me peer life last out done acc pl w h2 x hx hx2).mono fun e w' ⟨he, hs, hg⟩ => ?_
  obtain ⟨a, b, c⟩ := ss_put hB h1 h2 h3 hs hg
  exact ⟨he, a, b, c⟩
end Go.Proofs.Ytndfelbgppbncaa
/- SessionLinks: the walk. -/
set_option linter.unusedVariables false
set_option linter.unusedSimpArgs false
namespace Go.Proofs.Ytndfelbgppbncaa
open Go.RowKit
/-- numbers and bytes of what waits -/
def kd (last : Int) (D : List (List UInt8)) : List (Int × List UInt8) := D.mapIdx fun i d => (last - D.length + 1 + i, d)
def SsLk (last done : Int) (D : List (List UInt8)) (w : World) (e : Ending) (w' : World) : Prop :=
  ∃ g c L', e = .returned (.agg #[.int .i64 last, .slice g L'.length c, .int .i64 done]) ∧ Its w' w.heap.size (.slice g L'.length c) L' ∧ keys L' = kd last D ∧ Below w.heap.size w w'
theorem keys_kd {last : Int} {L : List It} (h : SeqOk last L) : keys L = kd last (L.map It.data) := by
  unfold keys kd
  apply List.ext_getElem
  · simp
  · intro i h1 h2
    simp only [List.getElem_map, List.getElem_mapIdx, List.length_map]
    rw [h.2 i (by simpa using h1)]
theorem kd_keys {last : Int} {L : List It} {D : List (List UInt8)} (h : keys L = kd last D) (hl : (D.length : Int) ≤ last) : SeqOk last L ∧ L.map It.data = D ∧ L.length = D.length := by
  have h0 : L.length = D.length := by
    have := congrArg List.length h
    rw [keys_len] at this; unfold kd at this; rwa [List.length_mapIdx] at this
  have hat : ∀ i (h1 : i < L.length) (h2 : i < D.length), L[i].seq = last - D.length + 1 + i ∧ L[i].data = D[i] := fun i h1 h2 => by
    have a : (keys L)[i]? = some (L[i].seq, L[i].data) := by unfold keys; simp [h1]
    have b : (kd last D)[i]? = some (last - D.length + 1 + i, D[i]) := by unfold kd; simp [h2]
    rw [h, b] at a
    have := Option.some.inj a
    exact ⟨(congrArg Prod.fst this).symm, (congrArg Prod.snd this).symm⟩
  refine ⟨⟨by omega, fun j hj => by rw [(hat j hj (by omega)).1, h0]⟩, ?_, h0⟩
  apply List.ext_getElem
  · simpa using h0
  · intro i h1 h2
    rw [List.getElem_map]; exact (hat i (by simpa using h1) h2).2
theorem ss_link (p B : Nat) (me peer life last done acc pl : Int) (D : List (List UInt8)) (w : World) (h : Ss w B p me peer life last done acc pl D) (hlen : D.length ≤ 1024) (hd : ∀ d ∈ D, d.length ≤ 1048576) :
    Calls Try.prog 21 #[.pointer (some ⟨p, 0, none⟩)] w (SsLk last done D w) := by
  obtain ⟨hB, out, L, rfl, h1, h2, h3⟩ := h
  rw [List.length_map] at hlen
  refine (link_any p B me peer life last done acc pl out L w h2 h3 hlen (fun x hx => hd _ (List.mem_map.2 ⟨x, hx, rfl⟩))).mono fun e w' ⟨g, c, L', he, hi, hk, hb⟩ => ?_
  exact ⟨g, c, L', he, hi, by rw [hk, keys_kd h1], hb⟩
theorem pk_rd {w : World} {B : Nat} {b : Option Addr} {c : Nat} {l : List UInt8} (h : Ow w B (.slice b l.length c) l) : Rd w b l ∧ (b = none → l.length = 0) ∧ l.length ≤ c := by
  obtain ⟨ba, cap, e, hr, hn, hc⟩ := h.rd
  cases e; exact ⟨hr, hn, hc⟩
theorem rd_one (w : World) (x : Int) (c : UInt8) (h : (c.toNat : Int) = x) : Rd (w.alloc (.cells #[.int .u8 x] 5)) (some ⟨w.heap.size, 0, none⟩) [c] := by
  refine Or.inr ⟨w.heap.size, 0, rfl, by simp, fun i hi => ?_⟩
  simp only [List.length_singleton] at hi
  obtain rfl : i = 0 := by omega
  simp [h]
theorem gone_no (last : Int) (n : Nat) (h : (n : Int) ≤ last) : gone last 0 n = 0 := by unfold gone; omega
def SsNewPost (me peer life last done : Int) (D : List (List UInt8)) (w : World) (e : Ending) (w' : World) : Prop :=
  ∃ p, e = .returned (.tuple #[.pointer (some ⟨p, 0, none⟩), .int .i64 0]) ∧ Ss w' w.heap.size p me peer life last done done 0 D ∧ Below w.heap.size w w'
theorem ss_new (me peer life last done : Int) (g : Option Addr) (c : Nat) (L : List It) (D : List (List UInt8)) (w : World) (h : Ir w g L) (hk : keys L = kd last D) (hl0 : (D.length : Int) ≤ last) (hlen : D.length ≤ 1024) (hd : ∀ d ∈ D, d.length ≤ 1048576) (hl : last ≤ 2305843009213693952) (h2 : 0 ≤ done ∧ done ≤ 2305843009213693952)
    (hm : 0 ≤ me ∧ me < 16) (hp : 0 ≤ peer ∧ peer < 16) (hlf : 1 ≤ life ∧ life ≤ 2305843009213693952) :
    Calls Try.prog 10 #[.int .i64 me, .int .i64 peer, .int .i64 life, .agg #[.int .i64 last, .slice g L.length c, .int .i64 done]] w (SsNewPost me peer life last done D w) := by
  obtain ⟨k1, k2, k3⟩ := kd_keys hk hl0
  refine (newL_any me peer life last done g c L w h k1 (by omega) (fun x hx => hd _ (by rw [← k2]; exact List.mem_map.2 ⟨x, hx, rfl⟩)) hl h2 hm hp hlf).mono fun e w' ⟨p, g', c', L', he, hs, hi, hkk, hpp, hb⟩ => ?_
  obtain ⟨j1, j2, j3⟩ := kd_keys (hkk.trans hk) hl0
  exact ⟨p, he, ⟨hpp, _, L', j2, j1, hs, hi⟩, hb⟩
/-- the k-th packet of all that waits -/
def lkPk (life done : Nat) (D : List (List UInt8)) (k : Nat) : By.Pk := if h : k < D.length then ⟨0, life, k + 1, done, D[k]⟩ else ⟨0, life, 0, done, []⟩
theorem pkL_len (me life : Nat) (last : Int) (done : Nat) (D : List (List UInt8)) : (pkL me life last done D).length = max (min D.length 8) 1 := by
  unfold pkL
  by_cases h : D = []
  · subst h; rfl
  · rw [if_neg h]
    have := List.length_pos_iff.2 h
    simp; omega
theorem pkL_lk (D : List (List UInt8)) (n life done k : Nat) (hn : D.length = n) (h : k < (pkL 0 life (n : Int) done D).length) : (pkL 0 life (n : Int) done D)[k] = By.pack (lkPk life done D k) := by
  subst hn
  have hl := pkL_len 0 life (D.length : Int) done D
  rw [hl] at h
  unfold lkPk
  by_cases hd : D = []
  · subst hd
    have hk : k = 0 := by simp at h; omega
    subst hk
    rfl
  · have h0 := List.length_pos_iff.2 hd
    rw [dif_pos (by omega)]
    unfold pkL
    simp only [if_neg hd, List.getElem_mapIdx, List.getElem_take]
    congr 2
    omega
theorem lk_both (D : List (List UInt8)) (done k : Nat) (hD : ∀ d ∈ D, d.length ≤ 20) (hl : D.length ≤ 40) (hk : done ≤ 10) : ∃ sq dd, lkPk 4 done D k = ⟨0, 4, sq, done, dd⟩ ∧ lkPk 5 done D k = ⟨0, 5, sq, done, dd⟩ ∧ (⟨0, 4, sq, done, dd⟩ : By.Pk).right ∧ (⟨0, 5, sq, done, dd⟩ : By.Pk).right := by
  unfold lkPk
  by_cases h : k < D.length
  · refine ⟨k + 1, D[k], by rw [dif_pos h], by rw [dif_pos h], ?_, ?_⟩ <;>
    · have := hD _ (List.getElem_mem h)
      unfold By.Pk.right By.top; simp; omega
  · refine ⟨0, [], by rw [dif_neg h], by rw [dif_neg h], ?_, ?_⟩ <;>
    · unfold By.Pk.right By.top; simp; omega
end Go.Proofs.Ytndfelbgppbncaa
/- SessionLinks: the walk. -/
set_option linter.unusedVariables false
set_option linter.unusedSimpArgs false
namespace Go.Proofs.Ytndfelbgppbncaa
open Go.RowKit
def LnRel (w : World) (p m : Nat) (M : List Bt) (iv : Value) (wr : World) : Prop :=
  ∃ (i : Nat) (pl : Int), 1 ≤ i ∧ i ≤ m + 1 ∧ iv = .int .i64 i ∧ pl ≤ 1 ∧ Ss wr w.heap.size p 0 1 4 M.length 0 ((i : Int) - 1) pl (datas M) ∧ Below w.heap.size w wr
def LnRel2 (W : World) (B p m k n : Nat) (D : List (List UInt8)) (iv : Value) (wr : World) : Prop :=
  ∃ (i : Nat) (pl : Int), 1 ≤ i ∧ i ≤ m + 1 ∧ iv = .int .i64 i ∧ pl ≤ 1 ∧ Ss wr B p 0 1 5 n k (max (k : Int) ((i : Int) - 1)) pl D ∧ Below B W wr
set_option maxHeartbeats 6400000 in
set_option maxRecDepth 100000 in
theorem links_true (ba : Option Addr) (cap : Nat) (M0 : List Bt) (cm dd : Nat) (w : World) (h : Lr w ba M0) (hm : M0.length ≤ 9223372036854775807) (h1 : cm < 256) (h2 : dd < 256)
    (hA : ∀ w, Calls Try.prog 26 #[] w fun e w' => e = .returned (.bool true) ∧ Below w.heap.size w w') :
    Calls Try.prog 8 #[.slice ba M0.length cap, .int .u8 cm, .int .u8 dd] w (TruePost w) := by
  have CF := Lib.hid (filled_any 4 ba cap M0 w h (by omega) hm)
  have HA := Lib.hid hA
  obtain ⟨m, hm1, hm2⟩ : ∃ m : Nat, (cm : Int) % 10 = (m : Nat) ∧ m ≤ 9 := ⟨cm % 10, by omega, by omega⟩
  obtain ⟨k, hk1, hk2⟩ : ∃ k : Nat, (dd : Int) % ((m : Int) + 1) = (k : Nat) ∧ k ≤ m := by
    have g1 := Int.emod_nonneg (dd : Int) (show (m : Int) + 1 ≠ 0 by omega)
    have g2 := Int.emod_lt_of_pos (dd : Int) (show 0 < (m : Int) + 1 by omega)
    exact ⟨((dd : Int) % ((m : Int) + 1)).toNat, by omega, by omega⟩
  clear h hA hm
  go_enter Try.func8, Try.ntmps8
  go_wp2_with fail
  with_reducible refine (CF.out).mono ?_
  rintro e w1 ⟨p, g, c, M, rfl, hM, hs1, hl1, hb1⟩
  have hMl : M.length ≤ 40 := by
    have := congrArg List.length hM
    unfold datas fl at this
    rw [List.length_map] at this
    rw [this]
    exact Nat.le_trans (List.length_filter_le _ _) (by rw [List.length_take]; omega)
  have hMd : ∀ d ∈ datas M, d.length ≤ 20 := fun d hd => by
    rw [hM] at hd; unfold fl at hd; have := (List.mem_filter.1 hd).2; simpa using this
  have hDl : (datas M).length = M.length := by unfold datas; simp
  have HS1 := Lib.hid hs1
  have HB1 := Lib.hid hb1
  have HMD := Lib.hid hMd
  have HDL := Lib.hid hDl
  clear hM hs1 hl1 hb1 hMd hDl CF
  go_wp2
  simp only [hm1, hk1]
  clear hm1 hk1
  go_loopw [12] (fun iv wr => LnRel w p m M iv wr) (fun i _ => m + 1 - (intOf i).toNat)
  case atStart => exact ⟨1, 0, by omega, by omega, rfl, by omega, HS1.out, HB1.out⟩
  case round =>
    obtain ⟨i, pl, hi1, hi, rfl, hpl, hsr, hbr⟩ := hrel
    have HSR := Lib.hid hsr
    have HBR := Lib.hid hbr
    have hsz := hsr.lt
    clear hsr hbr
    by_cases hx : i ≤ m
    · have hx1 : (i : Int) ≤ (m : Int) := by omega
      have hqb : ((UInt8.ofNat i).toNat : Int) = (i : Int) := by rw [UInt8.toNat_ofNat']; omega
      have hP : (⟨1, 1, i, 0, [UInt8.ofNat i]⟩ : By.Pk).right := by unfold By.Pk.right By.top; simp; omega
      have hrd := rd_one wr i (UInt8.ofNat i) hqb
      have CP := Lib.hid (packed_post 1 i 0 1 i 0 rfl rfl rfl (some ⟨wr.heap.size, 0, none⟩) 1 1 [UInt8.ofNat i] (wr.alloc (.cells #[.int .u8 i] 5)) rfl hrd (fun h => by cases h) hP)
      have hba : Below wr.heap.size wr (wr.alloc (.cells #[.int .u8 i] 5)) := (Below.refl _ _).alloc (Nat.le_refl _) _
      have HS2 := Lib.hid (HSR.out.below hba)
      have HB2 := Lib.hid (HBR.out.trans (hba.mono HBR.out.size))
      have HP := Lib.hid hP
      clear hqb hrd hba hP
      go_wp2_with fail
      with_reducible refine (CP.out).mono ?_
      rintro e w3 ⟨b3, c3, rfl, ho3, hb3⟩
      obtain ⟨r3, n3, q3⟩ := pk_rd ho3
      have HB3 := Lib.hid (HB2.out.trans (hb3.mono HB2.out.size))
      have CR := Lib.hid (ss_recv_yes p w.heap.size 0 1 4 M.length 0 ((i : Int) - 1) pl (datas M) ⟨1, 1, i, 0, [UInt8.ofNat i]⟩ b3 _ c3 w3 (HS2.out.below hb3) rfl r3 n3 q3 HP.out rfl (by simpa using hpl) (by simp) (by simp) (by omega) (by have := HDL.out; omega))
      clear ho3 hb3 r3 n3 q3 CP
      go_wp2_with fail
      with_reducible refine (CR.out).mono ?_
      rintro e w4 ⟨g4, c4, rfl, _, hs4, hk4, hb4⟩
      have hs4' : Ss w4 w.heap.size p 0 1 4 M.length 0 ((i : Int) - 1) 1 (datas M) := by
        have h3 := hs4
        rw [show gone (M.length : Int) (((⟨1, 1, i, 0, [UInt8.ofNat i]⟩ : By.Pk).ack : Nat) : Int) (datas M).length = 0 from gone_no _ _ (by have := HDL.out; omega), List.drop_zero] at h3
        exact h3
      have hba : Below w4.heap.size w4 (w4.alloc (.cells #[.int .i64 i, .slice g4 1 c4] 27)) := (Below.refl _ _).alloc (Nat.le_refl _) _
      have HS4 := Lib.hid (hs4'.below hba)
      have HB4 := Lib.hid ((HB3.out.trans hb4).trans (hba.mono (Nat.le_trans HB3.out.size hb4.size)))
      clear hs4 hs4' hk4 hb4 hba CR
      go_wp2_with fail
      with_reducible refine (ss_accept p w.heap.size 0 1 4 M.length 0 ((i : Int) - 1) 1 (datas M) _ HS4.out i (by omega) (by omega)).mono ?_
      rintro e w5 ⟨rfl, hs5, hk5, hb5⟩
      have HS5 := Lib.hid hs5
      have HB5 := Lib.hid (HB4.out.trans hb5)
      clear hs5 hk5 hb5
      have hs6 : Ss w5 w.heap.size p 0 1 4 M.length 0 ((((i + 1 : Nat) : Int)) - 1) 1 (datas M) := by rw [show (((i + 1 : Nat) : Int)) - 1 = (i : Int) by omega]; exact HS5.out
      have HS6 := Lib.hid hs6
      clear hs6 HS5
      go_wp2_with fail
      refine ⟨⟨i + 1, 1, by omega, by omega, by go_num, by omega, HS6.out, HB5.out⟩, by simp [intOf]; omega⟩
    · obtain rfl : i = m + 1 := by omega
      have hx1 : ¬ (((m + 1 : Nat) : Int)) ≤ (m : Int) := by omega
      have hs0 : Ss wr w.heap.size p 0 1 4 M.length 0 m pl (datas M) := by
        have := HSR.out
        rwa [show (((m + 1 : Nat) : Int)) - 1 = (m : Int) by omega] at this
      have HS0 := Lib.hid hs0
      clear hs0 HSR
      by_cases hk0 : k = 0
      · have hkz : decide ((0 : Int) < (k : Int)) = false := by simp; omega
        have hs1 : Ss wr w.heap.size p 0 1 4 M.length k m pl (datas M) := by rw [show (k : Int) = 0 by omega]; exact HS0.out
        have HSA := Lib.hid hs1
        have HBA := Lib.hid HBR.out
        clear hs1 HS0 HBR
        obtain ⟨wa, hwa⟩ : ∃ wa : World, wa = wr := ⟨_, rfl⟩
        subst hwa
        have hkz2 : decide (0 < k) = false := by simp; omega
        clear hk0
        go_wp2_with fail
        clear hkz hkz2
        have hd20 : ∀ d ∈ datas M, d.length ≤ 1048576 := fun d hd => by have := HMD.out d hd; omega
        with_reducible refine (ss_link p w.heap.size 0 1 4 M.length k m pl (datas M) _ HSA.out (by have := HDL.out; omega) hd20).mono ?_
        rintro e w1 ⟨g1, c1, L1, rfl, hi1, hk1, hb1⟩
        have HS1 := Lib.hid (HSA.out.below hb1)
        have HB1 := Lib.hid (HBA.out.trans (hb1.mono HBA.out.size))
        have CN := Lib.hid (ss_new 0 1 5 M.length k g1 c1 L1 (datas M) w1 hi1.ir hk1 (by have := HDL.out; omega) (by have := HDL.out; omega) hd20 (by omega) (by omega) (by omega) (by omega) (by omega))
        clear hi1 hk1 hb1 HSA HBA
        go_wp2_with fail
        with_reducible refine (CN.out).mono ?_
        rintro e w2 ⟨p2, rfl, hs2, hb2⟩
        have HT2 := Lib.hid hs2
        have HS2 := Lib.hid (HS1.out.below hb2)
        have HB2 := Lib.hid (HB1.out.trans (hb2.mono HB1.out.size))
        have hBw : w.heap.size ≤ w1.heap.size := HB1.out.size
        generalize w1.heap.size = B2 at HT2 hBw
        clear hs2 hb2 CN HS1 HB1
        go_wp2_with fail
        with_reducible refine (ss_waiting p2 B2 0 1 5 M.length k k 0 (datas M) _ HT2.out).mono ?_
        rintro e w3 ⟨rfl, rfl⟩
        go_wp2_with fail
        with_reducible refine (ss_waiting p w.heap.size 0 1 4 M.length k m pl (datas M) _ HS2.out).mono ?_
        rintro e w3 ⟨rfl, rfl⟩
        go_wp2_with fail
        with_reducible refine (ss_link p2 B2 0 1 5 M.length k k 0 (datas M) _ HT2.out (by have := HDL.out; omega) hd20).mono ?_
        rintro e w3 ⟨g3, c3, L3, rfl, hi3, hk3, hb3⟩
        have HI3 := Lib.hid hi3.ir
        have HK3 := Lib.hid hk3
        have HT3 := Lib.hid (HT2.out.below hb3)
        have HS3 := Lib.hid (HS2.out.below hb3)
        have HB3 := Lib.hid (HB2.out.trans (hb3.mono HB2.out.size))
        clear hi3 hk3 hb3 HT2 HS2 HB2
        go_wp2_with fail
        with_reducible refine (ss_link p w.heap.size 0 1 4 M.length k m pl (datas M) _ HS3.out (by have := HDL.out; omega) hd20).mono ?_
        rintro e w4 ⟨g4, c4, L4, rfl, hi4, hk4, hb4⟩
        have HT4 := Lib.hid (HT3.out.below hb4)
        have HS4 := Lib.hid (HS3.out.below hb4)
        have HB4 := Lib.hid (HB3.out.trans (hb4.mono HB3.out.size))
        have CL := Lib.hid (sameLink_yes M.length k g3 g4 c3 c4 L3 L4 w4 (HI3.out.below hb4) hi4.ir (by rw [HK3.out, hk4]) (by have h1 := (kd_keys HK3.out (by have := HDL.out; omega)).2.2; have := HDL.out; omega))
        clear hi4 hk4 hb4 HT3 HS3 HB3 HI3 HK3
        go_wp2_with fail
        with_reducible refine (CL.out).mono ?_
        rintro e w5 ⟨rfl, hb5⟩
        have HT5 := Lib.hid (HT4.out.below hb5)
        have HS5 := Lib.hid (HS4.out.below hb5)
        have HB5 := Lib.hid (HB4.out.trans (hb5.mono HB4.out.size))
        clear hb5 CL HT4 HS4 HB4
        go_wp2_with fail
        with_reducible refine (ss_packets p w.heap.size 0 1 4 M.length k m pl 0 4 k (datas M) _ HS5.out rfl rfl rfl (by omega) (by omega) (by omega) (by omega) hd20 (by have := HDL.out; omega)).mono ?_
        rintro e w6 ⟨N1, g6, c6, rfl, hN1, hl6, hb6⟩
        have HT6 := Lib.hid (HT5.out.below hb6)
        have HB6 := Lib.hid (HB5.out.trans (hb6.mono HB5.out.size))
        have HL6 := Lib.hid hl6
        have HN1 := Lib.hid hN1
        clear hb6 hl6 hN1 HT5 HS5 HB5
        go_wp2_with fail
        with_reducible refine (ss_packets p2 B2 0 1 5 M.length k k 0 0 5 k (datas M) _ HT6.out rfl rfl rfl (by omega) (by omega) (by omega) (by omega) hd20 (by have := HDL.out; omega)).mono ?_
        rintro e w7 ⟨N2, g7, c7, rfl, hN2, hl7, hb7⟩
        have HT7 := Lib.hid (HT6.out.below hb7)
        have HB7 := Lib.hid (HB6.out.trans (hb7.mono HB6.out.size))
        have HL7 := Lib.hid (HL6.out.below hb7)
        have HL7b := Lib.hid hl7
        have HN2 := Lib.hid hN2
        have hNl : N1.length = N2.length := by
          have h1 := congrArg List.length HN1.out
          have h2 := congrArg List.length hN2
          rw [List.length_map, pkL_len] at h1 h2
          omega
        have hNb : N1.length ≤ 8 := by
          have h1 := congrArg List.length HN1.out
          rw [List.length_map, pkL_len] at h1
          omega
        have hne : ((N1.length : Int) != (N2.length : Int)) = false := by rw [hNl]; simp
        have HNL := Lib.hid hNl
        clear hb7 hl7 hN2 HT6 HB6 HL6 hNl
        go_wp2_with fail
        clear hne
        go_loopw [20] (fun iv wr => ∃ i : Nat, i ≤ N1.length ∧ iv = .int .i64 i ∧ Below w7.heap.size w7 wr) (fun i _ => N1.length - (intOf i).toNat)
        case atStart => exact ⟨0, by omega, rfl, Below.refl _ _⟩
        case round =>
          obtain ⟨i, hi, rfl, hbi⟩ := hrel
          have HBI := Lib.hid hbi
          have HLA := Lib.hid (HL7.out.below hbi)
          have HLB := Lib.hid (HL7b.out.below hbi)
          clear hbi
          by_cases hx : i < N1.length
          · have hx2 : i < N2.length := by have := HNL.out; omega
            obtain ⟨ga', ca', ea, hra, _⟩ := HLA.out.lr
            obtain ⟨gb', cb', eb, hrb, _⟩ := HLB.out.lr
            cases ea; cases eb
            obtain ⟨b1, o1, rfl, l1, d1⟩ := hra.at_ i hx
            obtain ⟨b2, o2, rfl, l2, d2⟩ := hrb.at_ i hx2
            have r1 := hra.rd _ (List.getElem_mem hx)
            have n1 := hra.nil _ (List.getElem_mem hx)
            have q1 := hra.cap _ (List.getElem_mem hx)
            have r2 := hrb.rd _ (List.getElem_mem hx2)
            have n2 := hrb.nil _ (List.getElem_mem hx2)
            have q2 := hrb.cap _ (List.getElem_mem hx2)
            obtain ⟨sq, pd, e4, e5, t4, t5⟩ := lk_both (datas M) k i HMD.out (by have := HDL.out; omega) (by omega)
            have k1 : N1[i].data = By.pack ⟨0, 4, sq, k, pd⟩ := by
              have h1 : (N1.map Bt.data)[i]? = some N1[i].data := by simp [hx]
              rw [HN1.out] at h1
              obtain ⟨h2, h3⟩ := List.getElem?_eq_some_iff.1 h1
              rw [← h3, pkL_lk (datas M) M.length 4 k i HDL.out h2, e4]
            have k2 : N2[i].data = By.pack ⟨0, 5, sq, k, pd⟩ := by
              have h1 : (N2.map Bt.data)[i]? = some N2[i].data := by simp [hx2]
              rw [HN2.out] at h1
              obtain ⟨h2, h3⟩ := List.getElem?_eq_some_iff.1 h1
              rw [← h3, pkL_lk (datas M) M.length 5 k i HDL.out h2, e5]
            unfold Bt.cell at d1 d2
            generalize N1[i] = y1 at d1 r1 n1 q1 k1
            generalize N2[i] = y2 at d2 r2 n2 q2 k2
            obtain ⟨yb1, yc1, yd1⟩ := y1
            obtain ⟨yb2, yc2, yd2⟩ := y2
            simp only at d1 d2 r1 n1 q1 r2 n2 q2 k1 k2
            subst k1; subst k2
            have CU1 := Lib.hid (unpack_packed yb1 _ yc1 ⟨0, 4, sq, k, pd⟩ wr t4 rfl r1 n1 q1)
            have CU2 := Lib.hid (fun W (hW : Below wr.heap.size wr W) => unpack_packed yb2 _ yc2 ⟨0, 5, sq, k, pd⟩ W t5 rfl (r2.below hW) n2 q2)
            have hj0 : (0 : Int) ≤ (i : Int) := by omega
            have hj1 : (i : Int) < (N1.length : Int) := by omega
            have hj2 : (i : Int) < (N2.length : Int) := by omega
            clear hra hrb r1 n1 q1 r2 n2 q2 e4 e5 t4 t5
            go_wp2_with fail
            with_reducible refine (CU1.out).mono ?_
            rintro e w8 ⟨v8, rfl, ho8, hb8⟩
            obtain ⟨b8, c8, rfl, _, _, _⟩ := ho8.rd
            have hba : Below w8.heap.size w8 (w8.alloc (.cells #[.int .i64 0, .int .i64 4, .int .i64 sq, .int .i64 k, .slice b8 pd.length c8] 34)) := (Below.refl _ _).alloc (Nat.le_refl _) _
            have HB9 := Lib.hid (hb8.trans (hba.mono hb8.size))
            have HX9 := Lib.hid (Blk.new w8 #[.int .i64 0, .int .i64 4, .int .i64 sq, .int .i64 k, .slice b8 pd.length c8] 34)
            have HO9 := Lib.hid (own_below ho8 hba)
            have hd22 : (w8.alloc (.cells #[.int .i64 0, .int .i64 4, .int .i64 sq, .int .i64 k, .slice b8 pd.length c8] 34)).cell? ⟨b2, o2 + i, none⟩ = some (.slice yb2 (By.pack ⟨0, 5, sq, k, pd⟩).length yc2) := by rw [HB9.out.cell (p := ⟨b2, o2 + i, none⟩) l2]; exact d2
            have hl22 : b2 < (w8.alloc (.cells #[.int .i64 0, .int .i64 4, .int .i64 sq, .int .i64 k, .slice b8 pd.length c8] 34)).heap.size := Nat.lt_of_lt_of_le l2 HB9.out.size
            have hz8 := hb8.size
            clear ho8 hb8 hba CU1
            go_wp2_with fail
            with_reducible refine (CU2.out _ HB9.out).mono ?_
            rintro e w10 ⟨v10, rfl, ho10, hb10⟩
            obtain ⟨b10, c10, rfl, _, _, _⟩ := ho10.rd
            have h10a := HX9.out.below hb10
            have h10c := own_below HO9.out hb10
            have h10e := HB9.out.trans (hb10.mono HB9.out.size)
            have hlt8 : w8.heap.size < w10.heap.size := by have := hb10.size; simp at this; omega
            have hg := grown_set (grown_refl w10 (some w8.heap.size)) 1 (.int .i64 5)
            have h11a := h10a.set 1 (.int .i64 5)
            have h11c := own_kept h10c hg (fun k hk e => own_ne h10c h10a (by decide) (e.trans hk.symm))
            have h11d := own_kept ho10 hg (fun k hk e => own_ne ho10 h10a (by decide) (e.trans hk.symm))
            have h11e := below_row h10e hg h10e.size (fun k hk => by have := Option.some.inj hk; omega)
            have hba : Below (w10.setCell ⟨w8.heap.size, 1, none⟩ (.int .i64 5)).heap.size (w10.setCell ⟨w8.heap.size, 1, none⟩ (.int .i64 5)) ((w10.setCell ⟨w8.heap.size, 1, none⟩ (.int .i64 5)).alloc (.cells #[.int .i64 0, .int .i64 5, .int .i64 sq, .int .i64 k, .slice b10 pd.length c10] 34)) := (Below.refl _ _).alloc (Nat.le_refl _) _
            have h12a := Blk.below h11a hba
            have h12c := own_below h11c hba
            have h12d := own_below h11d hba
            have h12e := h11e.trans (hba.mono h11e.size)
            have h12b := Blk.new (w10.setCell ⟨w8.heap.size, 1, none⟩ (.int .i64 5)) #[.int .i64 0, .int .i64 5, .int .i64 sq, .int .i64 k, .slice b10 pd.length c10] 34
            rw [show (w10.setCell ⟨w8.heap.size, 1, none⟩ (.int .i64 5)).heap.size = w10.heap.size by simp] at h12b
            have z1 := h10a.cell 1
            have zf := fun o => h10a.free o
            clear ho10 hb10 CU2 HX9 HO9 HB9 hd22 hl22 h10a h10c h10e hg h11a h11c h11d h11e hba
            go_upto_region 26 with (fail)
            refine (?_ : ∀ W12 : World, Blk W12 w8.heap.size _ 34 → Blk W12 w10.heap.size _ 34 → Ow W12 wr.heap.size (.slice b8 pd.length c8) pd → Ow W12 _ (.slice b10 pd.length c10) pd → Below wr.heap.size wr W12 → Code.wp _ _ _ _ W12) _ h12a h12b h12c h12d h12e
            clear h12a h12b h12c h12d h12e z1 zf
            intro W12 h12a h12b h12c h12d h12e
            obtain ⟨r8, n8, _⟩ := pk_rd h12c
            obtain ⟨r10, n10, _⟩ := pk_rd h12d
            have CS : Calls Try.prog 25 #[.agg #[.int .i64 0, .int .i64 5, .int .i64 sq, .int .i64 k, .slice b8 pd.length c8], .agg #[.int .i64 0, .int .i64 5, .int .i64 sq, .int .i64 k, .slice b10 pd.length c10]] W12 (BB true W12) := by
              have := samePacket_any 0 5 sq k 0 5 sq k b8 b10 pd.length pd.length c8 c10 pd pd W12 rfl r8 n8 rfl r10 n10
              rwa [show (eq4 0 5 (sq : Int) (k : Int) 0 5 (sq : Int) (k : Int) && (pd == pd)) = true from by unfold eq4; simp] at this
            have x0 := h12a.cell 0
            have x1 := h12a.cell 1
            have x2 := h12a.cell 2
            have x3 := h12a.cell 3
            have x4 := h12a.cell 4
            have y0 := h12b.cell 0
            have y1 := h12b.cell 1
            have y2 := h12b.cell 2
            have y3 := h12b.cell 3
            have y4 := h12b.cell 4
            have H12B := Lib.hid h12b
            have H12E := Lib.hid h12e
            have HCS := Lib.hid CS
            clear h12a h12b h12c h12d h12e r8 n8 r10 n10 CS
            go_wp2_with fail
            with_reducible refine (HCS.out).mono ?_
            rintro e w13 ⟨rfl, hb13⟩
            have y3' := (H12B.out.below hb13).cell 3
            have yl' := (H12B.out.below hb13).lt
            have HB13 := Lib.hid (HBI.out.trans ((H12E.out.trans (hb13.mono H12E.out.size)).mono HBI.out.size))
            clear hb13 x0 x1 x2 x3 x4 y0 y1 y2 y3 y4
            go_wp2
            go_roundw
            case rel => exact ⟨i + 1, by omega, by go_num, HB13.out⟩
            case measure => simp [intOf]; omega
          · obtain rfl : i = N1.length := by omega
            have HT8 := Lib.hid (HT7.out.below HBI.out)
            have HB8 := Lib.hid (HB7.out.trans (HBI.out.mono HB7.out.size))
            have hin : ¬ (N1.length : Int) < (N1.length : Int) := by omega
            clear HT7 HB7 HL7 HL7b HLA HLB HN1 HN2 HNL hNb HBI
            go_wp2_with fail
            obtain ⟨W, hW⟩ : ∃ W : World, W = wr := ⟨_, rfl⟩
            subst hW
            go_loopw [25] (fun iv wr => LnRel2 W B2 p2 m k M.length (datas M) iv wr) (fun i _ => m + 1 - (intOf i).toNat)
            case atStart => exact ⟨1, 0, by omega, by omega, rfl, by omega, by rw [show max (k : Int) (((1 : Nat) : Int) - 1) = (k : Int) by omega]; exact HT8.out, Below.refl _ _⟩
            case round =>
              obtain ⟨i, ql, hi1, hi, rfl, hql, hsr, hbr⟩ := hrel
              have HSR := Lib.hid hsr
              have HBR := Lib.hid hbr
              have hsz := hsr.lt
              have hge := hsr.ge
              clear hsr hbr
              by_cases hx : i ≤ m
              · have hx1 : (i : Int) ≤ (m : Int) := by omega
                have CP := Lib.hid (packed_post 1 i 0 1 i 0 rfl rfl rfl none 0 0 [] wr rfl (Or.inl rfl) (fun _ => rfl) (by unfold By.Pk.right By.top; simp; omega))
                go_wp2_with fail
                with_reducible refine (CP.out).mono ?_
                rintro e w3 ⟨b3, c3, rfl, ho3, hb3⟩
                obtain ⟨r3, n3, q3⟩ := pk_rd ho3
                have HS3 := Lib.hid (HSR.out.below hb3)
                have HB3 := Lib.hid (HBR.out.trans (hb3.mono (show B2 ≤ _ by omega)))
                by_cases hik : i ≤ k
                · have CR := Lib.hid (ss_recv_no p2 B2 0 1 5 M.length k (max (k : Int) ((i : Int) - 1)) ql (datas M) ⟨1, 1, i, 0, []⟩ b3 _ c3 w3 HS3.out rfl r3 n3 q3 (by unfold By.Pk.right By.top; simp; omega) rfl (by simpa using hql) (by simp) (by simp only; omega) (by omega) (by have := HDL.out; omega))
                  have hd1 : decide ((k : Int) < (i : Int)) = false := by simp; omega
                  have hd2 : decide (k < i) = false := by simp; omega
                  clear ho3 hb3 r3 n3 q3 CP
                  go_wp2_with fail
                  with_reducible refine (CR.out).mono ?_
                  rintro e w4 ⟨rfl, hs4, hk4, hb4⟩
                  have hs4' : Ss w4 B2 p2 0 1 5 M.length k (max (k : Int) ((((i + 1 : Nat) : Int)) - 1)) 1 (datas M) := by
                    have h3 := hs4
                    rw [show gone (M.length : Int) (((⟨1, 1, i, 0, []⟩ : By.Pk).ack : Nat) : Int) (datas M).length = 0 from gone_no _ _ (by have := HDL.out; omega), List.drop_zero] at h3
                    rw [show max (k : Int) ((((i + 1 : Nat) : Int)) - 1) = max (k : Int) ((i : Int) - 1) by omega]
                    exact h3
                  have hba : Below w4.heap.size w4 (w4.alloc (.cells #[.int .i64 0, .slice none 0 0] 27)) := (Below.refl _ _).alloc (Nat.le_refl _) _
                  have hlt4 := hs4'.lt
                  have HS4 := Lib.hid (hs4'.below hba)
                  have HB4 := Lib.hid ((HB3.out.trans hb4).trans (hba.mono (show B2 ≤ _ by omega)))
                  clear hs4 hs4' hk4 hb4 hba CR
                  go_wp2_with fail
                  refine ⟨⟨i + 1, 1, by omega, by omega, by go_num, by omega, HS4.out, HB4.out⟩, by simp [intOf]; omega⟩
                · have CR := Lib.hid (ss_recv_yes p2 B2 0 1 5 M.length k (max (k : Int) ((i : Int) - 1)) ql (datas M) ⟨1, 1, i, 0, []⟩ b3 _ c3 w3 HS3.out rfl r3 n3 q3 (by unfold By.Pk.right By.top; simp; omega) rfl (by simpa using hql) (by simp) (by simp only; omega) (by omega) (by have := HDL.out; omega))
                  have hd1 : decide ((k : Int) < (i : Int)) = true := by simp; omega
                  have hd2 : decide (k < i) = true := by simp; omega
                  clear ho3 hb3 r3 n3 q3 CP
                  go_wp2_with fail
                  with_reducible refine (CR.out).mono ?_
                  rintro e w4 ⟨g4, c4, rfl, _, hs4, hk4, hb4⟩
                  have hs4' : Ss w4 B2 p2 0 1 5 M.length k (max (k : Int) ((i : Int) - 1)) 1 (datas M) := by
                    have h3 := hs4
                    rw [show gone (M.length : Int) (((⟨1, 1, i, 0, []⟩ : By.Pk).ack : Nat) : Int) (datas M).length = 0 from gone_no _ _ (by have := HDL.out; omega), List.drop_zero] at h3
                    exact h3
                  have hba : Below w4.heap.size w4 (w4.alloc (.cells #[.int .i64 i, .slice g4 0 c4] 27)) := (Below.refl _ _).alloc (Nat.le_refl _) _
                  have hlt4 := hs4'.lt
                  have HS4 := Lib.hid (hs4'.below hba)
                  have HB4 := Lib.hid ((HB3.out.trans hb4).trans (hba.mono (show B2 ≤ _ by omega)))
                  clear hs4 hs4' hk4 hb4 hba CR
                  go_wp2_with fail
                  with_reducible refine (ss_accept p2 B2 0 1 5 M.length k (max (k : Int) ((i : Int) - 1)) 1 (datas M) _ HS4.out i (by omega) (by omega)).mono ?_
                  rintro e w5 ⟨rfl, hs5, hk5, hb5⟩
                  have hs6 : Ss w5 B2 p2 0 1 5 M.length k (max (k : Int) ((((i + 1 : Nat) : Int)) - 1)) 1 (datas M) := by rw [show max (k : Int) ((((i + 1 : Nat) : Int)) - 1) = (i : Int) by omega]; exact hs5
                  have HS6 := Lib.hid hs6
                  have HB5 := Lib.hid (HB4.out.trans hb5)
                  clear hs5 hk5 hb5 hs6
                  go_wp2_with fail
                  refine ⟨⟨i + 1, 1, by omega, by omega, by go_num, by omega, HS6.out, HB5.out⟩, by simp [intOf]; omega⟩
              · obtain rfl : i = m + 1 := by omega
                have hx1 : ¬ (((m + 1 : Nat) : Int)) ≤ (m : Int) := by omega
                go_wp2_with fail
                with_reducible refine (HA.out _).mono ?_
                rintro e w9 ⟨rfl, hb9⟩
                have HB9 := Lib.hid ((HB8.out.trans (HBR.out.mono hBw)).trans (hb9.mono (show w.heap.size ≤ wr.heap.size by omega)))
                clear hb9
                go_wp2
                go_ret
                exact ⟨rfl, HB9.out⟩
      · have hkz : decide ((0 : Int) < (k : Int)) = true := by simp; omega
        go_wp2_with fail
        with_reducible refine (ss_done p w.heap.size 0 1 4 M.length 0 m pl (datas M) _ HS0.out k (by omega) (by omega)).mono ?_
        rintro e wa ⟨rfl, hsa, hka, hba⟩
        have HSA := Lib.hid hsa
        have HBA := Lib.hid (HBR.out.trans hba)
        clear hsa hka hba HS0 HBR
        go_wp2_with fail
        have hd20 : ∀ d ∈ datas M, d.length ≤ 1048576 := fun d hd => by have := HMD.out d hd; omega
        with_reducible refine (ss_link p w.heap.size 0 1 4 M.length k m pl (datas M) _ HSA.out (by have := HDL.out; omega) hd20).mono ?_
        rintro e w1 ⟨g1, c1, L1, rfl, hi1, hk1, hb1⟩
        have HS1 := Lib.hid (HSA.out.below hb1)
        have HB1 := Lib.hid (HBA.out.trans (hb1.mono HBA.out.size))
        have CN := Lib.hid (ss_new 0 1 5 M.length k g1 c1 L1 (datas M) w1 hi1.ir hk1 (by have := HDL.out; omega) (by have := HDL.out; omega) hd20 (by omega) (by omega) (by omega) (by omega) (by omega))
        clear hi1 hk1 hb1 HSA HBA
        go_wp2_with fail
        with_reducible refine (CN.out).mono ?_
        rintro e w2 ⟨p2, rfl, hs2, hb2⟩
        have HT2 := Lib.hid hs2
        have HS2 := Lib.hid (HS1.out.below hb2)
        have HB2 := Lib.hid (HB1.out.trans (hb2.mono HB1.out.size))
        have hBw : w.heap.size ≤ w1.heap.size := HB1.out.size
        generalize w1.heap.size = B2 at HT2 hBw
        clear hs2 hb2 CN HS1 HB1
        go_wp2_with fail
        with_reducible refine (ss_waiting p2 B2 0 1 5 M.length k k 0 (datas M) _ HT2.out).mono ?_
        rintro e w3 ⟨rfl, rfl⟩
        go_wp2_with fail
        with_reducible refine (ss_waiting p w.heap.size 0 1 4 M.length k m pl (datas M) _ HS2.out).mono ?_
        rintro e w3 ⟨rfl, rfl⟩
        go_wp2_with fail
        with_reducible refine (ss_link p2 B2 0 1 5 M.length k k 0 (datas M) _ HT2.out (by have := HDL.out; omega) hd20).mono ?_
        rintro e w3 ⟨g3, c3, L3, rfl, hi3, hk3, hb3⟩
        have HI3 := Lib.hid hi3.ir
        have HK3 := Lib.hid hk3
        have HT3 := Lib.hid (HT2.out.below hb3)
        have HS3 := Lib.hid (HS2.out.below hb3)
        have HB3 := Lib.hid (HB2.out.trans (hb3.mono HB2.out.size))
        clear hi3 hk3 hb3 HT2 HS2 HB2
        go_wp2_with fail
        with_reducible refine (ss_link p w.heap.size 0 1 4 M.length k m pl (datas M) _ HS3.out (by have := HDL.out; omega) hd20).mono ?_
        rintro e w4 ⟨g4, c4, L4, rfl, hi4, hk4, hb4⟩
        have HT4 := Lib.hid (HT3.out.below hb4)
        have HS4 := Lib.hid (HS3.out.below hb4)
        have HB4 := Lib.hid (HB3.out.trans (hb4.mono HB3.out.size))
        have CL := Lib.hid (sameLink_yes M.length k g3 g4 c3 c4 L3 L4 w4 (HI3.out.below hb4) hi4.ir (by rw [HK3.out, hk4]) (by have h1 := (kd_keys HK3.out (by have := HDL.out; omega)).2.2; have := HDL.out; omega))
        clear hi4 hk4 hb4 HT3 HS3 HB3 HI3 HK3
        go_wp2_with fail
        with_reducible refine (CL.out).mono ?_
        rintro e w5 ⟨rfl, hb5⟩
        have HT5 := Lib.hid (HT4.out.below hb5)
        have HS5 := Lib.hid (HS4.out.below hb5)
        have HB5 := Lib.hid (HB4.out.trans (hb5.mono HB4.out.size))
        clear hb5 CL HT4 HS4 HB4
        go_wp2_with fail
        with_reducible refine (ss_packets p w.heap.size 0 1 4 M.length k m pl 0 4 k (datas M) _ HS5.out rfl rfl rfl (by omega) (by omega) (by omega) (by omega) hd20 (by have := HDL.out; omega)).mono ?_
        rintro e w6 ⟨N1, g6, c6, rfl, hN1, hl6, hb6⟩
        have HT6 := Lib.hid (HT5.out.below hb6)
        have HB6 := Lib.hid (HB5.out.trans (hb6.mono HB5.out.size))
        have HL6 := Lib.hid hl6
        have HN1 := Lib.hid hN1
        clear hb6 hl6 hN1 HT5 HS5 HB5
        go_wp2_with fail
        with_reducible refine (ss_packets p2 B2 0 1 5 M.length k k 0 0 5 k (datas M) _ HT6.out rfl rfl rfl (by omega) (by omega) (by omega) (by omega) hd20 (by have := HDL.out; omega)).mono ?_
        rintro e w7 ⟨N2, g7, c7, rfl, hN2, hl7, hb7⟩
        have HT7 := Lib.hid (HT6.out.below hb7)
        have HB7 := Lib.hid (HB6.out.trans (hb7.mono HB6.out.size))
        have HL7 := Lib.hid (HL6.out.below hb7)
        have HL7b := Lib.hid hl7
        have HN2 := Lib.hid hN2
        have hNl : N1.length = N2.length := by
          have h1 := congrArg List.length HN1.out
          have h2 := congrArg List.length hN2
          rw [List.length_map, pkL_len] at h1 h2
          omega
        have hNb : N1.length ≤ 8 := by
          have h1 := congrArg List.length HN1.out
          rw [List.length_map, pkL_len] at h1
          omega
        have hne : ((N1.length : Int) != (N2.length : Int)) = false := by rw [hNl]; simp
        have HNL := Lib.hid hNl
        clear hb7 hl7 hN2 HT6 HB6 HL6 hNl
        go_wp2_with fail
        clear hne
        go_loopw [20] (fun iv wr => ∃ i : Nat, i ≤ N1.length ∧ iv = .int .i64 i ∧ Below w7.heap.size w7 wr) (fun i _ => N1.length - (intOf i).toNat)
        case atStart => exact ⟨0, by omega, rfl, Below.refl _ _⟩
        case round =>
          obtain ⟨i, hi, rfl, hbi⟩ := hrel
          have HBI := Lib.hid hbi
          have HLA := Lib.hid (HL7.out.below hbi)
          have HLB := Lib.hid (HL7b.out.below hbi)
          clear hbi
          by_cases hx : i < N1.length
          · have hx2 : i < N2.length := by have := HNL.out; omega
            obtain ⟨ga', ca', ea, hra, _⟩ := HLA.out.lr
            obtain ⟨gb', cb', eb, hrb, _⟩ := HLB.out.lr
            cases ea; cases eb
            obtain ⟨b1, o1, rfl, l1, d1⟩ := hra.at_ i hx
            obtain ⟨b2, o2, rfl, l2, d2⟩ := hrb.at_ i hx2
            have r1 := hra.rd _ (List.getElem_mem hx)
            have n1 := hra.nil _ (List.getElem_mem hx)
            have q1 := hra.cap _ (List.getElem_mem hx)
            have r2 := hrb.rd _ (List.getElem_mem hx2)
            have n2 := hrb.nil _ (List.getElem_mem hx2)
            have q2 := hrb.cap _ (List.getElem_mem hx2)
            obtain ⟨sq, pd, e4, e5, t4, t5⟩ := lk_both (datas M) k i HMD.out (by have := HDL.out; omega) (by omega)
            have k1 : N1[i].data = By.pack ⟨0, 4, sq, k, pd⟩ := by
              have h1 : (N1.map Bt.data)[i]? = some N1[i].data := by simp [hx]
              rw [HN1.out] at h1
              obtain ⟨h2, h3⟩ := List.getElem?_eq_some_iff.1 h1
              rw [← h3, pkL_lk (datas M) M.length 4 k i HDL.out h2, e4]
            have k2 : N2[i].data = By.pack ⟨0, 5, sq, k, pd⟩ := by
              have h1 : (N2.map Bt.data)[i]? = some N2[i].data := by simp [hx2]
              rw [HN2.out] at h1
              obtain ⟨h2, h3⟩ := List.getElem?_eq_some_iff.1 h1
              rw [← h3, pkL_lk (datas M) M.length 5 k i HDL.out h2, e5]
            unfold Bt.cell at d1 d2
            generalize N1[i] = y1 at d1 r1 n1 q1 k1
            generalize N2[i] = y2 at d2 r2 n2 q2 k2
            obtain ⟨yb1, yc1, yd1⟩ := y1
            obtain ⟨yb2, yc2, yd2⟩ := y2
            simp only at d1 d2 r1 n1 q1 r2 n2 q2 k1 k2
            subst k1; subst k2
            have CU1 := Lib.hid (unpack_packed yb1 _ yc1 ⟨0, 4, sq, k, pd⟩ wr t4 rfl r1 n1 q1)
            have CU2 := Lib.hid (fun W (hW : Below wr.heap.size wr W) => unpack_packed yb2 _ yc2 ⟨0, 5, sq, k, pd⟩ W t5 rfl (r2.below hW) n2 q2)
            have hj0 : (0 : Int) ≤ (i : Int) := by omega
            have hj1 : (i : Int) < (N1.length : Int) := by omega
            have hj2 : (i : Int) < (N2.length : Int) := by omega
            clear hra hrb r1 n1 q1 r2 n2 q2 e4 e5 t4 t5
            go_wp2_with fail
            with_reducible refine (CU1.out).mono ?_
            rintro e w8 ⟨v8, rfl, ho8, hb8⟩
            obtain ⟨b8, c8, rfl, _, _, _⟩ := ho8.rd
            have hba : Below w8.heap.size w8 (w8.alloc (.cells #[.int .i64 0, .int .i64 4, .int .i64 sq, .int .i64 k, .slice b8 pd.length c8] 34)) := (Below.refl _ _).alloc (Nat.le_refl _) _
            have HB9 := Lib.hid (hb8.trans (hba.mono hb8.size))
            have HX9 := Lib.hid (Blk.new w8 #[.int .i64 0, .int .i64 4, .int .i64 sq, .int .i64 k, .slice b8 pd.length c8] 34)
            have HO9 := Lib.hid (own_below ho8 hba)
            have hd22 : (w8.alloc (.cells #[.int .i64 0, .int .i64 4, .int .i64 sq, .int .i64 k, .slice b8 pd.length c8] 34)).cell? ⟨b2, o2 + i, none⟩ = some (.slice yb2 (By.pack ⟨0, 5, sq, k, pd⟩).length yc2) := by rw [HB9.out.cell (p := ⟨b2, o2 + i, none⟩) l2]; exact d2
            have hl22 : b2 < (w8.alloc (.cells #[.int .i64 0, .int .i64 4, .int .i64 sq, .int .i64 k, .slice b8 pd.length c8] 34)).heap.size := Nat.lt_of_lt_of_le l2 HB9.out.size
            have hz8 := hb8.size
            clear ho8 hb8 hba CU1
            go_wp2_with fail
            with_reducible refine (CU2.out _ HB9.out).mono ?_
            rintro e w10 ⟨v10, rfl, ho10, hb10⟩
            obtain ⟨b10, c10, rfl, _, _, _⟩ := ho10.rd
            have h10a := HX9.out.below hb10
            have h10c := own_below HO9.out hb10
            have h10e := HB9.out.trans (hb10.mono HB9.out.size)
            have hlt8 : w8.heap.size < w10.heap.size := by have := hb10.size; simp at this; omega
            have hg := grown_set (grown_refl w10 (some w8.heap.size)) 1 (.int .i64 5)
            have h11a := h10a.set 1 (.int .i64 5)
            have h11c := own_kept h10c hg (fun k hk e => own_ne h10c h10a (by decide) (e.trans hk.symm))
            have h11d := own_kept ho10 hg (fun k hk e => own_ne ho10 h10a (by decide) (e.trans hk.symm))
            have h11e := below_row h10e hg h10e.size (fun k hk => by have := Option.some.inj hk; omega)
            have hba : Below (w10.setCell ⟨w8.heap.size, 1, none⟩ (.int .i64 5)).heap.size (w10.setCell ⟨w8.heap.size, 1, none⟩ (.int .i64 5)) ((w10.setCell ⟨w8.heap.size, 1, none⟩ (.int .i64 5)).alloc (.cells #[.int .i64 0, .int .i64 5, .int .i64 sq, .int .i64 k, .slice b10 pd.length c10] 34)) := (Below.refl _ _).alloc (Nat.le_refl _) _
            have h12a := Blk.below h11a hba
            have h12c := own_below h11c hba
            have h12d := own_below h11d hba
            have h12e := h11e.trans (hba.mono h11e.size)
            have h12b := Blk.new (w10.setCell ⟨w8.heap.size, 1, none⟩ (.int .i64 5)) #[.int .i64 0, .int .i64 5, .int .i64 sq, .int .i64 k, .slice b10 pd.length c10] 34
            rw [show (w10.setCell ⟨w8.heap.size, 1, none⟩ (.int .i64 5)).heap.size = w10.heap.size by simp] at h12b
            have z1 := h10a.cell 1
            have zf := fun o => h10a.free o
            clear ho10 hb10 CU2 HX9 HO9 HB9 hd22 hl22 h10a h10c h10e hg h11a h11c h11d h11e hba
            go_upto_region 26 with (fail)
            refine (?_ : ∀ W12 : World, Blk W12 w8.heap.size _ 34 → Blk W12 w10.heap.size _ 34 → Ow W12 wr.heap.size (.slice b8 pd.length c8) pd → Ow W12 _ (.slice b10 pd.length c10) pd → Below wr.heap.size wr W12 → Code.wp _ _ _ _ W12) _ h12a h12b h12c h12d h12e
            clear h12a h12b h12c h12d h12e z1 zf
            intro W12 h12a h12b h12c h12d h12e
            obtain ⟨r8, n8, _⟩ := pk_rd h12c
            obtain ⟨r10, n10, _⟩ := pk_rd h12d
            have CS : Calls Try.prog 25 #[.agg #[.int .i64 0, .int .i64 5, .int .i64 sq, .int .i64 k, .slice b8 pd.length c8], .agg #[.int .i64 0, .int .i64 5, .int .i64 sq, .int .i64 k, .slice b10 pd.length c10]] W12 (BB true W12) := by
              have := samePacket_any 0 5 sq k 0 5 sq k b8 b10 pd.length pd.length c8 c10 pd pd W12 rfl r8 n8 rfl r10 n10
              rwa [show (eq4 0 5 (sq : Int) (k : Int) 0 5 (sq : Int) (k : Int) && (pd == pd)) = true from by unfold eq4; simp] at this
            have x0 := h12a.cell 0
            have x1 := h12a.cell 1
            have x2 := h12a.cell 2
            have x3 := h12a.cell 3
            have x4 := h12a.cell 4
            have y0 := h12b.cell 0
            have y1 := h12b.cell 1
            have y2 := h12b.cell 2
            have y3 := h12b.cell 3
            have y4 := h12b.cell 4
            have H12B := Lib.hid h12b
            have H12E := Lib.hid h12e
            have HCS := Lib.hid CS
            clear h12a h12b h12c h12d h12e r8 n8 r10 n10 CS
            go_wp2_with fail
            with_reducible refine (HCS.out).mono ?_
            rintro e w13 ⟨rfl, hb13⟩
            have y3' := (H12B.out.below hb13).cell 3
            have yl' := (H12B.out.below hb13).lt
            have HB13 := Lib.hid (HBI.out.trans ((H12E.out.trans (hb13.mono H12E.out.size)).mono HBI.out.size))
            clear hb13 x0 x1 x2 x3 x4 y0 y1 y2 y3 y4
            go_wp2
            go_roundw
            case rel => exact ⟨i + 1, by omega, by go_num, HB13.out⟩
            case measure => simp [intOf]; omega
          · obtain rfl : i = N1.length := by omega
            have HT8 := Lib.hid (HT7.out.below HBI.out)
            have HB8 := Lib.hid (HB7.out.trans (HBI.out.mono HB7.out.size))
            have hin : ¬ (N1.length : Int) < (N1.length : Int) := by omega
            clear HT7 HB7 HL7 HL7b HLA HLB HN1 HN2 HNL hNb HBI
            go_wp2_with fail
            obtain ⟨W, hW⟩ : ∃ W : World, W = wr := ⟨_, rfl⟩
            subst hW
            go_loopw [25] (fun iv wr => LnRel2 W B2 p2 m k M.length (datas M) iv wr) (fun i _ => m + 1 - (intOf i).toNat)
            case atStart => exact ⟨1, 0, by omega, by omega, rfl, by omega, by rw [show max (k : Int) (((1 : Nat) : Int) - 1) = (k : Int) by omega]; exact HT8.out, Below.refl _ _⟩
            case round =>
              obtain ⟨i, ql, hi1, hi, rfl, hql, hsr, hbr⟩ := hrel
              have HSR := Lib.hid hsr
              have HBR := Lib.hid hbr
              have hsz := hsr.lt
              have hge := hsr.ge
              clear hsr hbr
              by_cases hx : i ≤ m
              · have hx1 : (i : Int) ≤ (m : Int) := by omega
                have CP := Lib.hid (packed_post 1 i 0 1 i 0 rfl rfl rfl none 0 0 [] wr rfl (Or.inl rfl) (fun _ => rfl) (by unfold By.Pk.right By.top; simp; omega))
                go_wp2_with fail
                with_reducible refine (CP.out).mono ?_
                rintro e w3 ⟨b3, c3, rfl, ho3, hb3⟩
                obtain ⟨r3, n3, q3⟩ := pk_rd ho3
                have HS3 := Lib.hid (HSR.out.below hb3)
                have HB3 := Lib.hid (HBR.out.trans (hb3.mono (show B2 ≤ _ by omega)))
                by_cases hik : i ≤ k
                · have CR := Lib.hid (ss_recv_no p2 B2 0 1 5 M.length k (max (k : Int) ((i : Int) - 1)) ql (datas M) ⟨1, 1, i, 0, []⟩ b3 _ c3 w3 HS3.out rfl r3 n3 q3 (by unfold By.Pk.right By.top; simp; omega) rfl (by simpa using hql) (by simp) (by simp only; omega) (by omega) (by have := HDL.out; omega))
                  have hd1 : decide ((k : Int) < (i : Int)) = false := by simp; omega
                  have hd2 : decide (k < i) = false := by simp; omega
                  clear ho3 hb3 r3 n3 q3 CP
                  go_wp2_with fail
                  with_reducible refine (CR.out).mono ?_
                  rintro e w4 ⟨rfl, hs4, hk4, hb4⟩
                  have hs4' : Ss w4 B2 p2 0 1 5 M.length k (max (k : Int) ((((i + 1 : Nat) : Int)) - 1)) 1 (datas M) := by
                    have h3 := hs4
                    rw [show gone (M.length : Int) (((⟨1, 1, i, 0, []⟩ : By.Pk).ack : Nat) : Int) (datas M).length = 0 from gone_no _ _ (by have := HDL.out; omega), List.drop_zero] at h3
                    rw [show max (k : Int) ((((i + 1 : Nat) : Int)) - 1) = max (k : Int) ((i : Int) - 1) by omega]
                    exact h3
                  have hba : Below w4.heap.size w4 (w4.alloc (.cells #[.int .i64 0, .slice none 0 0] 27)) := (Below.refl _ _).alloc (Nat.le_refl _) _
                  have hlt4 := hs4'.lt
                  have HS4 := Lib.hid (hs4'.below hba)
                  have HB4 := Lib.hid ((HB3.out.trans hb4).trans (hba.mono (show B2 ≤ _ by omega)))
                  clear hs4 hs4' hk4 hb4 hba CR
                  go_wp2_with fail
                  refine ⟨⟨i + 1, 1, by omega, by omega, by go_num, by omega, HS4.out, HB4.out⟩, by simp [intOf]; omega⟩
                · have CR := Lib.hid (ss_recv_yes p2 B2 0 1 5 M.length k (max (k : Int) ((i : Int) - 1)) ql (datas M) ⟨1, 1, i, 0, []⟩ b3 _ c3 w3 HS3.out rfl r3 n3 q3 (by unfold By.Pk.right By.top; simp; omega) rfl (by simpa using hql) (by simp) (by simp only; omega) (by omega) (by have := HDL.out; omega))
                  have hd1 : decide ((k : Int) < (i : Int)) = true := by simp; omega
                  have hd2 : decide (k < i) = true := by simp; omega
                  clear ho3 hb3 r3 n3 q3 CP
                  go_wp2_with fail
                  with_reducible refine (CR.out).mono ?_
                  rintro e w4 ⟨g4, c4, rfl, _, hs4, hk4, hb4⟩
                  have hs4' : Ss w4 B2 p2 0 1 5 M.length k (max (k : Int) ((i : Int) - 1)) 1 (datas M) := by
                    have h3 := hs4
                    rw [show gone (M.length : Int) (((⟨1, 1, i, 0, []⟩ : By.Pk).ack : Nat) : Int) (datas M).length = 0 from gone_no _ _ (by have := HDL.out; omega), List.drop_zero] at h3
                    exact h3
                  have hba : Below w4.heap.size w4 (w4.alloc (.cells #[.int .i64 i, .slice g4 0 c4] 27)) := (Below.refl _ _).alloc (Nat.le_refl _) _
                  have hlt4 := hs4'.lt
                  have HS4 := Lib.hid (hs4'.below hba)
                  have HB4 := Lib.hid ((HB3.out.trans hb4).trans (hba.mono (show B2 ≤ _ by omega)))
                  clear hs4 hs4' hk4 hb4 hba CR
                  go_wp2_with fail
                  with_reducible refine (ss_accept p2 B2 0 1 5 M.length k (max (k : Int) ((i : Int) - 1)) 1 (datas M) _ HS4.out i (by omega) (by omega)).mono ?_
                  rintro e w5 ⟨rfl, hs5, hk5, hb5⟩
                  have hs6 : Ss w5 B2 p2 0 1 5 M.length k (max (k : Int) ((((i + 1 : Nat) : Int)) - 1)) 1 (datas M) := by rw [show max (k : Int) ((((i + 1 : Nat) : Int)) - 1) = (i : Int) by omega]; exact hs5
                  have HS6 := Lib.hid hs6
                  have HB5 := Lib.hid (HB4.out.trans hb5)
                  clear hs5 hk5 hb5 hs6
                  go_wp2_with fail
                  refine ⟨⟨i + 1, 1, by omega, by omega, by go_num, by omega, HS6.out, HB5.out⟩, by simp [intOf]; omega⟩
              · obtain rfl : i = m + 1 := by omega
                have hx1 : ¬ (((m + 1 : Nat) : Int)) ≤ (m : Int) := by omega
                go_wp2_with fail
                with_reducible refine (HA.out _).mono ?_
                rintro e w9 ⟨rfl, hb9⟩
                have HB9 := Lib.hid ((HB8.out.trans (HBR.out.mono hBw)).trans (hb9.mono (show w.heap.size ≤ wr.heap.size by omega)))
                clear hb9
                go_wp2
                go_ret
                exact ⟨rfl, HB9.out⟩
theorem links_law (ba : Option Addr) (cap : Nat) (M0 : List Bt) (cm dd : Nat) (w : World) (h : Lr w ba M0) (hm : M0.length ≤ 9223372036854775807) (h1 : cm < 256) (h2 : dd < 256)
    (hA : ∀ w, Calls Try.prog 26 #[] w fun e w' => e = .returned (.bool true) ∧ Below w.heap.size w w') :
    Calls Try.prog 8 #[.slice ba M0.length cap, .int .u8 cm, .int .u8 dd] w (TruePost w) := links_true ba cap M0 cm dd w h hm h1 h2 hA
end Go.Proofs.Ytndfelbgppbncaa
set_option linter.unusedVariables false
set_option linter.unusedSimpArgs false
namespace Go.Proofs.Ytndfelbgppbncaa
open Go.ChangeShapes Go.WideShapes Go.ChangeAt Go.RowKit
set_option maxRecDepth 100000 in
theorem links_lifted (os : Os) (started : os.Started) (H : Type) (enc : TypeId × Value → H) :
    ReturnsInHanded {} Try.checked os 8 .any (Rows.sessionLinksSpec.pre6 enc Try.prog Try.f8 Rows.sessionLinksRow.domain false) (Rows.sessionLinksSpec.post enc Try.prog Try.f8 false true false false) := by
  refine returnsInHanded_of_change (C := Try.checked) zz_own started (by kernel_rfl) Try.func8
    (ChangeSpec.witness6 (enc := enc) (C := Try.checked) false ⟨#[], #[.slice none 0 0, .int .u8 0, .int .u8 0], []⟩ 8 (by kernel_rfl) (by kernel_rfl) (by kernel_rfl) (by kernel_rfl)) ?_
  intro W base args ds gs before hval0 hW hcnd _
  have hval : ∀ (j : Nat) t v, Try.f8.params[j]? = some t → args[j]? = some v → Value.okWide Try.prog W .any base t v := hval0
  have hW' := hW
  obtain ⟨p, q, hA0, hV, rfl, hfz, hnd⟩ := hW
  have hA : DataW.TrodAll enc Try.prog W 0 (fun _ => true) true Try.f8.params.toList args.toList ds p := hA0
  have hA1 := hA
  rw [Try.params8] at hA hval
  have hA2 := hA
  obtain ⟨v0, vs0, d0, ds0, p0, q0, e0, rfl, rfl, h0, hA2⟩ := trodAll_cons hA2
  obtain ⟨v1, vs1, d1, ds1, p1, q1, e1, rfl, rfl, h1, hA2⟩ := trodAll_cons hA2
  obtain ⟨v2, vs2, d2, ds2, p2, q2, e2, rfl, rfl, h2, hA2⟩ := trodAll_cons hA2
  obtain ⟨e3, rfl, rfl⟩ := trodAll_nil hA2
  obtain rfl : args = #[v0, v1, v2] := by
    cases args; simp_all
  clear e0 e1 e2 e3
  obtain ⟨a0, M0, c0, rfl, _, m0, r0⟩ := open_lists (hval 0 48 v0 rfl rfl) h0
  obtain ⟨x1, rfl, _, _, w1⟩ := open_int Try.underlying5 (hval 1 5 v1 rfl rfl) h1
  obtain ⟨x1, rfl⟩ := Int.eq_ofNat_of_zero_le (bounds_u8 w1).1
  obtain ⟨x2, rfl, _, _, w2⟩ := open_int Try.underlying5 (hval 2 5 v2 rfl rfl) h2
  obtain ⟨x2, rfl⟩ := Int.eq_ofNat_of_zero_le (bounds_u8 w2).1
  obtain ⟨rfl, rfl⟩ := trodVars_none hV
  clear hA0 hval0
  have hlt := hW'.lt
  refine (links_law a0 c0 M0 x1 x2 W r0 (by unfold maxLen at m0; omega) (by have := (bounds_u8 w1).2; omega) (by have := (bounds_u8 w2).2; omega) awake_any).mono fun e W' ⟨he, hb⟩ => ?_
  subst he
  exact ⟨_, rfl, post_of_below (pv := []) hW' (fun _ _ _ => trodAll_mk1 (shut_bool Try.underlying4 _))
    (fun sp hsp => all_stay zz_laid sp hb _ _ _ _ (by intro t ht; rw [Try.params8] at ht; simp only [List.mem_cons, List.not_mem_nil, or_false] at ht; rcases ht with rfl | rfl | rfl <;> exact ⟨by kernel_rfl, of_decide_eq_true (by kernel_rfl)⟩) hA1 (fun x hx => hlt x (by simpa using hx)) (fun x hx => hsp x (by simpa using hx))) (fun _ _ => rfl) (by simp)
    hb (ok_one (by kernel_rfl) rfl (okWide_bool_mk Try.underlying4 _))⟩
theorem links_holds : Rows.SessionLinksSaid :=
  OpenClaim.holds_of_wide 8 Try.f8 rfl rfl rfl rfl rfl rfl rfl ⟨rfl, rfl, rfl, rfl, rfl⟩ rfl rfl rfl rfl rfl (by kernel_rfl) Try.func8 (by kernel_rfl)
    (of_decide_eq_true (by kernel_rfl)) (by unfold Func.isWrapper; first | (rw [if_pos (by decide +kernel)]; kernel_rfl) | (rw [if_neg (by decide +kernel)]; exact ⟨rfl, rfl⟩))
    (fun os started H enc _ => links_lifted os started H enc)
#print axioms links_holds
end Go.Proofs.Ytndfelbgppbncaa
