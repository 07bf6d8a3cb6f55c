/- PROVED: Rows.FrameSparesSaid: for every input droverlaw03.FrameSpares hands back true, and its arguments read as they did. No condition. What is handed in, and what is told, shares no memory with one another. -/
import Derived.Test.YtgamhgeiceakeaaComE
import Derived.Deep.DeepCutAuto
/- FrameSpares: what stays, copies of bytes. -/
set_option linter.unusedVariables false
set_option linter.unusedSimpArgs false
namespace Go.Proofs.Ytgamhgeiceakeaa
open Go.RowKit
open By (Bs)
open Va (V)
open Me (Ms)
theorem RN.keep {B t : Nat} {w w' : World} {l : List Int} {ba : Option Addr} {cap : Nat} (h : RN (fun b => B ≤ b) w l ba cap) (hg : w.grownBy w' (some t)) (ht : t < B) : RN (fun b => B ≤ b) w' l ba cap :=
  ⟨h.le, h.max, h.nil, fun i hi => by
    obtain ⟨b, o, e, h1, h2, h3⟩ := h.at_ i hi
    exact ⟨b, o, e, h1, Nat.lt_of_lt_of_le h2 hg.size, by rw [World.cell?_of_block (w := w) (hg.block b h2 (fun e2 => by cases e2; omega))]; exact h3⟩⟩
theorem RL.keep {B t : Nat} {w w' : World} {l : List V} {ba : Option Addr} {cap : Nat} (h : RL (fun b => B ≤ b) w l ba cap) (hg : w.grownBy w' (some t)) (ht : t < B) : RL (fun b => B ≤ b) w' l ba cap :=
  h.kept hg.size (fun b hb hlt => hg.block b hlt (fun e => by cases e; omega))
theorem RB.keep {B t : Nat} {w w' : World} {l : List Bs} {ba : Option Addr} {cap : Nat} (h : RB (fun b => B ≤ b) w l ba cap) (hg : w.grownBy w' (some t)) (ht : t < B) : RB (fun b => B ≤ b) w' l ba cap :=
  ⟨h.le, h.max, h.nil, fun i hi => by
    obtain ⟨b, o, x, e, h1, h2, h3, h4⟩ := h.at_ i hi
    refine ⟨b, o, x, e, h1, Nat.lt_of_lt_of_le h2 hg.size, by rw [World.cell?_of_block (w := w) (hg.block b h2 (fun e2 => by cases e2; omega))]; exact h3, ?_⟩
    obtain ⟨g, c, e3, k1, k2, k3, k4⟩ := h4.ex
    refine ⟨g, c, e3, ?_, k2, k3, k4⟩
    by_cases hne : l[i] = []
    · exact Or.inl hne
    · rcases k1 with k1 | ⟨b', o', e4, hlt, hc⟩
      · exact Or.inl k1
      · have hB := h.own i hi b o g l[i].length c b' o' e (by rw [h3, e3]) e4 hne
        exact Or.inr ⟨b', o', e4, Nat.lt_of_lt_of_le hlt hg.size, fun j hj => by rw [World.cell?_of_block (w := w) (hg.block b' hlt (fun e2 => by cases e2; omega))]; exact hc j hj⟩,
  fun i hi b o g n c b' o' e hc => by
    obtain ⟨b0, o0, x, e0, h1, h2, _, _⟩ := h.at_ i hi
    rw [e] at e0; cases e0
    rw [World.cell?_of_block (w := w) (hg.block b h2 (fun e2 => by cases e2; omega))] at hc
    exact h.own i hi b o g n c b' o' e hc⟩
/-- a message that was told stays, whatever turns in an elder block -/
theorem RM.keep {B t : Nat} {w w' : World} {m : Ms} {bn bv bb : Option Addr} {cn cv cb : Nat} (h : RM (fun b => B ≤ b) w m bn bv bb cn cv cb) (hg : w.grownBy w' (some t)) (ht : t < B) : RM (fun b => B ≤ b) w' m bn bv bb cn cv cb :=
  ⟨h.kind, h.i64, h.nums.keep hg ht, h.vals.keep hg ht, h.blobs.keep hg ht⟩
def OwnPost (l : List UInt8) (w : World) (e : Ending) (w' : World) : Prop := ∃ g c, e = .returned (.slice g l.length c) ∧ Ow w' w.heap.size (.slice g l.length c) l ∧ Below w.heap.size w w'
set_option maxHeartbeats 800000 in
theorem copyBytes_any (ba : Option Addr) (n cap : Nat) (l : List UInt8) (w : World) (hn : l.length = n) (hr : Rd w ba l) (hb : ba = none → n = 0) (hl : n ≤ 1099511627776) :
    Calls Try.prog 22 #[.slice ba n cap] w (OwnPost l w) := by
  subst hn
  obtain ⟨i0, hi, hz0, hz1, hz2⟩ := info_parts Try.info_u8
  have HR := Lib.hid hr
  have HBA := Lib.hid hb
  clear hr hb
  go_enter Try.func22, Try.ntmps22
  go_wp2_with (at_builtin; refine wpList_append_rd _ rfl _ _ 27 rfl w.heap.size 5 i0 (.int .u8 0) 1 1 Try.underlying27 hi hz0 hz1 hz2 rfl (by decide) (.slice none 0 0) 0 [] rfl (World.ownsRow_nil _ _ _ _) ba l.length cap (u8s l) rfl ?c0 HBA.out ?c1 (u8s_one l) ?c3 ?c4 ?c5 ?_)
  case c0 => rw [u8s_len]; omega
  case c1 =>
    intro ad he j u hj
    have hjl : j < l.length := by have := (List.getElem?_eq_some_iff.1 hj).1; rw [u8s_len] at this; exact this
    rcases HR.out with h | ⟨b, o, e, hlt, hc⟩
    · rw [h] at hjl; simp at hjl
    · rw [he] at e; cases e
      rw [addPl, hc j hjl, ← hj]
      unfold u8s; simp [hjl]
  case c3 => unfold maxLen; omega
  case c4 => omega
  case c5 => simp
  intro v2 w2 ho2 hg2 hn2
  have hown2 : Ow w2 w.heap.size v2 l := by unfold Ow; simpa using ho2
  have hb2 : Below w.heap.size w w2 := (Below.refl _ w).grown hg2.grown (Nat.le_refl _) (by simp [Value.ownBlock])
  obtain ⟨b1, c1, rfl, _, _, _⟩ := hown2.rd
  have HO2 := Lib.hid hown2
  have HB2 := Lib.hid hb2
  clear ho2 hg2 hn2 hown2 hb2
  go_wp2
  go_ret
  exact ⟨b1, c1, rfl, HO2.out, HB2.out⟩
/-- Get of what was put -/
theorem getAll_put {m : Ms} (hm : Me.right m = true) (hw : Me.Wf m) : Me.getAll (By.shut (Me.body m)) = .ok m := by
  unfold Me.getAll
  have h6 := ((Me.right_iff m).1 hm).2.2.2.2.2
  rw [if_neg (by rw [By.shut_len]; omega), By.open_shut]
  simp only
  rw [if_neg (by simp)]
  exact Me.get_body m hm hw
end Go.Proofs.Ytgamhgeiceakeaa
/- FrameSpares, the walk (begun). -/
set_option linter.unusedVariables false
set_option linter.unusedSimpArgs false
namespace Go.Proofs.Ytgamhgeiceakeaa
open Go.RowKit
open By (Bs)
open Va (V)
open Me (Ms)
/-- a message's box and a packet's -/
structure A2 (w : World) (c1 c2 : Array Value) (W : World) : Prop where
  one : Blk W w.heap.size c1 30
  two : Blk W (w.heap.size + 1) c2 41
  bl : Below w.heap.size w W
theorem A2.past {w W W' : World} {c1 c2 : Array Value} (h : A2 w c1 c2 W) (hb : Below W.heap.size W W') : A2 w c1 c2 W' := ⟨h.one.below hb, h.two.below hb, h.bl.trans (hb.mono h.bl.size)⟩
theorem A2.grow {w W W' : World} {c1 c2 : Array Value} {t : Nat} (h : A2 w c1 c2 W) (hg : W.grownBy W' (some t)) (ht : w.heap.size + 1 < t) : A2 w c1 c2 W' :=
  ⟨h.one.kept hg (fun e => by have := Option.some.inj e; omega), h.two.kept hg (fun e => by have := Option.some.inj e; omega), h.bl.grown hg h.bl.size (fun k hk => by cases hk; omega)⟩
theorem A2.new (w : World) (c1 c2 : Array Value) : A2 w c1 c2 ((w.alloc (.cells c1 30)).alloc (.cells c2 41)) := by
  have s1 : (w.alloc (.cells c1 30)).heap.size = w.heap.size + 1 := by simp
  have b2 := Blk.new (w.alloc (.cells c1 30)) c2 41
  rw [s1] at b2
  exact ⟨(Blk.new w c1 _).below ((Below.refl _ _).alloc (Nat.le_refl _) _), b2, ((Below.refl _ _).alloc (Nat.le_refl _) _).alloc (by simp) _⟩
/-- a row of the call's own, as a block -/
theorem Ow.blk {w : World} {B g c n : Nat} {l : List UInt8} (h : Ow w B (.slice (some ⟨g, 0, none⟩) n c) l) : ∃ cur : Array Value, Blk w g cur 5 ∧ cur.size = c ∧ n ≤ c := by
  rcases h.2 with ⟨h', _⟩ | ⟨g', cap', cur, h', hb, hg, hnc, hcm, hcs, htake⟩
  · simp at h'
  · simp only [Value.slice.injEq, Option.some.injEq, Addr.mk.injEq, and_true, true_and] at h'
    obtain ⟨rfl, hn, rfl⟩ := h'
    exact ⟨cur, hg, by omega, by omega⟩
set_option maxHeartbeats 6400000 in
set_option maxRecDepth 100000 in
theorem spares_row {ok : Nat → Prop} (m : Ms) (bn bv bb : Option Addr) (cn cv cb : Nat) (f l s a : Int) (d : Bs) (x : Value) (w : World)
    (h : RM ok w m bn bv bb cn cv cb) (hp : RP w f l s a d x) :
    Calls Try.prog 9 #[.agg (mcells m bn bv bb cn cv cb), x] w (BB true w) := by
  have CS1 := Lib.hid (fun W (hb : Below w.heap.size w W) => smallMsg_any _ _ _ _ _ _ _ _ W (h.past hb))
  have CM1 := Lib.hid (fun W (hb : Below w.heap.size w W) => mput_any _ _ _ _ _ _ _ _ W (h.past hb))
  have hCE : ∀ ok' bn1 bv1 bb1 cn1 cv1 cb1 W, RM ok' W m bn1 bv1 bb1 cn1 cv1 cb1 → Below w.heap.size w W → Calls Try.prog 12 #[.agg (mcells m bn1 bv1 bb1 cn1 cv1 cb1), .agg (mcells m bn bv bb cn cv cb)] W (BB true W) := by
    intro ok' bn1 bv1 bb1 cn1 cv1 cb1 W q hb
    have e : Me.same m m = true := (Me.same_iff m m).2 rfl
    have c := sameMsg_any _ _ _ _ _ _ _ _ _ _ _ _ _ _ _ _ W q (h.past hb)
    rw [e] at c
    exact c
  have CE := Lib.hid hCE
  clear hCE
  obtain ⟨ba, cap, rfl, g1, g2, g3, g4⟩ := hp.ex
  have hCQ : ∀ b5 c5 W, Rd W b5 d → (b5 = none → d.length = 0) → Below w.heap.size w W → Calls Try.prog 19 #[.agg #[.int .i64 f, .int .i64 l, .int .i64 s, .int .i64 a, .slice b5 d.length c5], .agg #[.int .i64 f, .int .i64 l, .int .i64 s, .int .i64 a, .slice ba d.length cap]] W (BB true W) := by
    intro b5 c5 W q q2 hb
    have e : (eq4 f l s a f l s a && (d == d)) = true := by unfold eq4; simp
    have c := samePacket_any f l s a f l s a b5 ba d.length d.length c5 cap d d W rfl q q2 rfl (g1.below hb) g2
    rw [e] at c
    exact c
  have CQ := Lib.hid hCQ
  clear hCQ
  have CP1 := Lib.hid (fun W (hb : Below w.heap.size w W) => pack_any f l s a d _ W ⟨⟨ba, cap, rfl, g1.below hb, g2, g3, g4⟩, hp.num⟩)
  have HA0 := Lib.hid (A2.new w (mcells m bn bv bb cn cv cb) #[.int .i64 f, .int .i64 l, .int .i64 s, .int .i64 a, .slice ba d.length cap])
  have HM := Lib.hid h
  obtain ⟨L1, e1, hp1⟩ : ∃ L e, Me.put m = (L, e) := ⟨_, _, rfl⟩
  rw [hp1] at CM1
  have HP1 := Lib.hid (show e1 = 0 → L1 ≠ [] ∧ L1.length ≤ 1048576 ∧ Me.getAll L1 = .ok m from fun he => by
    unfold Me.put at hp1
    cases hr : Me.right m with
    | true =>
      rw [hr] at hp1; cases hp1
      exact ⟨shut_ne _, by rw [By.shut_len]; exact ((Me.right_iff m).1 hr).2.2.2.2.2, getAll_put hr (rm_wf h)⟩
    | false => rw [hr] at hp1; cases hp1; cases he)
  obtain ⟨L2, e2, hp2⟩ : ∃ L e, Me.pack f l s a d = (L, e) := ⟨_, _, rfl⟩
  rw [hp2] at CP1
  have HP2 := Lib.hid (show e2 = 0 → L2 ≠ [] ∧ L2.length ≤ 2000000 ∧ ∀ g c W, Rd W g L2 → (g = none → L2.length = 0) → L2.length ≤ c → Calls Try.prog 15 #[.slice g L2.length c] W (UnpPost f l s a d 0 W) from fun he => by
    unfold Me.pack at hp2
    cases hr : rightB f l s a d.length with
    | true =>
      rw [hr] at hp2; cases hp2
      obtain ⟨⟨p1, p2, p3, p4⟩, hpr⟩ := pk_right hr
      have hl := By.pk_len ⟨f.toNat, l.toNat, s.toNat, a.toNat, d⟩
      have h5 := hpr.2.2.2.2.1
      refine ⟨shut_ne _, by unfold By.pack; rw [By.shut_len]; simp only at hl h5; omega, fun g c W q1 q2 q3 => ?_⟩
      have C := unpack_packed g _ c _ W hpr rfl q1 q2 q3
      simp only at C
      rw [Int.toNat_of_nonneg p1, Int.toNat_of_nonneg p2, Int.toNat_of_nonneg p3, Int.toNat_of_nonneg p4] at C
      exact C
    | false => rw [hr] at hp2; cases hp2; cases he)
  clear h hp g1 g2 g3 g4 hp1 hp2
  obtain ⟨sm, hsm⟩ : ∃ b, Me.small m = b := ⟨_, rfl⟩
  rw [hsm] at CS1
  clear hsm
  go_enter Try.func9, Try.ntmps9
  go_wp2_with fail
  with_reducible refine (CS1.out _ HA0.out.bl).mono ?_
  rintro e w1 ⟨rfl, hb⟩
  have HA1 := Lib.hid (HA0.out.past hb)
  clear hb HA0
  cases sm with
  | false =>
    go_wp2_with fail
    with_reducible refine (awake_any _).mono ?_
    rintro e w9 ⟨rfl, hb9⟩
    have HB9 := Lib.hid ((HA1.out).bl.trans (hb9.mono (HA1.out).bl.size))
    clear hb9
    go_wp2
    go_ret
    exact ⟨rfl, HB9.out⟩
  | true =>
    by_cases k1 : d.length ≤ 1000
    · have k1' : ¬ (1000 : Int) < (d.length : Int) := by omega
      have o0 := (HA1.out).one.cell 0
      have o1 := (HA1.out).one.cell 1
      have o2 := (HA1.out).one.cell 2
      have o3 := (HA1.out).one.cell 3
      have olt := (HA1.out).one.lt
      have p0 := (HA1.out).two.cell 0
      have p1 := (HA1.out).two.cell 1
      have p2 := (HA1.out).two.cell 2
      have p3 := (HA1.out).two.cell 3
      have p4 := (HA1.out).two.cell 4
      have plt := (HA1.out).two.lt
      go_wp2_with fail
      with_reducible refine (CM1.out _ HA1.out.bl).mono ?_
      rintro e w2 ⟨ga, ca, rfl, hr1, hn1, hc1, ho1, hb⟩
      have HA2 := Lib.hid (HA1.out.past hb)
      clear o0 o1 o2 o3 olt p0 p1 p2 p3 p4 plt
      have HR1 := Lib.hid hr1
      have HN1 := Lib.hid hn1
      clear hb hr1 hn1 ho1 HA1 CM1 CS1
      by_cases z1 : e1 = 0
      · subst z1
        obtain ⟨q1, q2, q3⟩ := HP1.out rfl
        go_wp2_with fail
        with_reducible refine (copyBytes_any ga L1.length ca L1 _ rfl HR1.out HN1.out (by omega)).mono ?_
        rintro e w3 ⟨g3, c3, rfl, ho3, hb⟩
        have HA3 := Lib.hid (HA2.out.past hb)
        have HR3 := Lib.hid (HR1.out.below hb)
        obtain ⟨b3, c3', e3, hB3, hc3⟩ := ho3.val q1
        cases e3
        have hrd3 := ho3.rd1
        have HRI := Lib.hid hrd3.1
        obtain ⟨cur, hk3, hcur, -⟩ := ho3.blk
        have HK3 := Lib.hid hk3
        have hb3s := hk3.lt
        have hw2s := HA2.out.one.lt
        have hw2t := HA2.out.two.lt
        have HGA := Lib.hid (show ∀ b o, ga = some (⟨b, o, none⟩ : Addr) → b < w2.heap.size from fun b o e => by
          rcases HR1.out with h | ⟨b', o', e', hlt, _⟩
          · exact absurd h q1
          · rw [e] at e'; cases e'; exact hlt)
        clear hb ho3 hrd3 hk3 HA2 HR1
        go_wp2_with fail
        have CG := mget_any (some ⟨b3, 0, none⟩) L1.length c3 L1 w3 rfl HRI.out (fun h => by cases h) hc3
        rw [q3] at CG
        with_reducible refine CG.mono ?_
        clear CG
        rintro e w4 ⟨bn1, bv1, bb1, cn1, cv1, cb1, rfl, hm4, hb⟩
        have hal : Below w4.heap.size w4 (w4.alloc (.cells (mcells m bn1 bv1 bb1 cn1 cv1 cb1) 30)) := (Below.refl _ _).alloc (Nat.le_refl _) _
        have HA4 := Lib.hid ((HA3.out.past hb).past hal)
        have HR4 := Lib.hid ((HR3.out.below hb).below hal)
        have HK4 := Lib.hid ((HK3.out.below hb).below hal)
        have HM4 := Lib.hid (hm4.past hal)
        have HX4 := Lib.hid (Blk.new w4 (mcells m bn1 bv1 bb1 cn1 cv1 cb1) 30)
        have h34 : w3.heap.size ≤ w4.heap.size := hb.size
        clear hb hm4 HA3 HR3 HK3 hal
        go_wp2_with fail
        refine (?_ : ∀ W5, A2 w (mcells m bn bv bb cn cv cb) _ W5 → Rd W5 ga L1 → Blk W5 b3 cur 5 → RM (fun b => w3.heap.size ≤ b) W5 m bn1 bv1 bb1 cn1 cv1 cb1 → Blk W5 w4.heap.size (mcells m bn1 bv1 bb1 cn1 cv1 cb1) 30 → Code.wp _ _ _ _ W5) _ HA4.out HR4.out HK4.out HM4.out HX4.out
        clear HA4 HR4 HK4 HM4 HX4
        intro W5 ha hr hk hm hx
        have HA4 := Lib.hid ha
        have HR4 := Lib.hid hr
        have HK4 := Lib.hid hk
        have HM4 := Lib.hid hm
        have HX4 := Lib.hid hx
        clear ha hr hk hm hx
        go_loopw [10, 45] (fun jv iv wr => ∃ i : Nat, i ≤ L1.length ∧ iv = .int .i64 i ∧ W5.grownBy wr (some b3) ∧ ∃ cur : Array Value, Blk wr b3 cur 5 ∧ cur.size = c3) (fun _ iv _ => L1.length - (intOf iv).toNat)
        case atStart => exact ⟨0, by omega, rfl, grown_refl _ _, cur, HK4.out, by omega⟩
        case round =>
          obtain ⟨i, hi, rfl, hg, cu, hk, hcu⟩ := hrel
          by_cases hlt : i < L1.length
          · have hj1 : (i : Int) < (L1.length : Int) := by omega
            have y0 := hk.cell i
            have yf := hk.free i
            have yl := hk.lt
            rw [Array.getElem?_eq_getElem (show i < cu.size by omega)] at y0
            have HG := Lib.hid (grown_set hg i (.int .u8 0))
            have HK := Lib.hid (hk.set i (.int .u8 0))
            clear hg hk
            go_wp2
            go_roundw
            case rel => exact ⟨i + 1, by omega, by go_num, HG.out, _, HK.out, by simpa using hcu⟩
            case measure => simp [intOf]; omega
          · have hj1 : ¬ (i : Int) < (L1.length : Int) := by omega
            have HA5 := Lib.hid (HA4.out.grow hg (by omega))
            have HR5 := Lib.hid (rd_gen HR4.out hg (fun b o e e2 => by have h1 := HGA.out b o e; have h2 := Option.some.inj e2; omega))
            have HM5 := Lib.hid (HM4.out.keep hg (by omega))
            have HX5 := Lib.hid (HX4.out.kept hg (fun e => by have h2 := Option.some.inj e; omega))
            have CG := mget_any ga L1.length ca L1 wr rfl HR5.out HN1.out hc1
            rw [q3] at CG
            have HCG := Lib.hid CG
            clear hg hk CG HR4 HA4 HM4
            go_wp2_with fail
            with_reducible refine HCG.out.mono ?_
            rintro e w6 ⟨bn2, bv2, bb2, cn2, cv2, cb2, rfl, hm6, hb⟩
            have hal : Below w6.heap.size w6 (w6.alloc (.cells (mcells m bn2 bv2 bb2 cn2 cv2 cb2) 30)) := (Below.refl _ _).alloc (Nat.le_refl _) _
            have HA6 := Lib.hid ((HA5.out.past hb).past hal)
            have HM6 := Lib.hid ((HM5.out.past hb).past hal)
            have HM7 := Lib.hid (hm6.past hal)
            have HX6 := Lib.hid ((HX5.out.below hb).below hal)
            have HY6 := Lib.hid (Blk.new w6 (mcells m bn2 bv2 bb2 cn2 cv2 cb2) 30)
            clear hb hm6 hal HA5 HM5 HX5
            have o0 := (HA6.out).one.cell 0
            have o1 := (HA6.out).one.cell 1
            have o2 := (HA6.out).one.cell 2
            have o3 := (HA6.out).one.cell 3
            have olt := (HA6.out).one.lt
            have p0 := (HA6.out).two.cell 0
            have p1 := (HA6.out).two.cell 1
            have p2 := (HA6.out).two.cell 2
            have p3 := (HA6.out).two.cell 3
            have p4 := (HA6.out).two.cell 4
            have plt := (HA6.out).two.lt
            have x0 := HX6.out.cell 0
            have x1 := HX6.out.cell 1
            have x2 := HX6.out.cell 2
            have x3 := HX6.out.cell 3
            have xlt := HX6.out.lt
            go_wp2_with fail
            with_reducible refine (CE.out _ _ _ _ _ _ _ _ HM6.out HA6.out.bl).mono ?_
            rintro e w7 ⟨rfl, hb⟩
            have HA7 := Lib.hid (HA6.out.past hb)
            have HM8 := Lib.hid (HM7.out.past hb)
            have HY7 := Lib.hid (HY6.out.below hb)
            clear o0 o1 o2 o3 olt p0 p1 p2 p3 p4 plt
            clear hb x0 x1 x2 x3 xlt HM6 HM7 HX6 HY6 HA6
            have o0 := (HA7.out).one.cell 0
            have o1 := (HA7.out).one.cell 1
            have o2 := (HA7.out).one.cell 2
            have o3 := (HA7.out).one.cell 3
            have olt := (HA7.out).one.lt
            have p0 := (HA7.out).two.cell 0
            have p1 := (HA7.out).two.cell 1
            have p2 := (HA7.out).two.cell 2
            have p3 := (HA7.out).two.cell 3
            have p4 := (HA7.out).two.cell 4
            have plt := (HA7.out).two.lt
            have x0 := HY7.out.cell 0
            have x1 := HY7.out.cell 1
            have x2 := HY7.out.cell 2
            have x3 := HY7.out.cell 3
            have xlt := HY7.out.lt
            go_wp2_with fail
            with_reducible refine (CE.out _ _ _ _ _ _ _ _ HM8.out HA7.out.bl).mono ?_
            rintro e w8 ⟨rfl, hb⟩
            have HA8 := Lib.hid (HA7.out.past hb)
            clear o0 o1 o2 o3 olt p0 p1 p2 p3 p4 plt
            clear hb x0 x1 x2 x3 xlt HM8 HY7 HA7
            have o0 := (HA8.out).one.cell 0
            have o1 := (HA8.out).one.cell 1
            have o2 := (HA8.out).one.cell 2
            have o3 := (HA8.out).one.cell 3
            have olt := (HA8.out).one.lt
            have p0 := (HA8.out).two.cell 0
            have p1 := (HA8.out).two.cell 1
            have p2 := (HA8.out).two.cell 2
            have p3 := (HA8.out).two.cell 3
            have p4 := (HA8.out).two.cell 4
            have plt := (HA8.out).two.lt
            go_wp2_with fail
            with_reducible refine (CP1.out _ (HA8.out).bl).mono ?_
            rintro e v2 ⟨pa, pc, rfl, hr1, hn1, hc1, -, hb⟩
            have HV2 := Lib.hid ((HA8.out).past hb)
            have HPR := Lib.hid hr1
            have HPN := Lib.hid hn1
            clear o0 o1 o2 o3 olt p0 p1 p2 p3 p4 plt
            clear hb hr1 hn1 CP1
            by_cases z2 : e2 = 0
            · subst z2
              obtain ⟨u1, u2, u3⟩ := HP2.out rfl
              have CU := Lib.hid u3
              clear u3
              go_wp2_with fail
              with_reducible refine (copyBytes_any pa L2.length pc L2 _ rfl HPR.out HPN.out (by omega)).mono ?_
              rintro e v3 ⟨g4, c4, rfl, ho3, hb⟩
              have HV3 := Lib.hid (HV2.out.past hb)
              obtain ⟨b4, c4', e4, hB4, hc4⟩ := ho3.val u1
              cases e4
              have hrd3 := ho3.rd1
              have HRI4 := Lib.hid hrd3.1
              obtain ⟨cur4, hk3, hcur4, -⟩ := ho3.blk
              have HK3 := Lib.hid hk3
              have hb4s := hk3.lt
              have hv2t := HV2.out.two.lt
              clear hb ho3 hrd3 hk3 HV2
              go_wp2_with fail
              with_reducible refine (CU.out _ _ _ HRI4.out (fun h => by cases h) hc4).mono ?_
              rintro e v4 ⟨dv, rfl, hod, hb⟩
              obtain ⟨b5, c5, rfl, r5, n5, k5⟩ := hod.rd
              have hod' := hod
              have hal : Below v4.heap.size v4 (v4.alloc (.cells #[.int .i64 f, .int .i64 l, .int .i64 s, .int .i64 a, .slice b5 d.length c5] 41)) := (Below.refl _ _).alloc (Nat.le_refl _) _
              have HV4 := Lib.hid ((HV3.out.past hb).past hal)
              have HK4 := Lib.hid ((HK3.out.below hb).below hal)
              have HO4 := Lib.hid (own_below hod hal)
              have HX4 := Lib.hid (Blk.new v4 #[.int .i64 f, .int .i64 l, .int .i64 s, .int .i64 a, .slice b5 d.length c5] 41)
              have h34 : v3.heap.size ≤ v4.heap.size := hb.size
              clear hb hod hod' r5 HV3 HK3 hal
              go_wp2_with fail
              refine (?_ : ∀ W5, A2 w (mcells m bn bv bb cn cv cb) _ W5 → Blk W5 b4 cur4 5 → Ow W5 v3.heap.size (.slice b5 d.length c5) d → Blk W5 v4.heap.size #[.int .i64 f, .int .i64 l, .int .i64 s, .int .i64 a, .slice b5 d.length c5] 41 → Code.wp _ _ _ _ W5) _ HV4.out HK4.out HO4.out HX4.out
              clear HV4 HK4 HO4 HX4
              intro W5 ha hk ho hx
              have HV4 := Lib.hid ha
              have HK4 := Lib.hid hk
              have HO4 := Lib.hid ho
              have HX4 := Lib.hid hx
              clear ha hk ho hx
              go_loopw [18, 91] (fun jv iv wr => ∃ i : Nat, i ≤ L2.length ∧ iv = .int .i64 i ∧ W5.grownBy wr (some b4) ∧ ∃ cur : Array Value, Blk wr b4 cur 5 ∧ cur.size = c4) (fun _ iv _ => L2.length - (intOf iv).toNat)
              case atStart => exact ⟨0, by omega, rfl, grown_refl _ _, cur4, HK4.out, by omega⟩
              case round =>
                obtain ⟨i, hi, rfl, hg, cu, hk, hcu⟩ := hrel
                by_cases hlt : i < L2.length
                · have hj1 : (i : Int) < (L2.length : Int) := by omega
                  have y0 := hk.cell i
                  have yf := hk.free i
                  have yl := hk.lt
                  rw [Array.getElem?_eq_getElem (show i < cu.size by omega)] at y0
                  have HG := Lib.hid (grown_set hg i (.int .u8 0))
                  have HK := Lib.hid (hk.set i (.int .u8 0))
                  clear hg hk
                  go_wp2
                  go_roundw
                  case rel => exact ⟨i + 1, by omega, by go_num, HG.out, _, HK.out, by simpa using hcu⟩
                  case measure => simp [intOf]; omega
                · have hj1 : ¬ (i : Int) < (L2.length : Int) := by omega
                  have HV5 := Lib.hid (HV4.out.grow hg (by omega))
                  have HX5 := Lib.hid (HX4.out.kept hg (fun e => by have h2 := Option.some.inj e; omega))
                  have ho5 := own_kept HO4.out hg (fun k hk e => by have h1 := (HO4.out.lt k hk).1; have h2 := Option.some.inj e; omega)
                  have hrd5 := ho5.rd1
                  have HRD5 := Lib.hid hrd5.1
                  have HN5 := Lib.hid hrd5.2.1
                  clear hg hk ho5 hrd5 HV4 HX4 HO4
                  have o0 := (HV5.out).one.cell 0
                  have o1 := (HV5.out).one.cell 1
                  have o2 := (HV5.out).one.cell 2
                  have o3 := (HV5.out).one.cell 3
                  have olt := (HV5.out).one.lt
                  have p0 := (HV5.out).two.cell 0
                  have p1 := (HV5.out).two.cell 1
                  have p2 := (HV5.out).two.cell 2
                  have p3 := (HV5.out).two.cell 3
                  have p4 := (HV5.out).two.cell 4
                  have plt := (HV5.out).two.lt
                  have x0 := HX5.out.cell 0
                  have x1 := HX5.out.cell 1
                  have x2 := HX5.out.cell 2
                  have x3 := HX5.out.cell 3
                  have x4 := HX5.out.cell 4
                  have xlt := HX5.out.lt
                  go_wp2_with fail
                  with_reducible refine (CQ.out _ _ _ HRD5.out HN5.out HV5.out.bl).mono ?_
                  rintro e v6 ⟨rfl, hb⟩
                  have HV6 := Lib.hid (HV5.out.past hb)
                  clear o0 o1 o2 o3 olt p0 p1 p2 p3 p4 plt
                  clear hb x0 x1 x2 x3 x4 xlt HX5 HV5
                  go_wp2_with fail
                  with_reducible refine (awake_any _).mono ?_
                  rintro e w9 ⟨rfl, hb9⟩
                  have HB9 := Lib.hid ((HV6.out).bl.trans (hb9.mono (HV6.out).bl.size))
                  clear hb9
                  go_wp2
                  go_ret
                  exact ⟨rfl, HB9.out⟩
            · have z2' : ((e2 : Int) == 0) = false := bneI (by omega)
              go_wp2_with fail
              with_reducible refine (awake_any _).mono ?_
              rintro e w9 ⟨rfl, hb9⟩
              have HB9 := Lib.hid ((HV2.out).bl.trans (hb9.mono (HV2.out).bl.size))
              clear hb9
              go_wp2
              go_ret
              exact ⟨rfl, HB9.out⟩
      · have z1' : ((e1 : Int) == 0) = false := bneI (by omega)
        have o0 := (HA2.out).one.cell 0
        have o1 := (HA2.out).one.cell 1
        have o2 := (HA2.out).one.cell 2
        have o3 := (HA2.out).one.cell 3
        have olt := (HA2.out).one.lt
        have p0 := (HA2.out).two.cell 0
        have p1 := (HA2.out).two.cell 1
        have p2 := (HA2.out).two.cell 2
        have p3 := (HA2.out).two.cell 3
        have p4 := (HA2.out).two.cell 4
        have plt := (HA2.out).two.lt
        go_wp2_with fail
        with_reducible refine (CP1.out _ (HA2.out).bl).mono ?_
        rintro e v2 ⟨pa, pc, rfl, hr1, hn1, hc1, -, hb⟩
        have HV2 := Lib.hid ((HA2.out).past hb)
        have HPR := Lib.hid hr1
        have HPN := Lib.hid hn1
        clear o0 o1 o2 o3 olt p0 p1 p2 p3 p4 plt
        clear hb hr1 hn1 CP1
        by_cases z2 : e2 = 0
        · subst z2
          obtain ⟨u1, u2, u3⟩ := HP2.out rfl
          have CU := Lib.hid u3
          clear u3
          go_wp2_with fail
          with_reducible refine (copyBytes_any pa L2.length pc L2 _ rfl HPR.out HPN.out (by omega)).mono ?_
          rintro e v3 ⟨g4, c4, rfl, ho3, hb⟩
          have HV3 := Lib.hid (HV2.out.past hb)
          obtain ⟨b4, c4', e4, hB4, hc4⟩ := ho3.val u1
          cases e4
          have hrd3 := ho3.rd1
          have HRI4 := Lib.hid hrd3.1
          obtain ⟨cur4, hk3, hcur4, -⟩ := ho3.blk
          have HK3 := Lib.hid hk3
          have hb4s := hk3.lt
          have hv2t := HV2.out.two.lt
          clear hb ho3 hrd3 hk3 HV2
          go_wp2_with fail
          with_reducible refine (CU.out _ _ _ HRI4.out (fun h => by cases h) hc4).mono ?_
          rintro e v4 ⟨dv, rfl, hod, hb⟩
          obtain ⟨b5, c5, rfl, r5, n5, k5⟩ := hod.rd
          have hod' := hod
          have hal : Below v4.heap.size v4 (v4.alloc (.cells #[.int .i64 f, .int .i64 l, .int .i64 s, .int .i64 a, .slice b5 d.length c5] 41)) := (Below.refl _ _).alloc (Nat.le_refl _) _
          have HV4 := Lib.hid ((HV3.out.past hb).past hal)
          have HK4 := Lib.hid ((HK3.out.below hb).below hal)
          have HO4 := Lib.hid (own_below hod hal)
          have HX4 := Lib.hid (Blk.new v4 #[.int .i64 f, .int .i64 l, .int .i64 s, .int .i64 a, .slice b5 d.length c5] 41)
          have h34 : v3.heap.size ≤ v4.heap.size := hb.size
          clear hb hod hod' r5 HV3 HK3 hal
          go_wp2_with fail
          refine (?_ : ∀ W5, A2 w (mcells m bn bv bb cn cv cb) _ W5 → Blk W5 b4 cur4 5 → Ow W5 v3.heap.size (.slice b5 d.length c5) d → Blk W5 v4.heap.size #[.int .i64 f, .int .i64 l, .int .i64 s, .int .i64 a, .slice b5 d.length c5] 41 → Code.wp _ _ _ _ W5) _ HV4.out HK4.out HO4.out HX4.out
          clear HV4 HK4 HO4 HX4
          intro W5 ha hk ho hx
          have HV4 := Lib.hid ha
          have HK4 := Lib.hid hk
          have HO4 := Lib.hid ho
          have HX4 := Lib.hid hx
          clear ha hk ho hx
          go_loopw [18, 91] (fun jv iv wr => ∃ i : Nat, i ≤ L2.length ∧ iv = .int .i64 i ∧ W5.grownBy wr (some b4) ∧ ∃ cur : Array Value, Blk wr b4 cur 5 ∧ cur.size = c4) (fun _ iv _ => L2.length - (intOf iv).toNat)
          case atStart => exact ⟨0, by omega, rfl, grown_refl _ _, cur4, HK4.out, by omega⟩
          case round =>
            obtain ⟨i, hi, rfl, hg, cu, hk, hcu⟩ := hrel
            by_cases hlt : i < L2.length
            · have hj1 : (i : Int) < (L2.length : Int) := by omega
              have y0 := hk.cell i
              have yf := hk.free i
              have yl := hk.lt
              rw [Array.getElem?_eq_getElem (show i < cu.size by omega)] at y0
              have HG := Lib.hid (grown_set hg i (.int .u8 0))
              have HK := Lib.hid (hk.set i (.int .u8 0))
              clear hg hk
              go_wp2
              go_roundw
              case rel => exact ⟨i + 1, by omega, by go_num, HG.out, _, HK.out, by simpa using hcu⟩
              case measure => simp [intOf]; omega
            · have hj1 : ¬ (i : Int) < (L2.length : Int) := by omega
              have HV5 := Lib.hid (HV4.out.grow hg (by omega))
              have HX5 := Lib.hid (HX4.out.kept hg (fun e => by have h2 := Option.some.inj e; omega))
              have ho5 := own_kept HO4.out hg (fun k hk e => by have h1 := (HO4.out.lt k hk).1; have h2 := Option.some.inj e; omega)
              have hrd5 := ho5.rd1
              have HRD5 := Lib.hid hrd5.1
              have HN5 := Lib.hid hrd5.2.1
              clear hg hk ho5 hrd5 HV4 HX4 HO4
              have o0 := (HV5.out).one.cell 0
              have o1 := (HV5.out).one.cell 1
              have o2 := (HV5.out).one.cell 2
              have o3 := (HV5.out).one.cell 3
              have olt := (HV5.out).one.lt
              have p0 := (HV5.out).two.cell 0
              have p1 := (HV5.out).two.cell 1
              have p2 := (HV5.out).two.cell 2
              have p3 := (HV5.out).two.cell 3
              have p4 := (HV5.out).two.cell 4
              have plt := (HV5.out).two.lt
              have x0 := HX5.out.cell 0
              have x1 := HX5.out.cell 1
              have x2 := HX5.out.cell 2
              have x3 := HX5.out.cell 3
              have x4 := HX5.out.cell 4
              have xlt := HX5.out.lt
              go_wp2_with fail
              with_reducible refine (CQ.out _ _ _ HRD5.out HN5.out HV5.out.bl).mono ?_
              rintro e v6 ⟨rfl, hb⟩
              have HV6 := Lib.hid (HV5.out.past hb)
              clear o0 o1 o2 o3 olt p0 p1 p2 p3 p4 plt
              clear hb x0 x1 x2 x3 x4 xlt HX5 HV5
              go_wp2_with fail
              with_reducible refine (awake_any _).mono ?_
              rintro e w9 ⟨rfl, hb9⟩
              have HB9 := Lib.hid ((HV6.out).bl.trans (hb9.mono (HV6.out).bl.size))
              clear hb9
              go_wp2
              go_ret
              exact ⟨rfl, HB9.out⟩
        · have z2' : ((e2 : Int) == 0) = false := bneI (by omega)
          go_wp2_with fail
          with_reducible refine (awake_any _).mono ?_
          rintro e w9 ⟨rfl, hb9⟩
          have HB9 := Lib.hid ((HV2.out).bl.trans (hb9.mono (HV2.out).bl.size))
          clear hb9
          go_wp2
          go_ret
          exact ⟨rfl, HB9.out⟩
    · have k1' : (1000 : Int) < (d.length : Int) := by omega
      have o0 := (HA1.out).one.cell 0
      have o1 := (HA1.out).one.cell 1
      have o2 := (HA1.out).one.cell 2
      have o3 := (HA1.out).one.cell 3
      have olt := (HA1.out).one.lt
      have p0 := (HA1.out).two.cell 0
      have p1 := (HA1.out).two.cell 1
      have p2 := (HA1.out).two.cell 2
      have p3 := (HA1.out).two.cell 3
      have p4 := (HA1.out).two.cell 4
      have plt := (HA1.out).two.lt
      go_wp2_with fail
      with_reducible refine (awake_any _).mono ?_
      rintro e w9 ⟨rfl, hb9⟩
      have HB9 := Lib.hid ((HA1.out).bl.trans (hb9.mono (HA1.out).bl.size))
      clear hb9
      go_wp2
      go_ret
      exact ⟨rfl, HB9.out⟩
end Go.Proofs.Ytgamhgeiceakeaa
set_option linter.unusedVariables false
set_option linter.unusedSimpArgs false
namespace Go.Proofs.Ytgamhgeiceakeaa
open Go.ChangeShapes Go.WideShapes Go.ChangeAt Go.RowKit
set_option maxRecDepth 100000 in
theorem spares_lifted (os : Os) (started : os.Started) (H : Type) (enc : TypeId × Value → H) :
    ReturnsInHanded {} Try.checked os 9 .any (Rows.frameSparesSpec.pre6 enc Try.prog Try.f9 Rows.frameSparesRow.domain false) (Rows.frameSparesSpec.post enc Try.prog Try.f9 false true false false) := by
  refine returnsInHanded_of_change (C := Try.checked) zz_own started (by kernel_rfl) Try.func9
    (ChangeSpec.witness6 (enc := enc) (C := Try.checked) false ⟨#[], #[.agg #[.int .u8 0, .slice none 0 0, .slice none 0 0, .slice none 0 0], .agg #[.int .i64 0, .int .i64 0, .int .i64 0, .int .i64 0, .slice none 0 0]], []⟩ 8 (by kernel_rfl) (by kernel_rfl) (by kernel_rfl) (by kernel_rfl)) ?_
  intro W base args ds gs before hval0 hW hcnd _
  have hval : ∀ (j : Nat) t v, Try.f9.params[j]? = some t → args[j]? = some v → Value.okWide Try.prog W .any base t v := hval0
  have hW' := hW
  obtain ⟨p, q, hA0, hV, rfl, hfz, hnd⟩ := hW
  have hA : DataW.TrodAll enc Try.prog W 0 (fun _ => true) true Try.f9.params.toList args.toList ds p := hA0
  have hA1 := hA
  rw [Try.params9] at hA hval
  have hA2 := hA
  obtain ⟨v0, vs0, d0, ds0, p0, q0, e0, rfl, rfl, h0, hA2⟩ := trodAll_cons hA2
  obtain ⟨v1, vs1, d1, ds1, p1, q1, e1, rfl, rfl, h1, hA2⟩ := trodAll_cons hA2
  obtain ⟨e2, rfl, rfl⟩ := trodAll_nil hA2
  obtain rfl : args = #[v0, v1] := by
    cases args; simp_all
  clear e0 e1 e2
  obtain ⟨m0, bn0, bv0, bb0, cn0, cv0, cb0, rfl, r0⟩ := open_msg (hval 0 30 v0 rfl rfl) h0
  obtain ⟨f1, l1, s1, a1, x1, r1⟩ := open_packet (hval 1 41 v1 rfl rfl) h1
  obtain ⟨rfl, rfl⟩ := trodVars_none hV
  clear hA0 hval0
  have hlt := hW'.lt
  refine (spares_row m0 bn0 bv0 bb0 cn0 cv0 cb0 f1 l1 s1 a1 x1 v1 W r0 r1).mono fun e W' ⟨he, hb⟩ => ?_
  subst he
  exact ⟨_, rfl, post_of_below (pv := []) hW' (fun _ _ _ => trodAll_mk1 (shut_bool Try.underlying4 _))
    (fun sp hsp => all_stay zz_laid sp hb _ _ _ _ (by intro t ht; rw [Try.params9] at ht; simp only [List.mem_cons, List.not_mem_nil, or_false] at ht; rcases ht with rfl | rfl <;> exact ⟨by kernel_rfl, of_decide_eq_true (by kernel_rfl)⟩) hA1 (fun x hx => hlt x (by simpa using hx)) (fun x hx => hsp x (by simpa using hx))) (fun _ _ => rfl) (by simp)
    hb (ok_one (by kernel_rfl) rfl (okWide_bool_mk Try.underlying4 _))⟩
theorem spares_holds : Rows.FrameSparesSaid :=
  OpenClaim.holds_of_wide 9 Try.f9 rfl rfl rfl rfl rfl rfl rfl ⟨rfl, rfl, rfl, rfl, rfl⟩ rfl rfl rfl rfl rfl (by kernel_rfl) Try.func9 (by kernel_rfl)
    (of_decide_eq_true (by kernel_rfl)) (by unfold Func.isWrapper; first | (rw [if_pos (by decide +kernel)]; kernel_rfl) | (rw [if_neg (by decide +kernel)]; exact ⟨rfl, rfl⟩))
    (fun os started H enc _ => spares_lifted os started H enc)
#print axioms spares_holds
end Go.Proofs.Ytgamhgeiceakeaa
