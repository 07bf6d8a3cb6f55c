/- PROVED: Rows.FrameApartSaid: for every input droverlaw03.FrameApart hands back true, and its arguments read as they did. No condition. Two messages have the same bytes just if they are the same; so have two packets. -/
import Derived.Test.YtgamhgeiceakeaaComE
import Derived.Deep.DeepCutAuto
/- FrameApart, the walk. -/
set_option linter.unusedVariables false
set_option linter.unusedSimpArgs false
namespace Go.Proofs.Ytgamhgeiceakeaa
open Go.RowKit
open By (Bs)
open Va (V)
open Me (Ms)
/-- two messages' boxes and two packets' -/
structure A4 (w : World) (c1 c2 c3 c4 : Array Value) (W : World) : Prop where
  one : Blk W w.heap.size c1 30
  two : Blk W (w.heap.size + 1) c2 30
  thr : Blk W (w.heap.size + 2) c3 41
  fou : Blk W (w.heap.size + 3) c4 41
  bl : Below w.heap.size w W
theorem A4.past {w W W' : World} {c1 c2 c3 c4 : Array Value} (h : A4 w c1 c2 c3 c4 W) (hb : Below W.heap.size W W') : A4 w c1 c2 c3 c4 W' :=
  ⟨h.one.below hb, h.two.below hb, h.thr.below hb, h.fou.below hb, h.bl.trans (hb.mono h.bl.size)⟩
theorem A4.new (w : World) (c1 c2 c3 c4 : Array Value) : A4 w c1 c2 c3 c4 ((((w.alloc (.cells c1 30)).alloc (.cells c2 30)).alloc (.cells c3 41)).alloc (.cells c4 41)) := by
  have s1 : (w.alloc (.cells c1 30)).heap.size = w.heap.size + 1 := by simp
  have s2 : ((w.alloc (.cells c1 30)).alloc (.cells c2 30)).heap.size = w.heap.size + 2 := by simp
  have s3 : (((w.alloc (.cells c1 30)).alloc (.cells c2 30)).alloc (.cells c3 41)).heap.size = w.heap.size + 3 := by simp
  have b1 := Blk.new w c1 30
  have b2 := Blk.new (w.alloc (.cells c1 30)) c2 30
  have b3 := Blk.new ((w.alloc (.cells c1 30)).alloc (.cells c2 30)) c3 41
  have b4 := Blk.new (((w.alloc (.cells c1 30)).alloc (.cells c2 30)).alloc (.cells c3 41)) c4 41
  rw [s1] at b2
  rw [s2] at b3
  rw [s3] at b4
  have al : ∀ (W : World) (o : Obj), Below W.heap.size W (W.alloc o) := fun W o => (Below.refl _ _).alloc (Nat.le_refl _) o
  exact ⟨((b1.below (al _ _)).below (al _ _)).below (al _ _), (b2.below (al _ _)).below (al _ _), b3.below (al _ _), b4, (((al _ _).alloc (by simp) _).alloc (by simp; omega) _).alloc (by simp; omega) _⟩
set_option maxHeartbeats 12800000 in
set_option maxRecDepth 100000 in
theorem apart_row (ok ok' : Nat → Prop) (m m' : Ms) (bn bv bb bn' bv' bb' : Option Addr) (cn cv cb cn' cv' cb' : Nat) (f l s a f' l' s' a' : Int) (d d' : Bs) (x x' : Value) (w : World)
    (h : RM ok w m bn bv bb cn cv cb) (h' : RM ok' w m' bn' bv' bb' cn' cv' cb') (hp : RP w f l s a d x) (hp' : RP w f' l' s' a' d' x') :
    Calls Try.prog 6 #[.agg (mcells m bn bv bb cn cv cb), .agg (mcells m' bn' bv' bb' cn' cv' cb'), x, x'] w (BB true w) := by
  have CS1 := Lib.hid (fun W (hb : Below w.heap.size w W) => smallMsg_any _ _ _ _ _ _ _ _ W (h.past hb))
  have CS2 := Lib.hid (fun W (hb : Below w.heap.size w W) => smallMsg_any _ _ _ _ _ _ _ _ W (h'.past hb))
  have CM1 := Lib.hid (fun W (hb : Below w.heap.size w W) => mput_any _ _ _ _ _ _ _ _ W (h.past hb))
  have CM2 := Lib.hid (fun W (hb : Below w.heap.size w W) => mput_any _ _ _ _ _ _ _ _ W (h'.past hb))
  have CE := Lib.hid (fun W (hb : Below w.heap.size w W) => sameMsg_any _ _ _ _ _ _ _ _ _ _ _ _ _ _ _ _ W (h.past hb) (h'.past hb))
  have HPS := Lib.hid (fun (q1 : Me.right m = true) (q2 : Me.right m' = true) => put_same q1 q2 (rm_wf h) (rm_wf h'))
  have HPP := Lib.hid (fun (q1 : rightB f l s a d.length = true) (q2 : rightB f' l' s' a' d'.length = true) => pack_same q1 q2)
  obtain ⟨ba, cap, rfl, g1, g2, g3, g4⟩ := hp.ex
  obtain ⟨ba', cap', rfl, g1', g2', g3', g4'⟩ := hp'.ex
  have CP1 := Lib.hid (fun W (hb : Below w.heap.size w W) => pack_any f l s a d _ W ⟨⟨ba, cap, rfl, g1.below hb, g2, g3, g4⟩, hp.num⟩)
  have CP2 := Lib.hid (fun W (hb : Below w.heap.size w W) => pack_any f' l' s' a' d' _ W ⟨⟨ba', cap', rfl, g1'.below hb, g2', g3', g4'⟩, hp'.num⟩)
  have CQ := Lib.hid (fun W (hb : Below w.heap.size w W) => samePacket_any f l s a f' l' s' a' ba ba' d.length d'.length cap cap' d d' W rfl (g1.below hb) g2 rfl (g1'.below hb) g2')
  have HA0 := Lib.hid (A4.new w (mcells m bn bv bb cn cv cb) (mcells m' bn' bv' bb' cn' cv' cb') #[.int .i64 f, .int .i64 l, .int .i64 s, .int .i64 a, .slice ba d.length cap] #[.int .i64 f', .int .i64 l', .int .i64 s', .int .i64 a', .slice ba' d'.length cap'])
  obtain ⟨L1, e1, hp1⟩ : ∃ L e, Me.put m = (L, e) := ⟨_, _, rfl⟩
  obtain ⟨L2, e2, hp2⟩ : ∃ L e, Me.put m' = (L, e) := ⟨_, _, rfl⟩
  obtain ⟨L3, e3, hp3⟩ : ∃ L e, Me.pack f l s a d = (L, e) := ⟨_, _, rfl⟩
  obtain ⟨L4, e4, hp4⟩ : ∃ L e, Me.pack f' l' s' a' d' = (L, e) := ⟨_, _, rfl⟩
  rw [hp1] at CM1
  rw [hp2] at CM2
  rw [hp3] at CP1
  rw [hp4] at CP2
  have HP1 := Lib.hid (show e1 = 0 → Me.right m = true ∧ L1 = By.shut (Me.body m) from fun he => by
    unfold Me.put at hp1
    cases hr : Me.right m with
    | true => rw [hr] at hp1; cases hp1; exact ⟨rfl, rfl⟩
    | false => rw [hr] at hp1; cases hp1; cases he)
  have HP2 := Lib.hid (show e2 = 0 → Me.right m' = true ∧ L2 = By.shut (Me.body m') from fun he => by
    unfold Me.put at hp2
    cases hr : Me.right m' with
    | true => rw [hr] at hp2; cases hp2; exact ⟨rfl, rfl⟩
    | false => rw [hr] at hp2; cases hp2; cases he)
  have HP3 := Lib.hid (show e3 = 0 → rightB f l s a d.length = true ∧ L3 = By.pack ⟨f.toNat, l.toNat, s.toNat, a.toNat, d⟩ from fun he => by
    unfold Me.pack at hp3
    cases hr : rightB f l s a d.length with
    | true => rw [hr] at hp3; cases hp3; exact ⟨rfl, rfl⟩
    | false => rw [hr] at hp3; cases hp3; cases he)
  have HP4 := Lib.hid (show e4 = 0 → rightB f' l' s' a' d'.length = true ∧ L4 = By.pack ⟨f'.toNat, l'.toNat, s'.toNat, a'.toNat, d'⟩ from fun he => by
    unfold Me.pack at hp4
    cases hr : rightB f' l' s' a' d'.length with
    | true => rw [hr] at hp4; cases hp4; exact ⟨rfl, rfl⟩
    | false => rw [hr] at hp4; cases hp4; cases he)
  clear h h' hp hp' g1 g2 g3 g4 g1' g2' g3' g4' hp1 hp2 hp3 hp4
  obtain ⟨sm, hsm⟩ : ∃ b, Me.small m = b := ⟨_, rfl⟩
  obtain ⟨sm', hsm'⟩ : ∃ b, Me.small m' = b := ⟨_, rfl⟩
  rw [hsm] at CS1
  rw [hsm'] at CS2
  clear hsm hsm'
  go_enter Try.func6, Try.ntmps6
  go_wp2_with fail
  with_reducible refine (CS1.out _ HA0.out.bl).mono ?_
  rintro e w1 ⟨rfl, hb⟩
  have HA1 := Lib.hid (HA0.out.past hb)
  clear hb HA0
  cases sm with
  | false =>
    go_wp2_with fail
    with_reducible refine (awake_any _).mono ?_
    rintro e w9 ⟨rfl, hb9⟩
    have HB9 := Lib.hid ((HA1.out).bl.trans (hb9.mono (HA1.out).bl.size))
    clear hb9
    go_wp2
    go_ret
    exact ⟨rfl, HB9.out⟩
  | true =>
    have o0 := (HA1.out).one.cell 0
    have o1 := (HA1.out).one.cell 1
    have o2 := (HA1.out).one.cell 2
    have o3 := (HA1.out).one.cell 3
    have olt := (HA1.out).one.lt
    have t0 := (HA1.out).two.cell 0
    have t1 := (HA1.out).two.cell 1
    have t2 := (HA1.out).two.cell 2
    have t3 := (HA1.out).two.cell 3
    have tlt := (HA1.out).two.lt
    have p0 := (HA1.out).thr.cell 0
    have p1 := (HA1.out).thr.cell 1
    have p2 := (HA1.out).thr.cell 2
    have p3 := (HA1.out).thr.cell 3
    have p4 := (HA1.out).thr.cell 4
    have plt := (HA1.out).thr.lt
    have q0 := (HA1.out).fou.cell 0
    have q1 := (HA1.out).fou.cell 1
    have q2 := (HA1.out).fou.cell 2
    have q3 := (HA1.out).fou.cell 3
    have q4 := (HA1.out).fou.cell 4
    have qlt := (HA1.out).fou.lt
    go_wp2_with fail
    with_reducible refine (CS2.out _ HA1.out.bl).mono ?_
    rintro e w2 ⟨rfl, hb⟩
    have HA2 := Lib.hid (HA1.out.past hb)
    clear hb HA1
    clear o0 o1 o2 o3 olt t0 t1 t2 t3 tlt p0 p1 p2 p3 p4 plt q0 q1 q2 q3 q4 qlt
    cases sm' with
    | false =>
      go_wp2_with fail
      with_reducible refine (awake_any _).mono ?_
      rintro e w9 ⟨rfl, hb9⟩
      have HB9 := Lib.hid ((HA2.out).bl.trans (hb9.mono (HA2.out).bl.size))
      clear hb9
      go_wp2
      go_ret
      exact ⟨rfl, HB9.out⟩
    | true =>
      by_cases k1 : d.length ≤ 1000
      · by_cases k2 : d'.length ≤ 1000
        · have k1' : ¬ (1000 : Int) < (d.length : Int) := by omega
          have k2' : ¬ (1000 : Int) < (d'.length : Int) := by omega
          have o0 := (HA2.out).one.cell 0
          have o1 := (HA2.out).one.cell 1
          have o2 := (HA2.out).one.cell 2
          have o3 := (HA2.out).one.cell 3
          have olt := (HA2.out).one.lt
          have t0 := (HA2.out).two.cell 0
          have t1 := (HA2.out).two.cell 1
          have t2 := (HA2.out).two.cell 2
          have t3 := (HA2.out).two.cell 3
          have tlt := (HA2.out).two.lt
          have p0 := (HA2.out).thr.cell 0
          have p1 := (HA2.out).thr.cell 1
          have p2 := (HA2.out).thr.cell 2
          have p3 := (HA2.out).thr.cell 3
          have p4 := (HA2.out).thr.cell 4
          have plt := (HA2.out).thr.lt
          have q0 := (HA2.out).fou.cell 0
          have q1 := (HA2.out).fou.cell 1
          have q2 := (HA2.out).fou.cell 2
          have q3 := (HA2.out).fou.cell 3
          have q4 := (HA2.out).fou.cell 4
          have qlt := (HA2.out).fou.lt
          go_wp2_with fail
          with_reducible refine (CM1.out _ HA2.out.bl).mono ?_
          rintro e w3 ⟨g1, c1, rfl, hr1, hn1, hc1, -, hb⟩
          have HA3 := Lib.hid (HA2.out.past hb)
          have HR1 := Lib.hid hr1
          have HN1 := Lib.hid hn1
          clear o0 o1 o2 o3 olt t0 t1 t2 t3 tlt p0 p1 p2 p3 p4 plt q0 q1 q2 q3 q4 qlt
          clear hb hr1 hn1 hc1 HA2
          have o0 := (HA3.out).one.cell 0
          have o1 := (HA3.out).one.cell 1
          have o2 := (HA3.out).one.cell 2
          have o3 := (HA3.out).one.cell 3
          have olt := (HA3.out).one.lt
          have t0 := (HA3.out).two.cell 0
          have t1 := (HA3.out).two.cell 1
          have t2 := (HA3.out).two.cell 2
          have t3 := (HA3.out).two.cell 3
          have tlt := (HA3.out).two.lt
          have p0 := (HA3.out).thr.cell 0
          have p1 := (HA3.out).thr.cell 1
          have p2 := (HA3.out).thr.cell 2
          have p3 := (HA3.out).thr.cell 3
          have p4 := (HA3.out).thr.cell 4
          have plt := (HA3.out).thr.lt
          have q0 := (HA3.out).fou.cell 0
          have q1 := (HA3.out).fou.cell 1
          have q2 := (HA3.out).fou.cell 2
          have q3 := (HA3.out).fou.cell 3
          have q4 := (HA3.out).fou.cell 4
          have qlt := (HA3.out).fou.lt
          go_wp2_with fail
          with_reducible refine (CM2.out _ HA3.out.bl).mono ?_
          rintro e w4 ⟨g2, c2, rfl, hr2, hn2, hc2, -, hb⟩
          have HA4 := Lib.hid (HA3.out.past hb)
          have HRD1 := Lib.hid (HR1.out.below hb)
          have HRD2 := Lib.hid hr2
          have HN2 := Lib.hid hn2
          clear o0 o1 o2 o3 olt t0 t1 t2 t3 tlt p0 p1 p2 p3 p4 plt q0 q1 q2 q3 q4 qlt
          clear hb hr2 hn2 hc2 HA3 HR1 CM1 CM2 CS1 CS2 k1' k2'
          by_cases z1 : e1 = 0
          · by_cases z2 : e2 = 0
            · subst z1 z2
              have hpp := HP1.out rfl
              have hpp' := HP2.out rfl
              have HEQ := Lib.hid (show (L1 == L2) = Me.same m m' by rw [hpp.2, hpp'.2]; exact HPS.out hpp.1 hpp'.1)
              obtain ⟨bq, hbq⟩ : ∃ b, Me.same m m' = b := ⟨_, rfl⟩
              have hCE := fun W hb => CE.out W hb
              rw [hbq] at HEQ
              simp only [hbq] at hCE
              have CE2 := Lib.hid hCE
              clear hCE hbq hpp hpp' CE
              go_upto_region 5 with (fail)
              have hdr : Below w4.heap.size w4 w4.drew := (Below.refl _ _).drew
              have HA5 := Lib.hid (HA4.out.past hdr)
              have HX1 := Lib.hid (HRD1.out.below hdr)
              have HX2 := Lib.hid (HRD2.out.below hdr)
              refine wp_region_T_drew (fun w' => w'.cell? ⟨w.heap.size, 0, none⟩ = some (.int .u8 m.kind) ∧ w'.cell? ⟨w.heap.size, 1, none⟩ = some (.slice bn m.nums.length cn) ∧ w'.cell? ⟨w.heap.size, 2, none⟩ = some (.slice bv m.vals.length cv) ∧ w'.cell? ⟨w.heap.size, 3, none⟩ = some (.slice bb m.blobs.length cb) ∧ w'.cell? ⟨w.heap.size + 1, 0, none⟩ = some (.int .u8 m'.kind) ∧ w'.cell? ⟨w.heap.size + 1, 1, none⟩ = some (.slice bn' m'.nums.length cn') ∧ w'.cell? ⟨w.heap.size + 1, 2, none⟩ = some (.slice bv' m'.vals.length cv') ∧ w'.cell? ⟨w.heap.size + 1, 3, none⟩ = some (.slice bb' m'.blobs.length cb')) 15 (by kernel_rfl) ⟨(HA5.out).one.cell 0, (HA5.out).one.cell 1, (HA5.out).one.cell 2, (HA5.out).one.cell 3, (HA5.out).two.cell 0, (HA5.out).two.cell 1, (HA5.out).two.cell 2, (HA5.out).two.cell 3⟩ (fun hS => ?_)
              clear hdr HA4 HRD1 HRD2
              refine wpAnyT_pure 0 rfl (by kernel_rfl) (by decide) (by kernel_rfl) (by kernel_rfl) (fun _ _ _ h => h) hS (by kernel_rfl) (v := ?_) ?_ ?_
              rotate_left
              · intro w'; go_simp; (try with_reducible rfl)
              simp only [Act.put, List.setIfInBounds_toArray, List.set_cons_zero, List.set_cons_succ]
              refine wpAnyT_pure 1 rfl (by kernel_rfl) (by decide) (by kernel_rfl) (by kernel_rfl) (fun _ _ _ h => h) hS (by kernel_rfl) (v := ?_) ?_ ?_
              rotate_left
              · intro w'; go_simp; (try with_reducible rfl)
              simp only [Act.put, List.setIfInBounds_toArray, List.set_cons_zero, List.set_cons_succ]
              refine wpAnyT_pure 2 rfl (by kernel_rfl) (by decide) (by kernel_rfl) (by kernel_rfl) (fun _ _ _ h => h) hS (by kernel_rfl) (v := ?_) ?_ ?_
              rotate_left
              · intro w'; go_simp; (try with_reducible rfl)
              simp only [Act.put, List.setIfInBounds_toArray, List.set_cons_zero, List.set_cons_succ]
              refine wpAnyT_pure 3 rfl (by kernel_rfl) (by decide) (by kernel_rfl) (by kernel_rfl) (fun _ _ _ h => h) hS (by kernel_rfl) (v := ?_) ?_ ?_
              rotate_left
              · intro w'; go_simp; (try with_reducible rfl)
              simp only [Act.put, List.setIfInBounds_toArray, List.set_cons_zero, List.set_cons_succ]
              refine wpAnyT_pure 4 rfl (by kernel_rfl) (by decide) (by kernel_rfl) (by kernel_rfl) (fun _ _ _ h => h) hS (by kernel_rfl) (v := ?_) ?_ ?_
              rotate_left
              · intro w'; go_simp; (try with_reducible rfl)
              simp only [Act.put, List.setIfInBounds_toArray, List.set_cons_zero, List.set_cons_succ]
              refine wpAnyT_pure 5 rfl (by kernel_rfl) (by decide) (by kernel_rfl) (by kernel_rfl) (fun _ _ _ h => h) hS (by kernel_rfl) (v := ?_) ?_ ?_
              rotate_left
              · intro w'; go_simp; (try with_reducible rfl)
              simp only [Act.put, List.setIfInBounds_toArray, List.set_cons_zero, List.set_cons_succ]
              refine wpAnyT_pure 6 rfl (by kernel_rfl) (by decide) (by kernel_rfl) (by kernel_rfl) (fun _ _ _ h => h) hS (by kernel_rfl) (v := ?_) ?_ ?_
              rotate_left
              · intro w'; go_simp; (try with_reducible rfl)
              simp only [Act.put, List.setIfInBounds_toArray, List.set_cons_zero, List.set_cons_succ]
              refine wpAnyT_pure 7 rfl (by kernel_rfl) (by decide) (by kernel_rfl) (by kernel_rfl) (fun _ _ _ h => h) hS (by kernel_rfl) (v := ?_) ?_ ?_
              rotate_left
              · intro w'; go_simp; (try with_reducible rfl)
              simp only [Act.put, List.setIfInBounds_toArray, List.set_cons_zero, List.set_cons_succ]
              refine wpAnyT_pure 8 rfl (by kernel_rfl) (by decide) (by kernel_rfl) (by kernel_rfl) (fun _ _ _ h => h) hS (by kernel_rfl) (v := ?_) ?_ ?_
              rotate_left
              · intro w'; go_simp; (try with_reducible rfl)
              simp only [Act.put, List.setIfInBounds_toArray, List.set_cons_zero, List.set_cons_succ]
              refine wpAnyT_take 10 rfl (by kernel_rfl) (by kernel_rfl) (by decide) (by kernel_rfl) (by kernel_rfl) (fun _ _ _ h => h) hS (by kernel_rfl) (v := ?_) ?_ ?_
              rotate_left
              · intro w' hSw; (try dsimp only at hSw); go_simp; (try with_reducible rfl)
              simp only [Act.put, List.setIfInBounds_toArray, List.set_cons_zero, List.set_cons_succ]
              refine wpAnyT_take 11 rfl (by kernel_rfl) (by kernel_rfl) (by decide) (by kernel_rfl) (by kernel_rfl) (fun _ _ _ h => h) hS (by kernel_rfl) (v := ?_) ?_ ?_
              rotate_left
              · intro w' hSw; (try dsimp only at hSw); go_simp; (try with_reducible rfl)
              simp only [Act.put, List.setIfInBounds_toArray, List.set_cons_zero, List.set_cons_succ]
              refine wpAnyT_one 9 (by kernel_rfl) rfl (by kernel_rfl) (fun K hK => ?_)
              go_simp
              with_reducible refine (sameBytes_any g1 g2 L1.length L2.length c1 c2 L1 L2 _ rfl HX1.out HN1.out rfl HX2.out HN2.out).mono ?_
              rintro e w5 ⟨rfl, rfl⟩
              rw [HEQ.out]
              refine hK _ _ (fun _ => hS) ?_
              clear hK K
              refine wpAnyT_one 12 (by kernel_rfl) rfl (by kernel_rfl) (fun K hK => ?_)
              go_simp
              with_reducible refine (CE2.out _ HA5.out.bl).mono ?_
              rintro e w6 ⟨rfl, hb⟩
              have HA6 := Lib.hid (HA5.out.past hb)
              have hS : _ ∧ _ ∧ _ ∧ _ ∧ _ ∧ _ ∧ _ ∧ _ := ⟨(HA6.out).one.cell 0, (HA6.out).one.cell 1, (HA6.out).one.cell 2, (HA6.out).one.cell 3, (HA6.out).two.cell 0, (HA6.out).two.cell 1, (HA6.out).two.cell 2, (HA6.out).two.cell 3⟩
              refine hK _ _ (fun _ => hS) ?_
              clear hK K hb HA5 HX1 HX2
              refine wpAnyT_pure 13 rfl (by kernel_rfl) (by decide) (by kernel_rfl) (by kernel_rfl) (fun _ _ _ h => h) hS (by kernel_rfl) (v := ?_) ?_ ?_
              rotate_left
              · intro w'; go_simp; (try with_reducible rfl)
              simp only [Act.put, List.getElem_toArray, List.getElem_cons_zero, List.getElem_cons_succ, List.setIfInBounds_toArray, List.set_cons_zero, List.set_cons_succ]
              refine wpAnyT_pure 14 rfl (by kernel_rfl) (by decide) (by kernel_rfl) (by kernel_rfl) (fun _ _ _ h => h) hS (by kernel_rfl) (v := ?_) ?_ ?_
              rotate_left
              · intro w'; go_simp; (try with_reducible rfl)
              simp only [Act.put, List.getElem_toArray, List.getElem_cons_zero, List.getElem_cons_succ, List.setIfInBounds_toArray, List.set_cons_zero, List.set_cons_succ]
              refine wpAnyT_done (by kernel_rfl) ?_
              clear hS HEQ CE2
              have o0 := (HA6.out).one.cell 0
              have o1 := (HA6.out).one.cell 1
              have o2 := (HA6.out).one.cell 2
              have o3 := (HA6.out).one.cell 3
              have olt := (HA6.out).one.lt
              have t0 := (HA6.out).two.cell 0
              have t1 := (HA6.out).two.cell 1
              have t2 := (HA6.out).two.cell 2
              have t3 := (HA6.out).two.cell 3
              have tlt := (HA6.out).two.lt
              have p0 := (HA6.out).thr.cell 0
              have p1 := (HA6.out).thr.cell 1
              have p2 := (HA6.out).thr.cell 2
              have p3 := (HA6.out).thr.cell 3
              have p4 := (HA6.out).thr.cell 4
              have plt := (HA6.out).thr.lt
              have q0 := (HA6.out).fou.cell 0
              have q1 := (HA6.out).fou.cell 1
              have q2 := (HA6.out).fou.cell 2
              have q3 := (HA6.out).fou.cell 3
              have q4 := (HA6.out).fou.cell 4
              have qlt := (HA6.out).fou.lt
              go_wp2_with fail
              with_reducible refine (CP1.out _ HA6.out.bl).mono ?_
              rintro e w7 ⟨g3, c3, rfl, hr3, hn3, hc3, -, hb⟩
              have HA7 := Lib.hid (HA6.out.past hb)
              have HR3 := Lib.hid hr3
              have HN3 := Lib.hid hn3
              clear o0 o1 o2 o3 olt t0 t1 t2 t3 tlt p0 p1 p2 p3 p4 plt q0 q1 q2 q3 q4 qlt
              clear hb hr3 hn3 hc3 HA6
              have o0 := (HA7.out).one.cell 0
              have o1 := (HA7.out).one.cell 1
              have o2 := (HA7.out).one.cell 2
              have o3 := (HA7.out).one.cell 3
              have olt := (HA7.out).one.lt
              have t0 := (HA7.out).two.cell 0
              have t1 := (HA7.out).two.cell 1
              have t2 := (HA7.out).two.cell 2
              have t3 := (HA7.out).two.cell 3
              have tlt := (HA7.out).two.lt
              have p0 := (HA7.out).thr.cell 0
              have p1 := (HA7.out).thr.cell 1
              have p2 := (HA7.out).thr.cell 2
              have p3 := (HA7.out).thr.cell 3
              have p4 := (HA7.out).thr.cell 4
              have plt := (HA7.out).thr.lt
              have q0 := (HA7.out).fou.cell 0
              have q1 := (HA7.out).fou.cell 1
              have q2 := (HA7.out).fou.cell 2
              have q3 := (HA7.out).fou.cell 3
              have q4 := (HA7.out).fou.cell 4
              have qlt := (HA7.out).fou.lt
              go_wp2_with fail
              with_reducible refine (CP2.out _ HA7.out.bl).mono ?_
              rintro e w8 ⟨g4, c4, rfl, hr4, hn4, hc4, -, hb⟩
              have HA8 := Lib.hid (HA7.out.past hb)
              have HRD3 := Lib.hid (HR3.out.below hb)
              have HRD4 := Lib.hid hr4
              have HN4 := Lib.hid hn4
              clear o0 o1 o2 o3 olt t0 t1 t2 t3 tlt p0 p1 p2 p3 p4 plt q0 q1 q2 q3 q4 qlt
              clear hb hr4 hn4 hc4 HA7 HR3 CP1 CP2
              by_cases z3 : e3 = 0
              · by_cases z4 : e4 = 0
                · subst z3 z4
                  have hpp := HP3.out rfl
                  have hpp' := HP4.out rfl
                  have HEQ := Lib.hid (show (L3 == L4) = (eq4 f l s a f' l' s' a' && (d == d')) by rw [hpp.2, hpp'.2]; exact HPP.out hpp.1 hpp'.1)
                  obtain ⟨bq, hbq⟩ : ∃ b, (eq4 f l s a f' l' s' a' && (d == d')) = b := ⟨_, rfl⟩
                  have hCQ := fun W hb => CQ.out W hb
                  rw [hbq] at HEQ
                  simp only [hbq] at hCQ
                  have CQ2 := Lib.hid hCQ
                  clear hCQ hbq hpp hpp' CQ
                  go_upto_region 9 with (fail)
                  have hdr : Below w8.heap.size w8 w8.drew := (Below.refl _ _).drew
                  have HA9 := Lib.hid (HA8.out.past hdr)
                  have HX3 := Lib.hid (HRD3.out.below hdr)
                  have HX4 := Lib.hid (HRD4.out.below hdr)
                  refine wp_region_T_drew (fun w' => w'.cell? ⟨w.heap.size + 2, 0, none⟩ = some (.int .i64 f) ∧ w'.cell? ⟨w.heap.size + 2, 1, none⟩ = some (.int .i64 l) ∧ w'.cell? ⟨w.heap.size + 2, 2, none⟩ = some (.int .i64 s) ∧ w'.cell? ⟨w.heap.size + 2, 3, none⟩ = some (.int .i64 a) ∧ w'.cell? ⟨w.heap.size + 2, 4, none⟩ = some (.slice ba d.length cap) ∧ w'.cell? ⟨w.heap.size + 3, 0, none⟩ = some (.int .i64 f') ∧ w'.cell? ⟨w.heap.size + 3, 1, none⟩ = some (.int .i64 l') ∧ w'.cell? ⟨w.heap.size + 3, 2, none⟩ = some (.int .i64 s') ∧ w'.cell? ⟨w.heap.size + 3, 3, none⟩ = some (.int .i64 a') ∧ w'.cell? ⟨w.heap.size + 3, 4, none⟩ = some (.slice ba' d'.length cap')) 19 (by kernel_rfl) ⟨(HA9.out).thr.cell 0, (HA9.out).thr.cell 1, (HA9.out).thr.cell 2, (HA9.out).thr.cell 3, (HA9.out).thr.cell 4, (HA9.out).fou.cell 0, (HA9.out).fou.cell 1, (HA9.out).fou.cell 2, (HA9.out).fou.cell 3, (HA9.out).fou.cell 4⟩ (fun hS => ?_)
                  clear hdr HA8 HRD3 HRD4
                  refine wpAnyT_pure 0 rfl (by kernel_rfl) (by decide) (by kernel_rfl) (by kernel_rfl) (fun _ _ _ h => h) hS (by kernel_rfl) (v := ?_) ?_ ?_
                  rotate_left
                  · intro w'; go_simp; (try with_reducible rfl)
                  simp only [Act.put, List.setIfInBounds_toArray, List.set_cons_zero, List.set_cons_succ]
                  refine wpAnyT_pure 1 rfl (by kernel_rfl) (by decide) (by kernel_rfl) (by kernel_rfl) (fun _ _ _ h => h) hS (by kernel_rfl) (v := ?_) ?_ ?_
                  rotate_left
                  · intro w'; go_simp; (try with_reducible rfl)
                  simp only [Act.put, List.setIfInBounds_toArray, List.set_cons_zero, List.set_cons_succ]
                  refine wpAnyT_pure 2 rfl (by kernel_rfl) (by decide) (by kernel_rfl) (by kernel_rfl) (fun _ _ _ h => h) hS (by kernel_rfl) (v := ?_) ?_ ?_
                  rotate_left
                  · intro w'; go_simp; (try with_reducible rfl)
                  simp only [Act.put, List.setIfInBounds_toArray, List.set_cons_zero, List.set_cons_succ]
                  refine wpAnyT_pure 3 rfl (by kernel_rfl) (by decide) (by kernel_rfl) (by kernel_rfl) (fun _ _ _ h => h) hS (by kernel_rfl) (v := ?_) ?_ ?_
                  rotate_left
                  · intro w'; go_simp; (try with_reducible rfl)
                  simp only [Act.put, List.setIfInBounds_toArray, List.set_cons_zero, List.set_cons_succ]
                  refine wpAnyT_pure 4 rfl (by kernel_rfl) (by decide) (by kernel_rfl) (by kernel_rfl) (fun _ _ _ h => h) hS (by kernel_rfl) (v := ?_) ?_ ?_
                  rotate_left
                  · intro w'; go_simp; (try with_reducible rfl)
                  simp only [Act.put, List.setIfInBounds_toArray, List.set_cons_zero, List.set_cons_succ]
                  refine wpAnyT_pure 5 rfl (by kernel_rfl) (by decide) (by kernel_rfl) (by kernel_rfl) (fun _ _ _ h => h) hS (by kernel_rfl) (v := ?_) ?_ ?_
                  rotate_left
                  · intro w'; go_simp; (try with_reducible rfl)
                  simp only [Act.put, List.setIfInBounds_toArray, List.set_cons_zero, List.set_cons_succ]
                  refine wpAnyT_pure 6 rfl (by kernel_rfl) (by decide) (by kernel_rfl) (by kernel_rfl) (fun _ _ _ h => h) hS (by kernel_rfl) (v := ?_) ?_ ?_
                  rotate_left
                  · intro w'; go_simp; (try with_reducible rfl)
                  simp only [Act.put, List.setIfInBounds_toArray, List.set_cons_zero, List.set_cons_succ]
                  refine wpAnyT_pure 7 rfl (by kernel_rfl) (by decide) (by kernel_rfl) (by kernel_rfl) (fun _ _ _ h => h) hS (by kernel_rfl) (v := ?_) ?_ ?_
                  rotate_left
                  · intro w'; go_simp; (try with_reducible rfl)
                  simp only [Act.put, List.setIfInBounds_toArray, List.set_cons_zero, List.set_cons_succ]
                  refine wpAnyT_pure 8 rfl (by kernel_rfl) (by decide) (by kernel_rfl) (by kernel_rfl) (fun _ _ _ h => h) hS (by kernel_rfl) (v := ?_) ?_ ?_
                  rotate_left
                  · intro w'; go_simp; (try with_reducible rfl)
                  simp only [Act.put, List.setIfInBounds_toArray, List.set_cons_zero, List.set_cons_succ]
                  refine wpAnyT_take 10 rfl (by kernel_rfl) (by kernel_rfl) (by decide) (by kernel_rfl) (by kernel_rfl) (fun _ _ _ h => h) hS (by kernel_rfl) (v := ?_) ?_ ?_
                  rotate_left
                  · intro w' hSw; (try dsimp only at hSw); go_simp; (try with_reducible rfl)
                  simp only [Act.put, List.setIfInBounds_toArray, List.set_cons_zero, List.set_cons_succ]
                  refine wpAnyT_take 11 rfl (by kernel_rfl) (by kernel_rfl) (by decide) (by kernel_rfl) (by kernel_rfl) (fun _ _ _ h => h) hS (by kernel_rfl) (v := ?_) ?_ ?_
                  rotate_left
                  · intro w' hSw; (try dsimp only at hSw); go_simp; (try with_reducible rfl)
                  simp only [Act.put, List.setIfInBounds_toArray, List.set_cons_zero, List.set_cons_succ]
                  refine wpAnyT_one 9 (by kernel_rfl) rfl (by kernel_rfl) (fun K hK => ?_)
                  go_simp
                  with_reducible refine (sameBytes_any g3 g4 L3.length L4.length c3 c4 L3 L4 _ rfl HX3.out HN3.out rfl HX4.out HN4.out).mono ?_
                  rintro e w9 ⟨rfl, rfl⟩
                  rw [HEQ.out]
                  refine hK _ _ (fun _ => hS) ?_
                  clear hK K
                  refine wpAnyT_one 12 (by kernel_rfl) rfl (by kernel_rfl) (fun K hK => ?_)
                  go_simp
                  with_reducible refine (CQ2.out _ HA9.out.bl).mono ?_
                  rintro e w10 ⟨rfl, hb⟩
                  have HA10 := Lib.hid (HA9.out.past hb)
                  have hS : _ ∧ _ ∧ _ ∧ _ ∧ _ ∧ _ ∧ _ ∧ _ ∧ _ ∧ _ := ⟨(HA10.out).thr.cell 0, (HA10.out).thr.cell 1, (HA10.out).thr.cell 2, (HA10.out).thr.cell 3, (HA10.out).thr.cell 4, (HA10.out).fou.cell 0, (HA10.out).fou.cell 1, (HA10.out).fou.cell 2, (HA10.out).fou.cell 3, (HA10.out).fou.cell 4⟩
                  refine hK _ _ (fun _ => hS) ?_
                  clear hK K hb HA9 HX3 HX4
                  refine wpAnyT_pure 13 rfl (by kernel_rfl) (by decide) (by kernel_rfl) (by kernel_rfl) (fun _ _ _ h => h) hS (by kernel_rfl) (v := ?_) ?_ ?_
                  rotate_left
                  · intro w'; go_simp; (try with_reducible rfl)
                  simp only [Act.put, List.setIfInBounds_toArray, List.set_cons_zero, List.set_cons_succ]
                  refine wpAnyT_pure 14 rfl (by kernel_rfl) (by decide) (by kernel_rfl) (by kernel_rfl) (fun _ _ _ h => h) hS (by kernel_rfl) (v := ?_) ?_ ?_
                  rotate_left
                  · intro w'; go_simp; (try with_reducible rfl)
                  simp only [Act.put, List.setIfInBounds_toArray, List.set_cons_zero, List.set_cons_succ]
                  refine wpAnyT_pure 15 rfl (by kernel_rfl) (by decide) (by kernel_rfl) (by kernel_rfl) (fun _ _ _ h => h) hS (by kernel_rfl) (v := ?_) ?_ ?_
                  rotate_left
                  · intro w'; go_simp; (try with_reducible rfl)
                  simp only [Act.put, List.setIfInBounds_toArray, List.set_cons_zero, List.set_cons_succ]
                  refine wpAnyT_one 16 (by kernel_rfl) rfl (by kernel_rfl) (fun K hK => ?_)
                  go_simp
                  with_reducible refine (awake_any _).mono ?_
                  rintro e w11 ⟨rfl, hb⟩
                  have HA11 := Lib.hid ((HA10.out).past hb)
                  have hS : _ ∧ _ ∧ _ ∧ _ ∧ _ ∧ _ ∧ _ ∧ _ ∧ _ ∧ _ := ⟨(HA11.out).thr.cell 0, (HA11.out).thr.cell 1, (HA11.out).thr.cell 2, (HA11.out).thr.cell 3, (HA11.out).thr.cell 4, (HA11.out).fou.cell 0, (HA11.out).fou.cell 1, (HA11.out).fou.cell 2, (HA11.out).fou.cell 3, (HA11.out).fou.cell 4⟩
                  refine hK _ _ (fun _ => hS) ?_
                  clear hK K hb
                  refine wpAnyT_pure 17 rfl (by kernel_rfl) (by decide) (by kernel_rfl) (by kernel_rfl) (fun _ _ _ h => h) hS (by kernel_rfl) (v := ?_) ?_ ?_
                  rotate_left
                  · intro w'; go_simp; (try with_reducible rfl)
                  simp only [Act.put, List.getElem_toArray, List.getElem_cons_zero, List.getElem_cons_succ, List.setIfInBounds_toArray, List.set_cons_zero, List.set_cons_succ]
                  refine wpAnyT_pure 18 rfl (by kernel_rfl) (by decide) (by kernel_rfl) (by kernel_rfl) (fun _ _ _ h => h) hS (by kernel_rfl) (v := ?_) ?_ ?_
                  rotate_left
                  · intro w'; go_simp; (try with_reducible rfl)
                  simp only [Act.put, List.getElem_toArray, List.getElem_cons_zero, List.getElem_cons_succ, List.setIfInBounds_toArray, List.set_cons_zero, List.set_cons_succ]
                  refine wpAnyT_done (by kernel_rfl) ?_
                  clear hS
                  go_wp2
                  go_ret
                  exact ⟨rfl, HA11.out.bl⟩
                · subst z3
                  have z4' : (e4 != 0) = true := bne_iff_ne.2 z4
                  have z4'' : (e4 == 0) = false := bneI z4
                  go_upto_region 9 with (fail)
                  have hdr : Below w8.heap.size w8 w8.drew := (Below.refl _ _).drew
                  have HA9 := Lib.hid (HA8.out.past hdr)
                  have HX3 := Lib.hid (HRD3.out.below hdr)
                  have HX4 := Lib.hid (HRD4.out.below hdr)
                  refine wp_region_T_drew (fun w' => w'.cell? ⟨w.heap.size + 2, 0, none⟩ = some (.int .i64 f) ∧ w'.cell? ⟨w.heap.size + 2, 1, none⟩ = some (.int .i64 l) ∧ w'.cell? ⟨w.heap.size + 2, 2, none⟩ = some (.int .i64 s) ∧ w'.cell? ⟨w.heap.size + 2, 3, none⟩ = some (.int .i64 a) ∧ w'.cell? ⟨w.heap.size + 2, 4, none⟩ = some (.slice ba d.length cap) ∧ w'.cell? ⟨w.heap.size + 3, 0, none⟩ = some (.int .i64 f') ∧ w'.cell? ⟨w.heap.size + 3, 1, none⟩ = some (.int .i64 l') ∧ w'.cell? ⟨w.heap.size + 3, 2, none⟩ = some (.int .i64 s') ∧ w'.cell? ⟨w.heap.size + 3, 3, none⟩ = some (.int .i64 a') ∧ w'.cell? ⟨w.heap.size + 3, 4, none⟩ = some (.slice ba' d'.length cap')) 19 (by kernel_rfl) ⟨(HA9.out).thr.cell 0, (HA9.out).thr.cell 1, (HA9.out).thr.cell 2, (HA9.out).thr.cell 3, (HA9.out).thr.cell 4, (HA9.out).fou.cell 0, (HA9.out).fou.cell 1, (HA9.out).fou.cell 2, (HA9.out).fou.cell 3, (HA9.out).fou.cell 4⟩ (fun hS => ?_)
                  clear hdr HA8 HRD3 HRD4
                  refine wpAnyT_pure 0 rfl (by kernel_rfl) (by decide) (by kernel_rfl) (by kernel_rfl) (fun _ _ _ h => h) hS (by kernel_rfl) (v := ?_) ?_ ?_
                  rotate_left
                  · intro w'; go_simp; (try with_reducible rfl)
                  simp only [Act.put, List.getElem_toArray, List.getElem_cons_zero, List.getElem_cons_succ, List.setIfInBounds_toArray, List.set_cons_zero, List.set_cons_succ]
                  refine wpAnyT_pure 1 rfl (by kernel_rfl) (by decide) (by kernel_rfl) (by kernel_rfl) (fun _ _ _ h => h) hS (by kernel_rfl) (v := ?_) ?_ ?_
                  rotate_left
                  · intro w'; go_simp; (try with_reducible rfl)
                  simp only [Act.put, List.getElem_toArray, List.getElem_cons_zero, List.getElem_cons_succ, List.setIfInBounds_toArray, List.set_cons_zero, List.set_cons_succ]
                  refine wpAnyT_pure 2 rfl (by kernel_rfl) (by decide) (by kernel_rfl) (by kernel_rfl) (fun _ _ _ h => h) hS (by kernel_rfl) (v := ?_) ?_ ?_
                  rotate_left
                  · intro w'; go_simp; (try with_reducible rfl)
                  simp only [Act.put, List.getElem_toArray, List.getElem_cons_zero, List.getElem_cons_succ, List.setIfInBounds_toArray, List.set_cons_zero, List.set_cons_succ]
                  refine wpAnyT_pure 3 rfl (by kernel_rfl) (by decide) (by kernel_rfl) (by kernel_rfl) (fun _ _ _ h => h) hS (by kernel_rfl) (v := ?_) ?_ ?_
                  rotate_left
                  · intro w'; go_simp; (try with_reducible rfl)
                  simp only [Act.put, List.getElem_toArray, List.getElem_cons_zero, List.getElem_cons_succ, List.setIfInBounds_toArray, List.set_cons_zero, List.set_cons_succ]
                  refine wpAnyT_pure 4 rfl (by kernel_rfl) (by decide) (by kernel_rfl) (by kernel_rfl) (fun _ _ _ h => h) hS (by kernel_rfl) (v := ?_) ?_ ?_
                  rotate_left
                  · intro w'; go_simp; (try with_reducible rfl)
                  simp only [Act.put, List.getElem_toArray, List.getElem_cons_zero, List.getElem_cons_succ, List.setIfInBounds_toArray, List.set_cons_zero, List.set_cons_succ]
                  refine wpAnyT_pure 5 rfl (by kernel_rfl) (by decide) (by kernel_rfl) (by kernel_rfl) (fun _ _ _ h => h) hS (by kernel_rfl) (v := ?_) ?_ ?_
                  rotate_left
                  · intro w'; go_simp; (try with_reducible rfl)
                  simp only [Act.put, List.getElem_toArray, List.getElem_cons_zero, List.getElem_cons_succ, List.setIfInBounds_toArray, List.set_cons_zero, List.set_cons_succ]
                  refine wpAnyT_pure 6 rfl (by kernel_rfl) (by decide) (by kernel_rfl) (by kernel_rfl) (fun _ _ _ h => h) hS (by kernel_rfl) (v := ?_) ?_ ?_
                  rotate_left
                  · intro w'; go_simp; (try with_reducible rfl)
                  simp only [Act.put, List.getElem_toArray, List.getElem_cons_zero, List.getElem_cons_succ, List.setIfInBounds_toArray, List.set_cons_zero, List.set_cons_succ]
                  refine wpAnyT_skip 7 rfl (by kernel_rfl) (by decide) (by kernel_rfl) (by kernel_rfl) (fun _ _ _ h => h) hS (by kernel_rfl) ?_
                  simp only [Act.put, List.getElem_toArray, List.getElem_cons_zero, List.getElem_cons_succ, List.setIfInBounds_toArray, List.set_cons_zero, List.set_cons_succ]
                  refine wpAnyT_skip 8 rfl (by kernel_rfl) (by decide) (by kernel_rfl) (by kernel_rfl) (fun _ _ _ h => h) hS (by kernel_rfl) ?_
                  simp only [Act.put, List.getElem_toArray, List.getElem_cons_zero, List.getElem_cons_succ, List.setIfInBounds_toArray, List.set_cons_zero, List.set_cons_succ]
                  refine wpAnyT_skip 9 rfl (by kernel_rfl) (by decide) (by kernel_rfl) (by kernel_rfl) (fun _ _ _ h => h) hS (by kernel_rfl) ?_
                  simp only [Act.put, List.getElem_toArray, List.getElem_cons_zero, List.getElem_cons_succ, List.setIfInBounds_toArray, List.set_cons_zero, List.set_cons_succ]
                  refine wpAnyT_skip 10 rfl (by kernel_rfl) (by decide) (by kernel_rfl) (by kernel_rfl) (fun _ _ _ h => h) hS (by kernel_rfl) ?_
                  simp only [Act.put, List.getElem_toArray, List.getElem_cons_zero, List.getElem_cons_succ, List.setIfInBounds_toArray, List.set_cons_zero, List.set_cons_succ]
                  refine wpAnyT_skip 11 rfl (by kernel_rfl) (by decide) (by kernel_rfl) (by kernel_rfl) (fun _ _ _ h => h) hS (by kernel_rfl) ?_
                  simp only [Act.put, List.getElem_toArray, List.getElem_cons_zero, List.getElem_cons_succ, List.setIfInBounds_toArray, List.set_cons_zero, List.set_cons_succ]
                  refine wpAnyT_skip 12 rfl (by kernel_rfl) (by decide) (by kernel_rfl) (by kernel_rfl) (fun _ _ _ h => h) hS (by kernel_rfl) ?_
                  simp only [Act.put, List.getElem_toArray, List.getElem_cons_zero, List.getElem_cons_succ, List.setIfInBounds_toArray, List.set_cons_zero, List.set_cons_succ]
                  refine wpAnyT_skip 13 rfl (by kernel_rfl) (by decide) (by kernel_rfl) (by kernel_rfl) (fun _ _ _ h => h) hS (by kernel_rfl) ?_
                  simp only [Act.put, List.getElem_toArray, List.getElem_cons_zero, List.getElem_cons_succ, List.setIfInBounds_toArray, List.set_cons_zero, List.set_cons_succ]
                  refine wpAnyT_pure 14 rfl (by kernel_rfl) (by decide) (by kernel_rfl) (by kernel_rfl) (fun _ _ _ h => h) hS (by kernel_rfl) (v := ?_) ?_ ?_
                  rotate_left
                  · intro w'; go_simp; (try with_reducible rfl)
                  simp only [Act.put, List.getElem_toArray, List.getElem_cons_zero, List.getElem_cons_succ, List.setIfInBounds_toArray, List.set_cons_zero, List.set_cons_succ]
                  refine wpAnyT_pure 15 rfl (by kernel_rfl) (by decide) (by kernel_rfl) (by kernel_rfl) (fun _ _ _ h => h) hS (by kernel_rfl) (v := ?_) ?_ ?_
                  rotate_left
                  · intro w'; go_simp; (try with_reducible rfl)
                  simp only [Act.put, List.getElem_toArray, List.getElem_cons_zero, List.getElem_cons_succ, List.setIfInBounds_toArray, List.set_cons_zero, List.set_cons_succ]
                  refine wpAnyT_one 16 (by kernel_rfl) rfl (by kernel_rfl) (fun K hK => ?_)
                  go_simp
                  with_reducible refine (awake_any _).mono ?_
                  rintro e w11 ⟨rfl, hb⟩
                  have HA11 := Lib.hid ((HA9.out).past hb)
                  have hS : _ ∧ _ ∧ _ ∧ _ ∧ _ ∧ _ ∧ _ ∧ _ ∧ _ ∧ _ := ⟨(HA11.out).thr.cell 0, (HA11.out).thr.cell 1, (HA11.out).thr.cell 2, (HA11.out).thr.cell 3, (HA11.out).thr.cell 4, (HA11.out).fou.cell 0, (HA11.out).fou.cell 1, (HA11.out).fou.cell 2, (HA11.out).fou.cell 3, (HA11.out).fou.cell 4⟩
                  refine hK _ _ (fun _ => hS) ?_
                  clear hK K hb
                  refine wpAnyT_pure 17 rfl (by kernel_rfl) (by decide) (by kernel_rfl) (by kernel_rfl) (fun _ _ _ h => h) hS (by kernel_rfl) (v := ?_) ?_ ?_
                  rotate_left
                  · intro w'; go_simp; (try with_reducible rfl)
                  simp only [Act.put, List.getElem_toArray, List.getElem_cons_zero, List.getElem_cons_succ, List.setIfInBounds_toArray, List.set_cons_zero, List.set_cons_succ]
                  refine wpAnyT_pure 18 rfl (by kernel_rfl) (by decide) (by kernel_rfl) (by kernel_rfl) (fun _ _ _ h => h) hS (by kernel_rfl) (v := ?_) ?_ ?_
                  rotate_left
                  · intro w'; go_simp; (try with_reducible rfl)
                  simp only [Act.put, List.getElem_toArray, List.getElem_cons_zero, List.getElem_cons_succ, List.setIfInBounds_toArray, List.set_cons_zero, List.set_cons_succ]
                  refine wpAnyT_done (by kernel_rfl) ?_
                  clear hS
                  go_wp2
                  go_ret
                  exact ⟨rfl, HA11.out.bl⟩
              · have z3' : (e3 != 0) = true := bne_iff_ne.2 z3
                have z3'' : (e3 == 0) = false := bneI z3
                go_upto_region 9 with (fail)
                have hdr : Below w8.heap.size w8 w8.drew := (Below.refl _ _).drew
                have HA9 := Lib.hid (HA8.out.past hdr)
                have HX3 := Lib.hid (HRD3.out.below hdr)
                have HX4 := Lib.hid (HRD4.out.below hdr)
                refine wp_region_T_drew (fun w' => w'.cell? ⟨w.heap.size + 2, 0, none⟩ = some (.int .i64 f) ∧ w'.cell? ⟨w.heap.size + 2, 1, none⟩ = some (.int .i64 l) ∧ w'.cell? ⟨w.heap.size + 2, 2, none⟩ = some (.int .i64 s) ∧ w'.cell? ⟨w.heap.size + 2, 3, none⟩ = some (.int .i64 a) ∧ w'.cell? ⟨w.heap.size + 2, 4, none⟩ = some (.slice ba d.length cap) ∧ w'.cell? ⟨w.heap.size + 3, 0, none⟩ = some (.int .i64 f') ∧ w'.cell? ⟨w.heap.size + 3, 1, none⟩ = some (.int .i64 l') ∧ w'.cell? ⟨w.heap.size + 3, 2, none⟩ = some (.int .i64 s') ∧ w'.cell? ⟨w.heap.size + 3, 3, none⟩ = some (.int .i64 a') ∧ w'.cell? ⟨w.heap.size + 3, 4, none⟩ = some (.slice ba' d'.length cap')) 19 (by kernel_rfl) ⟨(HA9.out).thr.cell 0, (HA9.out).thr.cell 1, (HA9.out).thr.cell 2, (HA9.out).thr.cell 3, (HA9.out).thr.cell 4, (HA9.out).fou.cell 0, (HA9.out).fou.cell 1, (HA9.out).fou.cell 2, (HA9.out).fou.cell 3, (HA9.out).fou.cell 4⟩ (fun hS => ?_)
                clear hdr HA8 HRD3 HRD4
                refine wpAnyT_pure 0 rfl (by kernel_rfl) (by decide) (by kernel_rfl) (by kernel_rfl) (fun _ _ _ h => h) hS (by kernel_rfl) (v := ?_) ?_ ?_
                rotate_left
                · intro w'; go_simp; (try with_reducible rfl)
                simp only [Act.put, List.getElem_toArray, List.getElem_cons_zero, List.getElem_cons_succ, List.setIfInBounds_toArray, List.set_cons_zero, List.set_cons_succ]
                refine wpAnyT_pure 1 rfl (by kernel_rfl) (by decide) (by kernel_rfl) (by kernel_rfl) (fun _ _ _ h => h) hS (by kernel_rfl) (v := ?_) ?_ ?_
                rotate_left
                · intro w'; go_simp; (try with_reducible rfl)
                simp only [Act.put, List.getElem_toArray, List.getElem_cons_zero, List.getElem_cons_succ, List.setIfInBounds_toArray, List.set_cons_zero, List.set_cons_succ]
                refine wpAnyT_pure 2 rfl (by kernel_rfl) (by decide) (by kernel_rfl) (by kernel_rfl) (fun _ _ _ h => h) hS (by kernel_rfl) (v := ?_) ?_ ?_
                rotate_left
                · intro w'; go_simp; (try with_reducible rfl)
                simp only [Act.put, List.getElem_toArray, List.getElem_cons_zero, List.getElem_cons_succ, List.setIfInBounds_toArray, List.set_cons_zero, List.set_cons_succ]
                refine wpAnyT_skip 3 rfl (by kernel_rfl) (by decide) (by kernel_rfl) (by kernel_rfl) (fun _ _ _ h => h) hS (by kernel_rfl) ?_
                simp only [Act.put, List.getElem_toArray, List.getElem_cons_zero, List.getElem_cons_succ, List.setIfInBounds_toArray, List.set_cons_zero, List.set_cons_succ]
                refine wpAnyT_skip 4 rfl (by kernel_rfl) (by decide) (by kernel_rfl) (by kernel_rfl) (fun _ _ _ h => h) hS (by kernel_rfl) ?_
                simp only [Act.put, List.getElem_toArray, List.getElem_cons_zero, List.getElem_cons_succ, List.setIfInBounds_toArray, List.set_cons_zero, List.set_cons_succ]
                refine wpAnyT_pure 5 rfl (by kernel_rfl) (by decide) (by kernel_rfl) (by kernel_rfl) (fun _ _ _ h => h) hS (by kernel_rfl) (v := ?_) ?_ ?_
                rotate_left
                · intro w'; go_simp; (try with_reducible rfl)
                simp only [Act.put, List.getElem_toArray, List.getElem_cons_zero, List.getElem_cons_succ, List.setIfInBounds_toArray, List.set_cons_zero, List.set_cons_succ]
                refine wpAnyT_pure 6 rfl (by kernel_rfl) (by decide) (by kernel_rfl) (by kernel_rfl) (fun _ _ _ h => h) hS (by kernel_rfl) (v := ?_) ?_ ?_
                rotate_left
                · intro w'; go_simp; (try with_reducible rfl)
                simp only [Act.put, List.getElem_toArray, List.getElem_cons_zero, List.getElem_cons_succ, List.setIfInBounds_toArray, List.set_cons_zero, List.set_cons_succ]
                refine wpAnyT_skip 7 rfl (by kernel_rfl) (by decide) (by kernel_rfl) (by kernel_rfl) (fun _ _ _ h => h) hS (by kernel_rfl) ?_
                simp only [Act.put, List.getElem_toArray, List.getElem_cons_zero, List.getElem_cons_succ, List.setIfInBounds_toArray, List.set_cons_zero, List.set_cons_succ]
                refine wpAnyT_skip 8 rfl (by kernel_rfl) (by decide) (by kernel_rfl) (by kernel_rfl) (fun _ _ _ h => h) hS (by kernel_rfl) ?_
                simp only [Act.put, List.getElem_toArray, List.getElem_cons_zero, List.getElem_cons_succ, List.setIfInBounds_toArray, List.set_cons_zero, List.set_cons_succ]
                refine wpAnyT_skip 9 rfl (by kernel_rfl) (by decide) (by kernel_rfl) (by kernel_rfl) (fun _ _ _ h => h) hS (by kernel_rfl) ?_
                simp only [Act.put, List.getElem_toArray, List.getElem_cons_zero, List.getElem_cons_succ, List.setIfInBounds_toArray, List.set_cons_zero, List.set_cons_succ]
                refine wpAnyT_skip 10 rfl (by kernel_rfl) (by decide) (by kernel_rfl) (by kernel_rfl) (fun _ _ _ h => h) hS (by kernel_rfl) ?_
                simp only [Act.put, List.getElem_toArray, List.getElem_cons_zero, List.getElem_cons_succ, List.setIfInBounds_toArray, List.set_cons_zero, List.set_cons_succ]
                refine wpAnyT_skip 11 rfl (by kernel_rfl) (by decide) (by kernel_rfl) (by kernel_rfl) (fun _ _ _ h => h) hS (by kernel_rfl) ?_
                simp only [Act.put, List.getElem_toArray, List.getElem_cons_zero, List.getElem_cons_succ, List.setIfInBounds_toArray, List.set_cons_zero, List.set_cons_succ]
                refine wpAnyT_skip 12 rfl (by kernel_rfl) (by decide) (by kernel_rfl) (by kernel_rfl) (fun _ _ _ h => h) hS (by kernel_rfl) ?_
                simp only [Act.put, List.getElem_toArray, List.getElem_cons_zero, List.getElem_cons_succ, List.setIfInBounds_toArray, List.set_cons_zero, List.set_cons_succ]
                refine wpAnyT_skip 13 rfl (by kernel_rfl) (by decide) (by kernel_rfl) (by kernel_rfl) (fun _ _ _ h => h) hS (by kernel_rfl) ?_
                simp only [Act.put, List.getElem_toArray, List.getElem_cons_zero, List.getElem_cons_succ, List.setIfInBounds_toArray, List.set_cons_zero, List.set_cons_succ]
                refine wpAnyT_pure 14 rfl (by kernel_rfl) (by decide) (by kernel_rfl) (by kernel_rfl) (fun _ _ _ h => h) hS (by kernel_rfl) (v := ?_) ?_ ?_
                rotate_left
                · intro w'; go_simp; (try with_reducible rfl)
                simp only [Act.put, List.getElem_toArray, List.getElem_cons_zero, List.getElem_cons_succ, List.setIfInBounds_toArray, List.set_cons_zero, List.set_cons_succ]
                refine wpAnyT_pure 15 rfl (by kernel_rfl) (by decide) (by kernel_rfl) (by kernel_rfl) (fun _ _ _ h => h) hS (by kernel_rfl) (v := ?_) ?_ ?_
                rotate_left
                · intro w'; go_simp; (try with_reducible rfl)
                simp only [Act.put, List.getElem_toArray, List.getElem_cons_zero, List.getElem_cons_succ, List.setIfInBounds_toArray, List.set_cons_zero, List.set_cons_succ]
                refine wpAnyT_one 16 (by kernel_rfl) rfl (by kernel_rfl) (fun K hK => ?_)
                go_simp
                with_reducible refine (awake_any _).mono ?_
                rintro e w11 ⟨rfl, hb⟩
                have HA11 := Lib.hid ((HA9.out).past hb)
                have hS : _ ∧ _ ∧ _ ∧ _ ∧ _ ∧ _ ∧ _ ∧ _ ∧ _ ∧ _ := ⟨(HA11.out).thr.cell 0, (HA11.out).thr.cell 1, (HA11.out).thr.cell 2, (HA11.out).thr.cell 3, (HA11.out).thr.cell 4, (HA11.out).fou.cell 0, (HA11.out).fou.cell 1, (HA11.out).fou.cell 2, (HA11.out).fou.cell 3, (HA11.out).fou.cell 4⟩
                refine hK _ _ (fun _ => hS) ?_
                clear hK K hb
                refine wpAnyT_pure 17 rfl (by kernel_rfl) (by decide) (by kernel_rfl) (by kernel_rfl) (fun _ _ _ h => h) hS (by kernel_rfl) (v := ?_) ?_ ?_
                rotate_left
                · intro w'; go_simp; (try with_reducible rfl)
                simp only [Act.put, List.getElem_toArray, List.getElem_cons_zero, List.getElem_cons_succ, List.setIfInBounds_toArray, List.set_cons_zero, List.set_cons_succ]
                refine wpAnyT_pure 18 rfl (by kernel_rfl) (by decide) (by kernel_rfl) (by kernel_rfl) (fun _ _ _ h => h) hS (by kernel_rfl) (v := ?_) ?_ ?_
                rotate_left
                · intro w'; go_simp; (try with_reducible rfl)
                simp only [Act.put, List.getElem_toArray, List.getElem_cons_zero, List.getElem_cons_succ, List.setIfInBounds_toArray, List.set_cons_zero, List.set_cons_succ]
                refine wpAnyT_done (by kernel_rfl) ?_
                clear hS
                go_wp2
                go_ret
                exact ⟨rfl, HA11.out.bl⟩
            · subst z1
              have z2' : ((e2 : Int) == 0) = false := bneI (by omega)
              go_upto_region 5 with (fail)
              have hdr : Below w4.heap.size w4 w4.drew := (Below.refl _ _).drew
              have HA5 := Lib.hid (HA4.out.past hdr)
              have HX1 := Lib.hid (HRD1.out.below hdr)
              have HX2 := Lib.hid (HRD2.out.below hdr)
              refine wp_region_T_drew (fun w' => w'.cell? ⟨w.heap.size, 0, none⟩ = some (.int .u8 m.kind) ∧ w'.cell? ⟨w.heap.size, 1, none⟩ = some (.slice bn m.nums.length cn) ∧ w'.cell? ⟨w.heap.size, 2, none⟩ = some (.slice bv m.vals.length cv) ∧ w'.cell? ⟨w.heap.size, 3, none⟩ = some (.slice bb m.blobs.length cb) ∧ w'.cell? ⟨w.heap.size + 1, 0, none⟩ = some (.int .u8 m'.kind) ∧ w'.cell? ⟨w.heap.size + 1, 1, none⟩ = some (.slice bn' m'.nums.length cn') ∧ w'.cell? ⟨w.heap.size + 1, 2, none⟩ = some (.slice bv' m'.vals.length cv') ∧ w'.cell? ⟨w.heap.size + 1, 3, none⟩ = some (.slice bb' m'.blobs.length cb')) 15 (by kernel_rfl) ⟨(HA5.out).one.cell 0, (HA5.out).one.cell 1, (HA5.out).one.cell 2, (HA5.out).one.cell 3, (HA5.out).two.cell 0, (HA5.out).two.cell 1, (HA5.out).two.cell 2, (HA5.out).two.cell 3⟩ (fun hS => ?_)
              clear hdr HA4 HRD1 HRD2
              refine wpAnyT_pure 0 rfl (by kernel_rfl) (by decide) (by kernel_rfl) (by kernel_rfl) (fun _ _ _ h => h) hS (by kernel_rfl) (v := ?_) ?_ ?_
              rotate_left
              · intro w'; go_simp; (try with_reducible rfl)
              simp only [Act.put, List.getElem_toArray, List.getElem_cons_zero, List.getElem_cons_succ, List.setIfInBounds_toArray, List.set_cons_zero, List.set_cons_succ]
              refine wpAnyT_pure 1 rfl (by kernel_rfl) (by decide) (by kernel_rfl) (by kernel_rfl) (fun _ _ _ h => h) hS (by kernel_rfl) (v := ?_) ?_ ?_
              rotate_left
              · intro w'; go_simp; (try with_reducible rfl)
              simp only [Act.put, List.getElem_toArray, List.getElem_cons_zero, List.getElem_cons_succ, List.setIfInBounds_toArray, List.set_cons_zero, List.set_cons_succ]
              refine wpAnyT_pure 2 rfl (by kernel_rfl) (by decide) (by kernel_rfl) (by kernel_rfl) (fun _ _ _ h => h) hS (by kernel_rfl) (v := ?_) ?_ ?_
              rotate_left
              · intro w'; go_simp; (try with_reducible rfl)
              simp only [Act.put, List.getElem_toArray, List.getElem_cons_zero, List.getElem_cons_succ, List.setIfInBounds_toArray, List.set_cons_zero, List.set_cons_succ]
              refine wpAnyT_pure 3 rfl (by kernel_rfl) (by decide) (by kernel_rfl) (by kernel_rfl) (fun _ _ _ h => h) hS (by kernel_rfl) (v := ?_) ?_ ?_
              rotate_left
              · intro w'; go_simp; (try with_reducible rfl)
              simp only [Act.put, List.getElem_toArray, List.getElem_cons_zero, List.getElem_cons_succ, List.setIfInBounds_toArray, List.set_cons_zero, List.set_cons_succ]
              refine wpAnyT_pure 4 rfl (by kernel_rfl) (by decide) (by kernel_rfl) (by kernel_rfl) (fun _ _ _ h => h) hS (by kernel_rfl) (v := ?_) ?_ ?_
              rotate_left
              · intro w'; go_simp; (try with_reducible rfl)
              simp only [Act.put, List.getElem_toArray, List.getElem_cons_zero, List.getElem_cons_succ, List.setIfInBounds_toArray, List.set_cons_zero, List.set_cons_succ]
              refine wpAnyT_pure 5 rfl (by kernel_rfl) (by decide) (by kernel_rfl) (by kernel_rfl) (fun _ _ _ h => h) hS (by kernel_rfl) (v := ?_) ?_ ?_
              rotate_left
              · intro w'; go_simp; (try with_reducible rfl)
              simp only [Act.put, List.getElem_toArray, List.getElem_cons_zero, List.getElem_cons_succ, List.setIfInBounds_toArray, List.set_cons_zero, List.set_cons_succ]
              refine wpAnyT_pure 6 rfl (by kernel_rfl) (by decide) (by kernel_rfl) (by kernel_rfl) (fun _ _ _ h => h) hS (by kernel_rfl) (v := ?_) ?_ ?_
              rotate_left
              · intro w'; go_simp; (try with_reducible rfl)
              simp only [Act.put, List.getElem_toArray, List.getElem_cons_zero, List.getElem_cons_succ, List.setIfInBounds_toArray, List.set_cons_zero, List.set_cons_succ]
              refine wpAnyT_skip 7 rfl (by kernel_rfl) (by decide) (by kernel_rfl) (by kernel_rfl) (fun _ _ _ h => h) hS (by kernel_rfl) ?_
              simp only [Act.put, List.getElem_toArray, List.getElem_cons_zero, List.getElem_cons_succ, List.setIfInBounds_toArray, List.set_cons_zero, List.set_cons_succ]
              refine wpAnyT_skip 8 rfl (by kernel_rfl) (by decide) (by kernel_rfl) (by kernel_rfl) (fun _ _ _ h => h) hS (by kernel_rfl) ?_
              simp only [Act.put, List.getElem_toArray, List.getElem_cons_zero, List.getElem_cons_succ, List.setIfInBounds_toArray, List.set_cons_zero, List.set_cons_succ]
              refine wpAnyT_skip 9 rfl (by kernel_rfl) (by decide) (by kernel_rfl) (by kernel_rfl) (fun _ _ _ h => h) hS (by kernel_rfl) ?_
              simp only [Act.put, List.getElem_toArray, List.getElem_cons_zero, List.getElem_cons_succ, List.setIfInBounds_toArray, List.set_cons_zero, List.set_cons_succ]
              refine wpAnyT_skip 10 rfl (by kernel_rfl) (by decide) (by kernel_rfl) (by kernel_rfl) (fun _ _ _ h => h) hS (by kernel_rfl) ?_
              simp only [Act.put, List.getElem_toArray, List.getElem_cons_zero, List.getElem_cons_succ, List.setIfInBounds_toArray, List.set_cons_zero, List.set_cons_succ]
              refine wpAnyT_skip 11 rfl (by kernel_rfl) (by decide) (by kernel_rfl) (by kernel_rfl) (fun _ _ _ h => h) hS (by kernel_rfl) ?_
              simp only [Act.put, List.getElem_toArray, List.getElem_cons_zero, List.getElem_cons_succ, List.setIfInBounds_toArray, List.set_cons_zero, List.set_cons_succ]
              refine wpAnyT_skip 12 rfl (by kernel_rfl) (by decide) (by kernel_rfl) (by kernel_rfl) (fun _ _ _ h => h) hS (by kernel_rfl) ?_
              simp only [Act.put, List.getElem_toArray, List.getElem_cons_zero, List.getElem_cons_succ, List.setIfInBounds_toArray, List.set_cons_zero, List.set_cons_succ]
              refine wpAnyT_skip 13 rfl (by kernel_rfl) (by decide) (by kernel_rfl) (by kernel_rfl) (fun _ _ _ h => h) hS (by kernel_rfl) ?_
              simp only [Act.put, List.getElem_toArray, List.getElem_cons_zero, List.getElem_cons_succ, List.setIfInBounds_toArray, List.set_cons_zero, List.set_cons_succ]
              refine wpAnyT_pure 14 rfl (by kernel_rfl) (by decide) (by kernel_rfl) (by kernel_rfl) (fun _ _ _ h => h) hS (by kernel_rfl) (v := ?_) ?_ ?_
              rotate_left
              · intro w'; go_simp; (try with_reducible rfl)
              simp only [Act.put, List.getElem_toArray, List.getElem_cons_zero, List.getElem_cons_succ, List.setIfInBounds_toArray, List.set_cons_zero, List.set_cons_succ]
              refine wpAnyT_done (by kernel_rfl) ?_
              clear hS HX1 HX2 CE z2'
              have HA6 := HA5
              have o0 := (HA6.out).one.cell 0
              have o1 := (HA6.out).one.cell 1
              have o2 := (HA6.out).one.cell 2
              have o3 := (HA6.out).one.cell 3
              have olt := (HA6.out).one.lt
              have t0 := (HA6.out).two.cell 0
              have t1 := (HA6.out).two.cell 1
              have t2 := (HA6.out).two.cell 2
              have t3 := (HA6.out).two.cell 3
              have tlt := (HA6.out).two.lt
              have p0 := (HA6.out).thr.cell 0
              have p1 := (HA6.out).thr.cell 1
              have p2 := (HA6.out).thr.cell 2
              have p3 := (HA6.out).thr.cell 3
              have p4 := (HA6.out).thr.cell 4
              have plt := (HA6.out).thr.lt
              have q0 := (HA6.out).fou.cell 0
              have q1 := (HA6.out).fou.cell 1
              have q2 := (HA6.out).fou.cell 2
              have q3 := (HA6.out).fou.cell 3
              have q4 := (HA6.out).fou.cell 4
              have qlt := (HA6.out).fou.lt
              go_wp2_with fail
              with_reducible refine (CP1.out _ HA6.out.bl).mono ?_
              rintro e w7 ⟨g3, c3, rfl, hr3, hn3, hc3, -, hb⟩
              have HA7 := Lib.hid (HA6.out.past hb)
              have HR3 := Lib.hid hr3
              have HN3 := Lib.hid hn3
              clear o0 o1 o2 o3 olt t0 t1 t2 t3 tlt p0 p1 p2 p3 p4 plt q0 q1 q2 q3 q4 qlt
              clear hb hr3 hn3 hc3 HA6
              have o0 := (HA7.out).one.cell 0
              have o1 := (HA7.out).one.cell 1
              have o2 := (HA7.out).one.cell 2
              have o3 := (HA7.out).one.cell 3
              have olt := (HA7.out).one.lt
              have t0 := (HA7.out).two.cell 0
              have t1 := (HA7.out).two.cell 1
              have t2 := (HA7.out).two.cell 2
              have t3 := (HA7.out).two.cell 3
              have tlt := (HA7.out).two.lt
              have p0 := (HA7.out).thr.cell 0
              have p1 := (HA7.out).thr.cell 1
              have p2 := (HA7.out).thr.cell 2
              have p3 := (HA7.out).thr.cell 3
              have p4 := (HA7.out).thr.cell 4
              have plt := (HA7.out).thr.lt
              have q0 := (HA7.out).fou.cell 0
              have q1 := (HA7.out).fou.cell 1
              have q2 := (HA7.out).fou.cell 2
              have q3 := (HA7.out).fou.cell 3
              have q4 := (HA7.out).fou.cell 4
              have qlt := (HA7.out).fou.lt
              go_wp2_with fail
              with_reducible refine (CP2.out _ HA7.out.bl).mono ?_
              rintro e w8 ⟨g4, c4, rfl, hr4, hn4, hc4, -, hb⟩
              have HA8 := Lib.hid (HA7.out.past hb)
              have HRD3 := Lib.hid (HR3.out.below hb)
              have HRD4 := Lib.hid hr4
              have HN4 := Lib.hid hn4
              clear o0 o1 o2 o3 olt t0 t1 t2 t3 tlt p0 p1 p2 p3 p4 plt q0 q1 q2 q3 q4 qlt
              clear hb hr4 hn4 hc4 HA7 HR3 CP1 CP2
              by_cases z3 : e3 = 0
              · by_cases z4 : e4 = 0
                · subst z3 z4
                  have hpp := HP3.out rfl
                  have hpp' := HP4.out rfl
                  have HEQ := Lib.hid (show (L3 == L4) = (eq4 f l s a f' l' s' a' && (d == d')) by rw [hpp.2, hpp'.2]; exact HPP.out hpp.1 hpp'.1)
                  obtain ⟨bq, hbq⟩ : ∃ b, (eq4 f l s a f' l' s' a' && (d == d')) = b := ⟨_, rfl⟩
                  have hCQ := fun W hb => CQ.out W hb
                  rw [hbq] at HEQ
                  simp only [hbq] at hCQ
                  have CQ2 := Lib.hid hCQ
                  clear hCQ hbq hpp hpp' CQ
                  go_upto_region 9 with (fail)
                  have hdr : Below w8.heap.size w8 w8.drew := (Below.refl _ _).drew
                  have HA9 := Lib.hid (HA8.out.past hdr)
                  have HX3 := Lib.hid (HRD3.out.below hdr)
                  have HX4 := Lib.hid (HRD4.out.below hdr)
                  refine wp_region_T_drew (fun w' => w'.cell? ⟨w.heap.size + 2, 0, none⟩ = some (.int .i64 f) ∧ w'.cell? ⟨w.heap.size + 2, 1, none⟩ = some (.int .i64 l) ∧ w'.cell? ⟨w.heap.size + 2, 2, none⟩ = some (.int .i64 s) ∧ w'.cell? ⟨w.heap.size + 2, 3, none⟩ = some (.int .i64 a) ∧ w'.cell? ⟨w.heap.size + 2, 4, none⟩ = some (.slice ba d.length cap) ∧ w'.cell? ⟨w.heap.size + 3, 0, none⟩ = some (.int .i64 f') ∧ w'.cell? ⟨w.heap.size + 3, 1, none⟩ = some (.int .i64 l') ∧ w'.cell? ⟨w.heap.size + 3, 2, none⟩ = some (.int .i64 s') ∧ w'.cell? ⟨w.heap.size + 3, 3, none⟩ = some (.int .i64 a') ∧ w'.cell? ⟨w.heap.size + 3, 4, none⟩ = some (.slice ba' d'.length cap')) 19 (by kernel_rfl) ⟨(HA9.out).thr.cell 0, (HA9.out).thr.cell 1, (HA9.out).thr.cell 2, (HA9.out).thr.cell 3, (HA9.out).thr.cell 4, (HA9.out).fou.cell 0, (HA9.out).fou.cell 1, (HA9.out).fou.cell 2, (HA9.out).fou.cell 3, (HA9.out).fou.cell 4⟩ (fun hS => ?_)
                  clear hdr HA8 HRD3 HRD4
                  refine wpAnyT_pure 0 rfl (by kernel_rfl) (by decide) (by kernel_rfl) (by kernel_rfl) (fun _ _ _ h => h) hS (by kernel_rfl) (v := ?_) ?_ ?_
                  rotate_left
                  · intro w'; go_simp; (try with_reducible rfl)
                  simp only [Act.put, List.setIfInBounds_toArray, List.set_cons_zero, List.set_cons_succ]
                  refine wpAnyT_pure 1 rfl (by kernel_rfl) (by decide) (by kernel_rfl) (by kernel_rfl) (fun _ _ _ h => h) hS (by kernel_rfl) (v := ?_) ?_ ?_
                  rotate_left
                  · intro w'; go_simp; (try with_reducible rfl)
                  simp only [Act.put, List.setIfInBounds_toArray, List.set_cons_zero, List.set_cons_succ]
                  refine wpAnyT_pure 2 rfl (by kernel_rfl) (by decide) (by kernel_rfl) (by kernel_rfl) (fun _ _ _ h => h) hS (by kernel_rfl) (v := ?_) ?_ ?_
                  rotate_left
                  · intro w'; go_simp; (try with_reducible rfl)
                  simp only [Act.put, List.setIfInBounds_toArray, List.set_cons_zero, List.set_cons_succ]
                  refine wpAnyT_pure 3 rfl (by kernel_rfl) (by decide) (by kernel_rfl) (by kernel_rfl) (fun _ _ _ h => h) hS (by kernel_rfl) (v := ?_) ?_ ?_
                  rotate_left
                  · intro w'; go_simp; (try with_reducible rfl)
                  simp only [Act.put, List.setIfInBounds_toArray, List.set_cons_zero, List.set_cons_succ]
                  refine wpAnyT_pure 4 rfl (by kernel_rfl) (by decide) (by kernel_rfl) (by kernel_rfl) (fun _ _ _ h => h) hS (by kernel_rfl) (v := ?_) ?_ ?_
                  rotate_left
                  · intro w'; go_simp; (try with_reducible rfl)
                  simp only [Act.put, List.setIfInBounds_toArray, List.set_cons_zero, List.set_cons_succ]
                  refine wpAnyT_pure 5 rfl (by kernel_rfl) (by decide) (by kernel_rfl) (by kernel_rfl) (fun _ _ _ h => h) hS (by kernel_rfl) (v := ?_) ?_ ?_
                  rotate_left
                  · intro w'; go_simp; (try with_reducible rfl)
                  simp only [Act.put, List.setIfInBounds_toArray, List.set_cons_zero, List.set_cons_succ]
                  refine wpAnyT_pure 6 rfl (by kernel_rfl) (by decide) (by kernel_rfl) (by kernel_rfl) (fun _ _ _ h => h) hS (by kernel_rfl) (v := ?_) ?_ ?_
                  rotate_left
                  · intro w'; go_simp; (try with_reducible rfl)
                  simp only [Act.put, List.setIfInBounds_toArray, List.set_cons_zero, List.set_cons_succ]
                  refine wpAnyT_pure 7 rfl (by kernel_rfl) (by decide) (by kernel_rfl) (by kernel_rfl) (fun _ _ _ h => h) hS (by kernel_rfl) (v := ?_) ?_ ?_
                  rotate_left
                  · intro w'; go_simp; (try with_reducible rfl)
                  simp only [Act.put, List.setIfInBounds_toArray, List.set_cons_zero, List.set_cons_succ]
                  refine wpAnyT_pure 8 rfl (by kernel_rfl) (by decide) (by kernel_rfl) (by kernel_rfl) (fun _ _ _ h => h) hS (by kernel_rfl) (v := ?_) ?_ ?_
                  rotate_left
                  · intro w'; go_simp; (try with_reducible rfl)
                  simp only [Act.put, List.setIfInBounds_toArray, List.set_cons_zero, List.set_cons_succ]
                  refine wpAnyT_take 10 rfl (by kernel_rfl) (by kernel_rfl) (by decide) (by kernel_rfl) (by kernel_rfl) (fun _ _ _ h => h) hS (by kernel_rfl) (v := ?_) ?_ ?_
                  rotate_left
                  · intro w' hSw; (try dsimp only at hSw); go_simp; (try with_reducible rfl)
                  simp only [Act.put, List.setIfInBounds_toArray, List.set_cons_zero, List.set_cons_succ]
                  refine wpAnyT_take 11 rfl (by kernel_rfl) (by kernel_rfl) (by decide) (by kernel_rfl) (by kernel_rfl) (fun _ _ _ h => h) hS (by kernel_rfl) (v := ?_) ?_ ?_
                  rotate_left
                  · intro w' hSw; (try dsimp only at hSw); go_simp; (try with_reducible rfl)
                  simp only [Act.put, List.setIfInBounds_toArray, List.set_cons_zero, List.set_cons_succ]
                  refine wpAnyT_one 9 (by kernel_rfl) rfl (by kernel_rfl) (fun K hK => ?_)
                  go_simp
                  with_reducible refine (sameBytes_any g3 g4 L3.length L4.length c3 c4 L3 L4 _ rfl HX3.out HN3.out rfl HX4.out HN4.out).mono ?_
                  rintro e w9 ⟨rfl, rfl⟩
                  rw [HEQ.out]
                  refine hK _ _ (fun _ => hS) ?_
                  clear hK K
                  refine wpAnyT_one 12 (by kernel_rfl) rfl (by kernel_rfl) (fun K hK => ?_)
                  go_simp
                  with_reducible refine (CQ2.out _ HA9.out.bl).mono ?_
                  rintro e w10 ⟨rfl, hb⟩
                  have HA10 := Lib.hid (HA9.out.past hb)
                  have hS : _ ∧ _ ∧ _ ∧ _ ∧ _ ∧ _ ∧ _ ∧ _ ∧ _ ∧ _ := ⟨(HA10.out).thr.cell 0, (HA10.out).thr.cell 1, (HA10.out).thr.cell 2, (HA10.out).thr.cell 3, (HA10.out).thr.cell 4, (HA10.out).fou.cell 0, (HA10.out).fou.cell 1, (HA10.out).fou.cell 2, (HA10.out).fou.cell 3, (HA10.out).fou.cell 4⟩
                  refine hK _ _ (fun _ => hS) ?_
                  clear hK K hb HA9 HX3 HX4
                  refine wpAnyT_pure 13 rfl (by kernel_rfl) (by decide) (by kernel_rfl) (by kernel_rfl) (fun _ _ _ h => h) hS (by kernel_rfl) (v := ?_) ?_ ?_
                  rotate_left
                  · intro w'; go_simp; (try with_reducible rfl)
                  simp only [Act.put, List.setIfInBounds_toArray, List.set_cons_zero, List.set_cons_succ]
                  refine wpAnyT_pure 14 rfl (by kernel_rfl) (by decide) (by kernel_rfl) (by kernel_rfl) (fun _ _ _ h => h) hS (by kernel_rfl) (v := ?_) ?_ ?_
                  rotate_left
                  · intro w'; go_simp; (try with_reducible rfl)
                  simp only [Act.put, List.setIfInBounds_toArray, List.set_cons_zero, List.set_cons_succ]
                  refine wpAnyT_pure 15 rfl (by kernel_rfl) (by decide) (by kernel_rfl) (by kernel_rfl) (fun _ _ _ h => h) hS (by kernel_rfl) (v := ?_) ?_ ?_
                  rotate_left
                  · intro w'; go_simp; (try with_reducible rfl)
                  simp only [Act.put, List.setIfInBounds_toArray, List.set_cons_zero, List.set_cons_succ]
                  refine wpAnyT_one 16 (by kernel_rfl) rfl (by kernel_rfl) (fun K hK => ?_)
                  go_simp
                  with_reducible refine (awake_any _).mono ?_
                  rintro e w11 ⟨rfl, hb⟩
                  have HA11 := Lib.hid ((HA10.out).past hb)
                  have hS : _ ∧ _ ∧ _ ∧ _ ∧ _ ∧ _ ∧ _ ∧ _ ∧ _ ∧ _ := ⟨(HA11.out).thr.cell 0, (HA11.out).thr.cell 1, (HA11.out).thr.cell 2, (HA11.out).thr.cell 3, (HA11.out).thr.cell 4, (HA11.out).fou.cell 0, (HA11.out).fou.cell 1, (HA11.out).fou.cell 2, (HA11.out).fou.cell 3, (HA11.out).fou.cell 4⟩
                  refine hK _ _ (fun _ => hS) ?_
                  clear hK K hb
                  refine wpAnyT_pure 17 rfl (by kernel_rfl) (by decide) (by kernel_rfl) (by kernel_rfl) (fun _ _ _ h => h) hS (by kernel_rfl) (v := ?_) ?_ ?_
                  rotate_left
                  · intro w'; go_simp; (try with_reducible rfl)
                  simp only [Act.put, List.getElem_toArray, List.getElem_cons_zero, List.getElem_cons_succ, List.setIfInBounds_toArray, List.set_cons_zero, List.set_cons_succ]
                  refine wpAnyT_pure 18 rfl (by kernel_rfl) (by decide) (by kernel_rfl) (by kernel_rfl) (fun _ _ _ h => h) hS (by kernel_rfl) (v := ?_) ?_ ?_
                  rotate_left
                  · intro w'; go_simp; (try with_reducible rfl)
                  simp only [Act.put, List.getElem_toArray, List.getElem_cons_zero, List.getElem_cons_succ, List.setIfInBounds_toArray, List.set_cons_zero, List.set_cons_succ]
                  refine wpAnyT_done (by kernel_rfl) ?_
                  clear hS
                  go_wp2
                  go_ret
                  exact ⟨rfl, HA11.out.bl⟩
                · subst z3
                  have z4' : (e4 != 0) = true := bne_iff_ne.2 z4
                  have z4'' : (e4 == 0) = false := bneI z4
                  go_upto_region 9 with (fail)
                  have hdr : Below w8.heap.size w8 w8.drew := (Below.refl _ _).drew
                  have HA9 := Lib.hid (HA8.out.past hdr)
                  have HX3 := Lib.hid (HRD3.out.below hdr)
                  have HX4 := Lib.hid (HRD4.out.below hdr)
                  refine wp_region_T_drew (fun w' => w'.cell? ⟨w.heap.size + 2, 0, none⟩ = some (.int .i64 f) ∧ w'.cell? ⟨w.heap.size + 2, 1, none⟩ = some (.int .i64 l) ∧ w'.cell? ⟨w.heap.size + 2, 2, none⟩ = some (.int .i64 s) ∧ w'.cell? ⟨w.heap.size + 2, 3, none⟩ = some (.int .i64 a) ∧ w'.cell? ⟨w.heap.size + 2, 4, none⟩ = some (.slice ba d.length cap) ∧ w'.cell? ⟨w.heap.size + 3, 0, none⟩ = some (.int .i64 f') ∧ w'.cell? ⟨w.heap.size + 3, 1, none⟩ = some (.int .i64 l') ∧ w'.cell? ⟨w.heap.size + 3, 2, none⟩ = some (.int .i64 s') ∧ w'.cell? ⟨w.heap.size + 3, 3, none⟩ = some (.int .i64 a') ∧ w'.cell? ⟨w.heap.size + 3, 4, none⟩ = some (.slice ba' d'.length cap')) 19 (by kernel_rfl) ⟨(HA9.out).thr.cell 0, (HA9.out).thr.cell 1, (HA9.out).thr.cell 2, (HA9.out).thr.cell 3, (HA9.out).thr.cell 4, (HA9.out).fou.cell 0, (HA9.out).fou.cell 1, (HA9.out).fou.cell 2, (HA9.out).fou.cell 3, (HA9.out).fou.cell 4⟩ (fun hS => ?_)
                  clear hdr HA8 HRD3 HRD4
                  refine wpAnyT_pure 0 rfl (by kernel_rfl) (by decide) (by kernel_rfl) (by kernel_rfl) (fun _ _ _ h => h) hS (by kernel_rfl) (v := ?_) ?_ ?_
                  rotate_left
                  · intro w'; go_simp; (try with_reducible rfl)
                  simp only [Act.put, List.getElem_toArray, List.getElem_cons_zero, List.getElem_cons_succ, List.setIfInBounds_toArray, List.set_cons_zero, List.set_cons_succ]
                  refine wpAnyT_pure 1 rfl (by kernel_rfl) (by decide) (by kernel_rfl) (by kernel_rfl) (fun _ _ _ h => h) hS (by kernel_rfl) (v := ?_) ?_ ?_
                  rotate_left
                  · intro w'; go_simp; (try with_reducible rfl)
                  simp only [Act.put, List.getElem_toArray, List.getElem_cons_zero, List.getElem_cons_succ, List.setIfInBounds_toArray, List.set_cons_zero, List.set_cons_succ]
                  refine wpAnyT_pure 2 rfl (by kernel_rfl) (by decide) (by kernel_rfl) (by kernel_rfl) (fun _ _ _ h => h) hS (by kernel_rfl) (v := ?_) ?_ ?_
                  rotate_left
                  · intro w'; go_simp; (try with_reducible rfl)
                  simp only [Act.put, List.getElem_toArray, List.getElem_cons_zero, List.getElem_cons_succ, List.setIfInBounds_toArray, List.set_cons_zero, List.set_cons_succ]
                  refine wpAnyT_pure 3 rfl (by kernel_rfl) (by decide) (by kernel_rfl) (by kernel_rfl) (fun _ _ _ h => h) hS (by kernel_rfl) (v := ?_) ?_ ?_
                  rotate_left
                  · intro w'; go_simp; (try with_reducible rfl)
                  simp only [Act.put, List.getElem_toArray, List.getElem_cons_zero, List.getElem_cons_succ, List.setIfInBounds_toArray, List.set_cons_zero, List.set_cons_succ]
                  refine wpAnyT_pure 4 rfl (by kernel_rfl) (by decide) (by kernel_rfl) (by kernel_rfl) (fun _ _ _ h => h) hS (by kernel_rfl) (v := ?_) ?_ ?_
                  rotate_left
                  · intro w'; go_simp; (try with_reducible rfl)
                  simp only [Act.put, List.getElem_toArray, List.getElem_cons_zero, List.getElem_cons_succ, List.setIfInBounds_toArray, List.set_cons_zero, List.set_cons_succ]
                  refine wpAnyT_pure 5 rfl (by kernel_rfl) (by decide) (by kernel_rfl) (by kernel_rfl) (fun _ _ _ h => h) hS (by kernel_rfl) (v := ?_) ?_ ?_
                  rotate_left
                  · intro w'; go_simp; (try with_reducible rfl)
                  simp only [Act.put, List.getElem_toArray, List.getElem_cons_zero, List.getElem_cons_succ, List.setIfInBounds_toArray, List.set_cons_zero, List.set_cons_succ]
                  refine wpAnyT_pure 6 rfl (by kernel_rfl) (by decide) (by kernel_rfl) (by kernel_rfl) (fun _ _ _ h => h) hS (by kernel_rfl) (v := ?_) ?_ ?_
                  rotate_left
                  · intro w'; go_simp; (try with_reducible rfl)
                  simp only [Act.put, List.getElem_toArray, List.getElem_cons_zero, List.getElem_cons_succ, List.setIfInBounds_toArray, List.set_cons_zero, List.set_cons_succ]
                  refine wpAnyT_skip 7 rfl (by kernel_rfl) (by decide) (by kernel_rfl) (by kernel_rfl) (fun _ _ _ h => h) hS (by kernel_rfl) ?_
                  simp only [Act.put, List.getElem_toArray, List.getElem_cons_zero, List.getElem_cons_succ, List.setIfInBounds_toArray, List.set_cons_zero, List.set_cons_succ]
                  refine wpAnyT_skip 8 rfl (by kernel_rfl) (by decide) (by kernel_rfl) (by kernel_rfl) (fun _ _ _ h => h) hS (by kernel_rfl) ?_
                  simp only [Act.put, List.getElem_toArray, List.getElem_cons_zero, List.getElem_cons_succ, List.setIfInBounds_toArray, List.set_cons_zero, List.set_cons_succ]
                  refine wpAnyT_skip 9 rfl (by kernel_rfl) (by decide) (by kernel_rfl) (by kernel_rfl) (fun _ _ _ h => h) hS (by kernel_rfl) ?_
                  simp only [Act.put, List.getElem_toArray, List.getElem_cons_zero, List.getElem_cons_succ, List.setIfInBounds_toArray, List.set_cons_zero, List.set_cons_succ]
                  refine wpAnyT_skip 10 rfl (by kernel_rfl) (by decide) (by kernel_rfl) (by kernel_rfl) (fun _ _ _ h => h) hS (by kernel_rfl) ?_
                  simp only [Act.put, List.getElem_toArray, List.getElem_cons_zero, List.getElem_cons_succ, List.setIfInBounds_toArray, List.set_cons_zero, List.set_cons_succ]
                  refine wpAnyT_skip 11 rfl (by kernel_rfl) (by decide) (by kernel_rfl) (by kernel_rfl) (fun _ _ _ h => h) hS (by kernel_rfl) ?_
                  simp only [Act.put, List.getElem_toArray, List.getElem_cons_zero, List.getElem_cons_succ, List.setIfInBounds_toArray, List.set_cons_zero, List.set_cons_succ]
                  refine wpAnyT_skip 12 rfl (by kernel_rfl) (by decide) (by kernel_rfl) (by kernel_rfl) (fun _ _ _ h => h) hS (by kernel_rfl) ?_
                  simp only [Act.put, List.getElem_toArray, List.getElem_cons_zero, List.getElem_cons_succ, List.setIfInBounds_toArray, List.set_cons_zero, List.set_cons_succ]
                  refine wpAnyT_skip 13 rfl (by kernel_rfl) (by decide) (by kernel_rfl) (by kernel_rfl) (fun _ _ _ h => h) hS (by kernel_rfl) ?_
                  simp only [Act.put, List.getElem_toArray, List.getElem_cons_zero, List.getElem_cons_succ, List.setIfInBounds_toArray, List.set_cons_zero, List.set_cons_succ]
                  refine wpAnyT_pure 14 rfl (by kernel_rfl) (by decide) (by kernel_rfl) (by kernel_rfl) (fun _ _ _ h => h) hS (by kernel_rfl) (v := ?_) ?_ ?_
                  rotate_left
                  · intro w'; go_simp; (try with_reducible rfl)
                  simp only [Act.put, List.getElem_toArray, List.getElem_cons_zero, List.getElem_cons_succ, List.setIfInBounds_toArray, List.set_cons_zero, List.set_cons_succ]
                  refine wpAnyT_pure 15 rfl (by kernel_rfl) (by decide) (by kernel_rfl) (by kernel_rfl) (fun _ _ _ h => h) hS (by kernel_rfl) (v := ?_) ?_ ?_
                  rotate_left
                  · intro w'; go_simp; (try with_reducible rfl)
                  simp only [Act.put, List.getElem_toArray, List.getElem_cons_zero, List.getElem_cons_succ, List.setIfInBounds_toArray, List.set_cons_zero, List.set_cons_succ]
                  refine wpAnyT_one 16 (by kernel_rfl) rfl (by kernel_rfl) (fun K hK => ?_)
                  go_simp
                  with_reducible refine (awake_any _).mono ?_
                  rintro e w11 ⟨rfl, hb⟩
                  have HA11 := Lib.hid ((HA9.out).past hb)
                  have hS : _ ∧ _ ∧ _ ∧ _ ∧ _ ∧ _ ∧ _ ∧ _ ∧ _ ∧ _ := ⟨(HA11.out).thr.cell 0, (HA11.out).thr.cell 1, (HA11.out).thr.cell 2, (HA11.out).thr.cell 3, (HA11.out).thr.cell 4, (HA11.out).fou.cell 0, (HA11.out).fou.cell 1, (HA11.out).fou.cell 2, (HA11.out).fou.cell 3, (HA11.out).fou.cell 4⟩
                  refine hK _ _ (fun _ => hS) ?_
                  clear hK K hb
                  refine wpAnyT_pure 17 rfl (by kernel_rfl) (by decide) (by kernel_rfl) (by kernel_rfl) (fun _ _ _ h => h) hS (by kernel_rfl) (v := ?_) ?_ ?_
                  rotate_left
                  · intro w'; go_simp; (try with_reducible rfl)
                  simp only [Act.put, List.getElem_toArray, List.getElem_cons_zero, List.getElem_cons_succ, List.setIfInBounds_toArray, List.set_cons_zero, List.set_cons_succ]
                  refine wpAnyT_pure 18 rfl (by kernel_rfl) (by decide) (by kernel_rfl) (by kernel_rfl) (fun _ _ _ h => h) hS (by kernel_rfl) (v := ?_) ?_ ?_
                  rotate_left
                  · intro w'; go_simp; (try with_reducible rfl)
                  simp only [Act.put, List.getElem_toArray, List.getElem_cons_zero, List.getElem_cons_succ, List.setIfInBounds_toArray, List.set_cons_zero, List.set_cons_succ]
                  refine wpAnyT_done (by kernel_rfl) ?_
                  clear hS
                  go_wp2
                  go_ret
                  exact ⟨rfl, HA11.out.bl⟩
              · have z3' : (e3 != 0) = true := bne_iff_ne.2 z3
                have z3'' : (e3 == 0) = false := bneI z3
                go_upto_region 9 with (fail)
                have hdr : Below w8.heap.size w8 w8.drew := (Below.refl _ _).drew
                have HA9 := Lib.hid (HA8.out.past hdr)
                have HX3 := Lib.hid (HRD3.out.below hdr)
                have HX4 := Lib.hid (HRD4.out.below hdr)
                refine wp_region_T_drew (fun w' => w'.cell? ⟨w.heap.size + 2, 0, none⟩ = some (.int .i64 f) ∧ w'.cell? ⟨w.heap.size + 2, 1, none⟩ = some (.int .i64 l) ∧ w'.cell? ⟨w.heap.size + 2, 2, none⟩ = some (.int .i64 s) ∧ w'.cell? ⟨w.heap.size + 2, 3, none⟩ = some (.int .i64 a) ∧ w'.cell? ⟨w.heap.size + 2, 4, none⟩ = some (.slice ba d.length cap) ∧ w'.cell? ⟨w.heap.size + 3, 0, none⟩ = some (.int .i64 f') ∧ w'.cell? ⟨w.heap.size + 3, 1, none⟩ = some (.int .i64 l') ∧ w'.cell? ⟨w.heap.size + 3, 2, none⟩ = some (.int .i64 s') ∧ w'.cell? ⟨w.heap.size + 3, 3, none⟩ = some (.int .i64 a') ∧ w'.cell? ⟨w.heap.size + 3, 4, none⟩ = some (.slice ba' d'.length cap')) 19 (by kernel_rfl) ⟨(HA9.out).thr.cell 0, (HA9.out).thr.cell 1, (HA9.out).thr.cell 2, (HA9.out).thr.cell 3, (HA9.out).thr.cell 4, (HA9.out).fou.cell 0, (HA9.out).fou.cell 1, (HA9.out).fou.cell 2, (HA9.out).fou.cell 3, (HA9.out).fou.cell 4⟩ (fun hS => ?_)
                clear hdr HA8 HRD3 HRD4
                refine wpAnyT_pure 0 rfl (by kernel_rfl) (by decide) (by kernel_rfl) (by kernel_rfl) (fun _ _ _ h => h) hS (by kernel_rfl) (v := ?_) ?_ ?_
                rotate_left
                · intro w'; go_simp; (try with_reducible rfl)
                simp only [Act.put, List.getElem_toArray, List.getElem_cons_zero, List.getElem_cons_succ, List.setIfInBounds_toArray, List.set_cons_zero, List.set_cons_succ]
                refine wpAnyT_pure 1 rfl (by kernel_rfl) (by decide) (by kernel_rfl) (by kernel_rfl) (fun _ _ _ h => h) hS (by kernel_rfl) (v := ?_) ?_ ?_
                rotate_left
                · intro w'; go_simp; (try with_reducible rfl)
                simp only [Act.put, List.getElem_toArray, List.getElem_cons_zero, List.getElem_cons_succ, List.setIfInBounds_toArray, List.set_cons_zero, List.set_cons_succ]
                refine wpAnyT_pure 2 rfl (by kernel_rfl) (by decide) (by kernel_rfl) (by kernel_rfl) (fun _ _ _ h => h) hS (by kernel_rfl) (v := ?_) ?_ ?_
                rotate_left
                · intro w'; go_simp; (try with_reducible rfl)
                simp only [Act.put, List.getElem_toArray, List.getElem_cons_zero, List.getElem_cons_succ, List.setIfInBounds_toArray, List.set_cons_zero, List.set_cons_succ]
                refine wpAnyT_skip 3 rfl (by kernel_rfl) (by decide) (by kernel_rfl) (by kernel_rfl) (fun _ _ _ h => h) hS (by kernel_rfl) ?_
                simp only [Act.put, List.getElem_toArray, List.getElem_cons_zero, List.getElem_cons_succ, List.setIfInBounds_toArray, List.set_cons_zero, List.set_cons_succ]
                refine wpAnyT_skip 4 rfl (by kernel_rfl) (by decide) (by kernel_rfl) (by kernel_rfl) (fun _ _ _ h => h) hS (by kernel_rfl) ?_
                simp only [Act.put, List.getElem_toArray, List.getElem_cons_zero, List.getElem_cons_succ, List.setIfInBounds_toArray, List.set_cons_zero, List.set_cons_succ]
                refine wpAnyT_pure 5 rfl (by kernel_rfl) (by decide) (by kernel_rfl) (by kernel_rfl) (fun _ _ _ h => h) hS (by kernel_rfl) (v := ?_) ?_ ?_
                rotate_left
                · intro w'; go_simp; (try with_reducible rfl)
                simp only [Act.put, List.getElem_toArray, List.getElem_cons_zero, List.getElem_cons_succ, List.setIfInBounds_toArray, List.set_cons_zero, List.set_cons_succ]
                refine wpAnyT_pure 6 rfl (by kernel_rfl) (by decide) (by kernel_rfl) (by kernel_rfl) (fun _ _ _ h => h) hS (by kernel_rfl) (v := ?_) ?_ ?_
                rotate_left
                · intro w'; go_simp; (try with_reducible rfl)
                simp only [Act.put, List.getElem_toArray, List.getElem_cons_zero, List.getElem_cons_succ, List.setIfInBounds_toArray, List.set_cons_zero, List.set_cons_succ]
                refine wpAnyT_skip 7 rfl (by kernel_rfl) (by decide) (by kernel_rfl) (by kernel_rfl) (fun _ _ _ h => h) hS (by kernel_rfl) ?_
                simp only [Act.put, List.getElem_toArray, List.getElem_cons_zero, List.getElem_cons_succ, List.setIfInBounds_toArray, List.set_cons_zero, List.set_cons_succ]
                refine wpAnyT_skip 8 rfl (by kernel_rfl) (by decide) (by kernel_rfl) (by kernel_rfl) (fun _ _ _ h => h) hS (by kernel_rfl) ?_
                simp only [Act.put, List.getElem_toArray, List.getElem_cons_zero, List.getElem_cons_succ, List.setIfInBounds_toArray, List.set_cons_zero, List.set_cons_succ]
                refine wpAnyT_skip 9 rfl (by kernel_rfl) (by decide) (by kernel_rfl) (by kernel_rfl) (fun _ _ _ h => h) hS (by kernel_rfl) ?_
                simp only [Act.put, List.getElem_toArray, List.getElem_cons_zero, List.getElem_cons_succ, List.setIfInBounds_toArray, List.set_cons_zero, List.set_cons_succ]
                refine wpAnyT_skip 10 rfl (by kernel_rfl) (by decide) (by kernel_rfl) (by kernel_rfl) (fun _ _ _ h => h) hS (by kernel_rfl) ?_
                simp only [Act.put, List.getElem_toArray, List.getElem_cons_zero, List.getElem_cons_succ, List.setIfInBounds_toArray, List.set_cons_zero, List.set_cons_succ]
                refine wpAnyT_skip 11 rfl (by kernel_rfl) (by decide) (by kernel_rfl) (by kernel_rfl) (fun _ _ _ h => h) hS (by kernel_rfl) ?_
                simp only [Act.put, List.getElem_toArray, List.getElem_cons_zero, List.getElem_cons_succ, List.setIfInBounds_toArray, List.set_cons_zero, List.set_cons_succ]
                refine wpAnyT_skip 12 rfl (by kernel_rfl) (by decide) (by kernel_rfl) (by kernel_rfl) (fun _ _ _ h => h) hS (by kernel_rfl) ?_
                simp only [Act.put, List.getElem_toArray, List.getElem_cons_zero, List.getElem_cons_succ, List.setIfInBounds_toArray, List.set_cons_zero, List.set_cons_succ]
                refine wpAnyT_skip 13 rfl (by kernel_rfl) (by decide) (by kernel_rfl) (by kernel_rfl) (fun _ _ _ h => h) hS (by kernel_rfl) ?_
                simp only [Act.put, List.getElem_toArray, List.getElem_cons_zero, List.getElem_cons_succ, List.setIfInBounds_toArray, List.set_cons_zero, List.set_cons_succ]
                refine wpAnyT_pure 14 rfl (by kernel_rfl) (by decide) (by kernel_rfl) (by kernel_rfl) (fun _ _ _ h => h) hS (by kernel_rfl) (v := ?_) ?_ ?_
                rotate_left
                · intro w'; go_simp; (try with_reducible rfl)
                simp only [Act.put, List.getElem_toArray, List.getElem_cons_zero, List.getElem_cons_succ, List.setIfInBounds_toArray, List.set_cons_zero, List.set_cons_succ]
                refine wpAnyT_pure 15 rfl (by kernel_rfl) (by decide) (by kernel_rfl) (by kernel_rfl) (fun _ _ _ h => h) hS (by kernel_rfl) (v := ?_) ?_ ?_
                rotate_left
                · intro w'; go_simp; (try with_reducible rfl)
                simp only [Act.put, List.getElem_toArray, List.getElem_cons_zero, List.getElem_cons_succ, List.setIfInBounds_toArray, List.set_cons_zero, List.set_cons_succ]
                refine wpAnyT_one 16 (by kernel_rfl) rfl (by kernel_rfl) (fun K hK => ?_)
                go_simp
                with_reducible refine (awake_any _).mono ?_
                rintro e w11 ⟨rfl, hb⟩
                have HA11 := Lib.hid ((HA9.out).past hb)
                have hS : _ ∧ _ ∧ _ ∧ _ ∧ _ ∧ _ ∧ _ ∧ _ ∧ _ ∧ _ := ⟨(HA11.out).thr.cell 0, (HA11.out).thr.cell 1, (HA11.out).thr.cell 2, (HA11.out).thr.cell 3, (HA11.out).thr.cell 4, (HA11.out).fou.cell 0, (HA11.out).fou.cell 1, (HA11.out).fou.cell 2, (HA11.out).fou.cell 3, (HA11.out).fou.cell 4⟩
                refine hK _ _ (fun _ => hS) ?_
                clear hK K hb
                refine wpAnyT_pure 17 rfl (by kernel_rfl) (by decide) (by kernel_rfl) (by kernel_rfl) (fun _ _ _ h => h) hS (by kernel_rfl) (v := ?_) ?_ ?_
                rotate_left
                · intro w'; go_simp; (try with_reducible rfl)
                simp only [Act.put, List.getElem_toArray, List.getElem_cons_zero, List.getElem_cons_succ, List.setIfInBounds_toArray, List.set_cons_zero, List.set_cons_succ]
                refine wpAnyT_pure 18 rfl (by kernel_rfl) (by decide) (by kernel_rfl) (by kernel_rfl) (fun _ _ _ h => h) hS (by kernel_rfl) (v := ?_) ?_ ?_
                rotate_left
                · intro w'; go_simp; (try with_reducible rfl)
                simp only [Act.put, List.getElem_toArray, List.getElem_cons_zero, List.getElem_cons_succ, List.setIfInBounds_toArray, List.set_cons_zero, List.set_cons_succ]
                refine wpAnyT_done (by kernel_rfl) ?_
                clear hS
                go_wp2
                go_ret
                exact ⟨rfl, HA11.out.bl⟩
          · have z1' : ((e1 : Int) == 0) = false := bneI (by omega)
            go_upto_region 5 with (fail)
            have hdr : Below w4.heap.size w4 w4.drew := (Below.refl _ _).drew
            have HA5 := Lib.hid (HA4.out.past hdr)
            have HX1 := Lib.hid (HRD1.out.below hdr)
            have HX2 := Lib.hid (HRD2.out.below hdr)
            refine wp_region_T_drew (fun w' => w'.cell? ⟨w.heap.size, 0, none⟩ = some (.int .u8 m.kind) ∧ w'.cell? ⟨w.heap.size, 1, none⟩ = some (.slice bn m.nums.length cn) ∧ w'.cell? ⟨w.heap.size, 2, none⟩ = some (.slice bv m.vals.length cv) ∧ w'.cell? ⟨w.heap.size, 3, none⟩ = some (.slice bb m.blobs.length cb) ∧ w'.cell? ⟨w.heap.size + 1, 0, none⟩ = some (.int .u8 m'.kind) ∧ w'.cell? ⟨w.heap.size + 1, 1, none⟩ = some (.slice bn' m'.nums.length cn') ∧ w'.cell? ⟨w.heap.size + 1, 2, none⟩ = some (.slice bv' m'.vals.length cv') ∧ w'.cell? ⟨w.heap.size + 1, 3, none⟩ = some (.slice bb' m'.blobs.length cb')) 15 (by kernel_rfl) ⟨(HA5.out).one.cell 0, (HA5.out).one.cell 1, (HA5.out).one.cell 2, (HA5.out).one.cell 3, (HA5.out).two.cell 0, (HA5.out).two.cell 1, (HA5.out).two.cell 2, (HA5.out).two.cell 3⟩ (fun hS => ?_)
            clear hdr HA4 HRD1 HRD2
            refine wpAnyT_pure 0 rfl (by kernel_rfl) (by decide) (by kernel_rfl) (by kernel_rfl) (fun _ _ _ h => h) hS (by kernel_rfl) (v := ?_) ?_ ?_
            rotate_left
            · intro w'; go_simp; (try with_reducible rfl)
            simp only [Act.put, List.getElem_toArray, List.getElem_cons_zero, List.getElem_cons_succ, List.setIfInBounds_toArray, List.set_cons_zero, List.set_cons_succ]
            refine wpAnyT_pure 1 rfl (by kernel_rfl) (by decide) (by kernel_rfl) (by kernel_rfl) (fun _ _ _ h => h) hS (by kernel_rfl) (v := ?_) ?_ ?_
            rotate_left
            · intro w'; go_simp; (try with_reducible rfl)
            simp only [Act.put, List.getElem_toArray, List.getElem_cons_zero, List.getElem_cons_succ, List.setIfInBounds_toArray, List.set_cons_zero, List.set_cons_succ]
            refine wpAnyT_pure 2 rfl (by kernel_rfl) (by decide) (by kernel_rfl) (by kernel_rfl) (fun _ _ _ h => h) hS (by kernel_rfl) (v := ?_) ?_ ?_
            rotate_left
            · intro w'; go_simp; (try with_reducible rfl)
            simp only [Act.put, List.getElem_toArray, List.getElem_cons_zero, List.getElem_cons_succ, List.setIfInBounds_toArray, List.set_cons_zero, List.set_cons_succ]
            refine wpAnyT_skip 3 rfl (by kernel_rfl) (by decide) (by kernel_rfl) (by kernel_rfl) (fun _ _ _ h => h) hS (by kernel_rfl) ?_
            simp only [Act.put, List.getElem_toArray, List.getElem_cons_zero, List.getElem_cons_succ, List.setIfInBounds_toArray, List.set_cons_zero, List.set_cons_succ]
            refine wpAnyT_skip 4 rfl (by kernel_rfl) (by decide) (by kernel_rfl) (by kernel_rfl) (fun _ _ _ h => h) hS (by kernel_rfl) ?_
            simp only [Act.put, List.getElem_toArray, List.getElem_cons_zero, List.getElem_cons_succ, List.setIfInBounds_toArray, List.set_cons_zero, List.set_cons_succ]
            refine wpAnyT_pure 5 rfl (by kernel_rfl) (by decide) (by kernel_rfl) (by kernel_rfl) (fun _ _ _ h => h) hS (by kernel_rfl) (v := ?_) ?_ ?_
            rotate_left
            · intro w'; go_simp; (try with_reducible rfl)
            simp only [Act.put, List.getElem_toArray, List.getElem_cons_zero, List.getElem_cons_succ, List.setIfInBounds_toArray, List.set_cons_zero, List.set_cons_succ]
            refine wpAnyT_pure 6 rfl (by kernel_rfl) (by decide) (by kernel_rfl) (by kernel_rfl) (fun _ _ _ h => h) hS (by kernel_rfl) (v := ?_) ?_ ?_
            rotate_left
            · intro w'; go_simp; (try with_reducible rfl)
            simp only [Act.put, List.getElem_toArray, List.getElem_cons_zero, List.getElem_cons_succ, List.setIfInBounds_toArray, List.set_cons_zero, List.set_cons_succ]
            refine wpAnyT_skip 7 rfl (by kernel_rfl) (by decide) (by kernel_rfl) (by kernel_rfl) (fun _ _ _ h => h) hS (by kernel_rfl) ?_
            simp only [Act.put, List.getElem_toArray, List.getElem_cons_zero, List.getElem_cons_succ, List.setIfInBounds_toArray, List.set_cons_zero, List.set_cons_succ]
            refine wpAnyT_skip 8 rfl (by kernel_rfl) (by decide) (by kernel_rfl) (by kernel_rfl) (fun _ _ _ h => h) hS (by kernel_rfl) ?_
            simp only [Act.put, List.getElem_toArray, List.getElem_cons_zero, List.getElem_cons_succ, List.setIfInBounds_toArray, List.set_cons_zero, List.set_cons_succ]
            refine wpAnyT_skip 9 rfl (by kernel_rfl) (by decide) (by kernel_rfl) (by kernel_rfl) (fun _ _ _ h => h) hS (by kernel_rfl) ?_
            simp only [Act.put, List.getElem_toArray, List.getElem_cons_zero, List.getElem_cons_succ, List.setIfInBounds_toArray, List.set_cons_zero, List.set_cons_succ]
            refine wpAnyT_skip 10 rfl (by kernel_rfl) (by decide) (by kernel_rfl) (by kernel_rfl) (fun _ _ _ h => h) hS (by kernel_rfl) ?_
            simp only [Act.put, List.getElem_toArray, List.getElem_cons_zero, List.getElem_cons_succ, List.setIfInBounds_toArray, List.set_cons_zero, List.set_cons_succ]
            refine wpAnyT_skip 11 rfl (by kernel_rfl) (by decide) (by kernel_rfl) (by kernel_rfl) (fun _ _ _ h => h) hS (by kernel_rfl) ?_
            simp only [Act.put, List.getElem_toArray, List.getElem_cons_zero, List.getElem_cons_succ, List.setIfInBounds_toArray, List.set_cons_zero, List.set_cons_succ]
            refine wpAnyT_skip 12 rfl (by kernel_rfl) (by decide) (by kernel_rfl) (by kernel_rfl) (fun _ _ _ h => h) hS (by kernel_rfl) ?_
            simp only [Act.put, List.getElem_toArray, List.getElem_cons_zero, List.getElem_cons_succ, List.setIfInBounds_toArray, List.set_cons_zero, List.set_cons_succ]
            refine wpAnyT_skip 13 rfl (by kernel_rfl) (by decide) (by kernel_rfl) (by kernel_rfl) (fun _ _ _ h => h) hS (by kernel_rfl) ?_
            simp only [Act.put, List.getElem_toArray, List.getElem_cons_zero, List.getElem_cons_succ, List.setIfInBounds_toArray, List.set_cons_zero, List.set_cons_succ]
            refine wpAnyT_pure 14 rfl (by kernel_rfl) (by decide) (by kernel_rfl) (by kernel_rfl) (fun _ _ _ h => h) hS (by kernel_rfl) (v := ?_) ?_ ?_
            rotate_left
            · intro w'; go_simp; (try with_reducible rfl)
            simp only [Act.put, List.getElem_toArray, List.getElem_cons_zero, List.getElem_cons_succ, List.setIfInBounds_toArray, List.set_cons_zero, List.set_cons_succ]
            refine wpAnyT_done (by kernel_rfl) ?_
            clear hS HX1 HX2 CE z1'
            have HA6 := HA5
            have o0 := (HA6.out).one.cell 0
            have o1 := (HA6.out).one.cell 1
            have o2 := (HA6.out).one.cell 2
            have o3 := (HA6.out).one.cell 3
            have olt := (HA6.out).one.lt
            have t0 := (HA6.out).two.cell 0
            have t1 := (HA6.out).two.cell 1
            have t2 := (HA6.out).two.cell 2
            have t3 := (HA6.out).two.cell 3
            have tlt := (HA6.out).two.lt
            have p0 := (HA6.out).thr.cell 0
            have p1 := (HA6.out).thr.cell 1
            have p2 := (HA6.out).thr.cell 2
            have p3 := (HA6.out).thr.cell 3
            have p4 := (HA6.out).thr.cell 4
            have plt := (HA6.out).thr.lt
            have q0 := (HA6.out).fou.cell 0
            have q1 := (HA6.out).fou.cell 1
            have q2 := (HA6.out).fou.cell 2
            have q3 := (HA6.out).fou.cell 3
            have q4 := (HA6.out).fou.cell 4
            have qlt := (HA6.out).fou.lt
            go_wp2_with fail
            with_reducible refine (CP1.out _ HA6.out.bl).mono ?_
            rintro e w7 ⟨g3, c3, rfl, hr3, hn3, hc3, -, hb⟩
            have HA7 := Lib.hid (HA6.out.past hb)
            have HR3 := Lib.hid hr3
            have HN3 := Lib.hid hn3
            clear o0 o1 o2 o3 olt t0 t1 t2 t3 tlt p0 p1 p2 p3 p4 plt q0 q1 q2 q3 q4 qlt
            clear hb hr3 hn3 hc3 HA6
            have o0 := (HA7.out).one.cell 0
            have o1 := (HA7.out).one.cell 1
            have o2 := (HA7.out).one.cell 2
            have o3 := (HA7.out).one.cell 3
            have olt := (HA7.out).one.lt
            have t0 := (HA7.out).two.cell 0
            have t1 := (HA7.out).two.cell 1
            have t2 := (HA7.out).two.cell 2
            have t3 := (HA7.out).two.cell 3
            have tlt := (HA7.out).two.lt
            have p0 := (HA7.out).thr.cell 0
            have p1 := (HA7.out).thr.cell 1
            have p2 := (HA7.out).thr.cell 2
            have p3 := (HA7.out).thr.cell 3
            have p4 := (HA7.out).thr.cell 4
            have plt := (HA7.out).thr.lt
            have q0 := (HA7.out).fou.cell 0
            have q1 := (HA7.out).fou.cell 1
            have q2 := (HA7.out).fou.cell 2
            have q3 := (HA7.out).fou.cell 3
            have q4 := (HA7.out).fou.cell 4
            have qlt := (HA7.out).fou.lt
            go_wp2_with fail
            with_reducible refine (CP2.out _ HA7.out.bl).mono ?_
            rintro e w8 ⟨g4, c4, rfl, hr4, hn4, hc4, -, hb⟩
            have HA8 := Lib.hid (HA7.out.past hb)
            have HRD3 := Lib.hid (HR3.out.below hb)
            have HRD4 := Lib.hid hr4
            have HN4 := Lib.hid hn4
            clear o0 o1 o2 o3 olt t0 t1 t2 t3 tlt p0 p1 p2 p3 p4 plt q0 q1 q2 q3 q4 qlt
            clear hb hr4 hn4 hc4 HA7 HR3 CP1 CP2
            by_cases z3 : e3 = 0
            · by_cases z4 : e4 = 0
              · subst z3 z4
                have hpp := HP3.out rfl
                have hpp' := HP4.out rfl
                have HEQ := Lib.hid (show (L3 == L4) = (eq4 f l s a f' l' s' a' && (d == d')) by rw [hpp.2, hpp'.2]; exact HPP.out hpp.1 hpp'.1)
                obtain ⟨bq, hbq⟩ : ∃ b, (eq4 f l s a f' l' s' a' && (d == d')) = b := ⟨_, rfl⟩
                have hCQ := fun W hb => CQ.out W hb
                rw [hbq] at HEQ
                simp only [hbq] at hCQ
                have CQ2 := Lib.hid hCQ
                clear hCQ hbq hpp hpp' CQ
                go_upto_region 9 with (fail)
                have hdr : Below w8.heap.size w8 w8.drew := (Below.refl _ _).drew
                have HA9 := Lib.hid (HA8.out.past hdr)
                have HX3 := Lib.hid (HRD3.out.below hdr)
                have HX4 := Lib.hid (HRD4.out.below hdr)
                refine wp_region_T_drew (fun w' => w'.cell? ⟨w.heap.size + 2, 0, none⟩ = some (.int .i64 f) ∧ w'.cell? ⟨w.heap.size + 2, 1, none⟩ = some (.int .i64 l) ∧ w'.cell? ⟨w.heap.size + 2, 2, none⟩ = some (.int .i64 s) ∧ w'.cell? ⟨w.heap.size + 2, 3, none⟩ = some (.int .i64 a) ∧ w'.cell? ⟨w.heap.size + 2, 4, none⟩ = some (.slice ba d.length cap) ∧ w'.cell? ⟨w.heap.size + 3, 0, none⟩ = some (.int .i64 f') ∧ w'.cell? ⟨w.heap.size + 3, 1, none⟩ = some (.int .i64 l') ∧ w'.cell? ⟨w.heap.size + 3, 2, none⟩ = some (.int .i64 s') ∧ w'.cell? ⟨w.heap.size + 3, 3, none⟩ = some (.int .i64 a') ∧ w'.cell? ⟨w.heap.size + 3, 4, none⟩ = some (.slice ba' d'.length cap')) 19 (by kernel_rfl) ⟨(HA9.out).thr.cell 0, (HA9.out).thr.cell 1, (HA9.out).thr.cell 2, (HA9.out).thr.cell 3, (HA9.out).thr.cell 4, (HA9.out).fou.cell 0, (HA9.out).fou.cell 1, (HA9.out).fou.cell 2, (HA9.out).fou.cell 3, (HA9.out).fou.cell 4⟩ (fun hS => ?_)
                clear hdr HA8 HRD3 HRD4
                refine wpAnyT_pure 0 rfl (by kernel_rfl) (by decide) (by kernel_rfl) (by kernel_rfl) (fun _ _ _ h => h) hS (by kernel_rfl) (v := ?_) ?_ ?_
                rotate_left
                · intro w'; go_simp; (try with_reducible rfl)
                simp only [Act.put, List.setIfInBounds_toArray, List.set_cons_zero, List.set_cons_succ]
                refine wpAnyT_pure 1 rfl (by kernel_rfl) (by decide) (by kernel_rfl) (by kernel_rfl) (fun _ _ _ h => h) hS (by kernel_rfl) (v := ?_) ?_ ?_
                rotate_left
                · intro w'; go_simp; (try with_reducible rfl)
                simp only [Act.put, List.setIfInBounds_toArray, List.set_cons_zero, List.set_cons_succ]
                refine wpAnyT_pure 2 rfl (by kernel_rfl) (by decide) (by kernel_rfl) (by kernel_rfl) (fun _ _ _ h => h) hS (by kernel_rfl) (v := ?_) ?_ ?_
                rotate_left
                · intro w'; go_simp; (try with_reducible rfl)
                simp only [Act.put, List.setIfInBounds_toArray, List.set_cons_zero, List.set_cons_succ]
                refine wpAnyT_pure 3 rfl (by kernel_rfl) (by decide) (by kernel_rfl) (by kernel_rfl) (fun _ _ _ h => h) hS (by kernel_rfl) (v := ?_) ?_ ?_
                rotate_left
                · intro w'; go_simp; (try with_reducible rfl)
                simp only [Act.put, List.setIfInBounds_toArray, List.set_cons_zero, List.set_cons_succ]
                refine wpAnyT_pure 4 rfl (by kernel_rfl) (by decide) (by kernel_rfl) (by kernel_rfl) (fun _ _ _ h => h) hS (by kernel_rfl) (v := ?_) ?_ ?_
                rotate_left
                · intro w'; go_simp; (try with_reducible rfl)
                simp only [Act.put, List.setIfInBounds_toArray, List.set_cons_zero, List.set_cons_succ]
                refine wpAnyT_pure 5 rfl (by kernel_rfl) (by decide) (by kernel_rfl) (by kernel_rfl) (fun _ _ _ h => h) hS (by kernel_rfl) (v := ?_) ?_ ?_
                rotate_left
                · intro w'; go_simp; (try with_reducible rfl)
                simp only [Act.put, List.setIfInBounds_toArray, List.set_cons_zero, List.set_cons_succ]
                refine wpAnyT_pure 6 rfl (by kernel_rfl) (by decide) (by kernel_rfl) (by kernel_rfl) (fun _ _ _ h => h) hS (by kernel_rfl) (v := ?_) ?_ ?_
                rotate_left
                · intro w'; go_simp; (try with_reducible rfl)
                simp only [Act.put, List.setIfInBounds_toArray, List.set_cons_zero, List.set_cons_succ]
                refine wpAnyT_pure 7 rfl (by kernel_rfl) (by decide) (by kernel_rfl) (by kernel_rfl) (fun _ _ _ h => h) hS (by kernel_rfl) (v := ?_) ?_ ?_
                rotate_left
                · intro w'; go_simp; (try with_reducible rfl)
                simp only [Act.put, List.setIfInBounds_toArray, List.set_cons_zero, List.set_cons_succ]
                refine wpAnyT_pure 8 rfl (by kernel_rfl) (by decide) (by kernel_rfl) (by kernel_rfl) (fun _ _ _ h => h) hS (by kernel_rfl) (v := ?_) ?_ ?_
                rotate_left
                · intro w'; go_simp; (try with_reducible rfl)
                simp only [Act.put, List.setIfInBounds_toArray, List.set_cons_zero, List.set_cons_succ]
                refine wpAnyT_take 10 rfl (by kernel_rfl) (by kernel_rfl) (by decide) (by kernel_rfl) (by kernel_rfl) (fun _ _ _ h => h) hS (by kernel_rfl) (v := ?_) ?_ ?_
                rotate_left
                · intro w' hSw; (try dsimp only at hSw); go_simp; (try with_reducible rfl)
                simp only [Act.put, List.setIfInBounds_toArray, List.set_cons_zero, List.set_cons_succ]
                refine wpAnyT_take 11 rfl (by kernel_rfl) (by kernel_rfl) (by decide) (by kernel_rfl) (by kernel_rfl) (fun _ _ _ h => h) hS (by kernel_rfl) (v := ?_) ?_ ?_
                rotate_left
                · intro w' hSw; (try dsimp only at hSw); go_simp; (try with_reducible rfl)
                simp only [Act.put, List.setIfInBounds_toArray, List.set_cons_zero, List.set_cons_succ]
                refine wpAnyT_one 9 (by kernel_rfl) rfl (by kernel_rfl) (fun K hK => ?_)
                go_simp
                with_reducible refine (sameBytes_any g3 g4 L3.length L4.length c3 c4 L3 L4 _ rfl HX3.out HN3.out rfl HX4.out HN4.out).mono ?_
                rintro e w9 ⟨rfl, rfl⟩
                rw [HEQ.out]
                refine hK _ _ (fun _ => hS) ?_
                clear hK K
                refine wpAnyT_one 12 (by kernel_rfl) rfl (by kernel_rfl) (fun K hK => ?_)
                go_simp
                with_reducible refine (CQ2.out _ HA9.out.bl).mono ?_
                rintro e w10 ⟨rfl, hb⟩
                have HA10 := Lib.hid (HA9.out.past hb)
                have hS : _ ∧ _ ∧ _ ∧ _ ∧ _ ∧ _ ∧ _ ∧ _ ∧ _ ∧ _ := ⟨(HA10.out).thr.cell 0, (HA10.out).thr.cell 1, (HA10.out).thr.cell 2, (HA10.out).thr.cell 3, (HA10.out).thr.cell 4, (HA10.out).fou.cell 0, (HA10.out).fou.cell 1, (HA10.out).fou.cell 2, (HA10.out).fou.cell 3, (HA10.out).fou.cell 4⟩
                refine hK _ _ (fun _ => hS) ?_
                clear hK K hb HA9 HX3 HX4
                refine wpAnyT_pure 13 rfl (by kernel_rfl) (by decide) (by kernel_rfl) (by kernel_rfl) (fun _ _ _ h => h) hS (by kernel_rfl) (v := ?_) ?_ ?_
                rotate_left
                · intro w'; go_simp; (try with_reducible rfl)
                simp only [Act.put, List.setIfInBounds_toArray, List.set_cons_zero, List.set_cons_succ]
                refine wpAnyT_pure 14 rfl (by kernel_rfl) (by decide) (by kernel_rfl) (by kernel_rfl) (fun _ _ _ h => h) hS (by kernel_rfl) (v := ?_) ?_ ?_
                rotate_left
                · intro w'; go_simp; (try with_reducible rfl)
                simp only [Act.put, List.setIfInBounds_toArray, List.set_cons_zero, List.set_cons_succ]
                refine wpAnyT_pure 15 rfl (by kernel_rfl) (by decide) (by kernel_rfl) (by kernel_rfl) (fun _ _ _ h => h) hS (by kernel_rfl) (v := ?_) ?_ ?_
                rotate_left
                · intro w'; go_simp; (try with_reducible rfl)
                simp only [Act.put, List.setIfInBounds_toArray, List.set_cons_zero, List.set_cons_succ]
                refine wpAnyT_one 16 (by kernel_rfl) rfl (by kernel_rfl) (fun K hK => ?_)
                go_simp
                with_reducible refine (awake_any _).mono ?_
                rintro e w11 ⟨rfl, hb⟩
                have HA11 := Lib.hid ((HA10.out).past hb)
                have hS : _ ∧ _ ∧ _ ∧ _ ∧ _ ∧ _ ∧ _ ∧ _ ∧ _ ∧ _ := ⟨(HA11.out).thr.cell 0, (HA11.out).thr.cell 1, (HA11.out).thr.cell 2, (HA11.out).thr.cell 3, (HA11.out).thr.cell 4, (HA11.out).fou.cell 0, (HA11.out).fou.cell 1, (HA11.out).fou.cell 2, (HA11.out).fou.cell 3, (HA11.out).fou.cell 4⟩
                refine hK _ _ (fun _ => hS) ?_
                clear hK K hb
                refine wpAnyT_pure 17 rfl (by kernel_rfl) (by decide) (by kernel_rfl) (by kernel_rfl) (fun _ _ _ h => h) hS (by kernel_rfl) (v := ?_) ?_ ?_
                rotate_left
                · intro w'; go_simp; (try with_reducible rfl)
                simp only [Act.put, List.getElem_toArray, List.getElem_cons_zero, List.getElem_cons_succ, List.setIfInBounds_toArray, List.set_cons_zero, List.set_cons_succ]
                refine wpAnyT_pure 18 rfl (by kernel_rfl) (by decide) (by kernel_rfl) (by kernel_rfl) (fun _ _ _ h => h) hS (by kernel_rfl) (v := ?_) ?_ ?_
                rotate_left
                · intro w'; go_simp; (try with_reducible rfl)
                simp only [Act.put, List.getElem_toArray, List.getElem_cons_zero, List.getElem_cons_succ, List.setIfInBounds_toArray, List.set_cons_zero, List.set_cons_succ]
                refine wpAnyT_done (by kernel_rfl) ?_
                clear hS
                go_wp2
                go_ret
                exact ⟨rfl, HA11.out.bl⟩
              · subst z3
                have z4' : (e4 != 0) = true := bne_iff_ne.2 z4
                have z4'' : (e4 == 0) = false := bneI z4
                go_upto_region 9 with (fail)
                have hdr : Below w8.heap.size w8 w8.drew := (Below.refl _ _).drew
                have HA9 := Lib.hid (HA8.out.past hdr)
                have HX3 := Lib.hid (HRD3.out.below hdr)
                have HX4 := Lib.hid (HRD4.out.below hdr)
                refine wp_region_T_drew (fun w' => w'.cell? ⟨w.heap.size + 2, 0, none⟩ = some (.int .i64 f) ∧ w'.cell? ⟨w.heap.size + 2, 1, none⟩ = some (.int .i64 l) ∧ w'.cell? ⟨w.heap.size + 2, 2, none⟩ = some (.int .i64 s) ∧ w'.cell? ⟨w.heap.size + 2, 3, none⟩ = some (.int .i64 a) ∧ w'.cell? ⟨w.heap.size + 2, 4, none⟩ = some (.slice ba d.length cap) ∧ w'.cell? ⟨w.heap.size + 3, 0, none⟩ = some (.int .i64 f') ∧ w'.cell? ⟨w.heap.size + 3, 1, none⟩ = some (.int .i64 l') ∧ w'.cell? ⟨w.heap.size + 3, 2, none⟩ = some (.int .i64 s') ∧ w'.cell? ⟨w.heap.size + 3, 3, none⟩ = some (.int .i64 a') ∧ w'.cell? ⟨w.heap.size + 3, 4, none⟩ = some (.slice ba' d'.length cap')) 19 (by kernel_rfl) ⟨(HA9.out).thr.cell 0, (HA9.out).thr.cell 1, (HA9.out).thr.cell 2, (HA9.out).thr.cell 3, (HA9.out).thr.cell 4, (HA9.out).fou.cell 0, (HA9.out).fou.cell 1, (HA9.out).fou.cell 2, (HA9.out).fou.cell 3, (HA9.out).fou.cell 4⟩ (fun hS => ?_)
                clear hdr HA8 HRD3 HRD4
                refine wpAnyT_pure 0 rfl (by kernel_rfl) (by decide) (by kernel_rfl) (by kernel_rfl) (fun _ _ _ h => h) hS (by kernel_rfl) (v := ?_) ?_ ?_
                rotate_left
                · intro w'; go_simp; (try with_reducible rfl)
                simp only [Act.put, List.getElem_toArray, List.getElem_cons_zero, List.getElem_cons_succ, List.setIfInBounds_toArray, List.set_cons_zero, List.set_cons_succ]
                refine wpAnyT_pure 1 rfl (by kernel_rfl) (by decide) (by kernel_rfl) (by kernel_rfl) (fun _ _ _ h => h) hS (by kernel_rfl) (v := ?_) ?_ ?_
                rotate_left
                · intro w'; go_simp; (try with_reducible rfl)
                simp only [Act.put, List.getElem_toArray, List.getElem_cons_zero, List.getElem_cons_succ, List.setIfInBounds_toArray, List.set_cons_zero, List.set_cons_succ]
                refine wpAnyT_pure 2 rfl (by kernel_rfl) (by decide) (by kernel_rfl) (by kernel_rfl) (fun _ _ _ h => h) hS (by kernel_rfl) (v := ?_) ?_ ?_
                rotate_left
                · intro w'; go_simp; (try with_reducible rfl)
                simp only [Act.put, List.getElem_toArray, List.getElem_cons_zero, List.getElem_cons_succ, List.setIfInBounds_toArray, List.set_cons_zero, List.set_cons_succ]
                refine wpAnyT_pure 3 rfl (by kernel_rfl) (by decide) (by kernel_rfl) (by kernel_rfl) (fun _ _ _ h => h) hS (by kernel_rfl) (v := ?_) ?_ ?_
                rotate_left
                · intro w'; go_simp; (try with_reducible rfl)
                simp only [Act.put, List.getElem_toArray, List.getElem_cons_zero, List.getElem_cons_succ, List.setIfInBounds_toArray, List.set_cons_zero, List.set_cons_succ]
                refine wpAnyT_pure 4 rfl (by kernel_rfl) (by decide) (by kernel_rfl) (by kernel_rfl) (fun _ _ _ h => h) hS (by kernel_rfl) (v := ?_) ?_ ?_
                rotate_left
                · intro w'; go_simp; (try with_reducible rfl)
                simp only [Act.put, List.getElem_toArray, List.getElem_cons_zero, List.getElem_cons_succ, List.setIfInBounds_toArray, List.set_cons_zero, List.set_cons_succ]
                refine wpAnyT_pure 5 rfl (by kernel_rfl) (by decide) (by kernel_rfl) (by kernel_rfl) (fun _ _ _ h => h) hS (by kernel_rfl) (v := ?_) ?_ ?_
                rotate_left
                · intro w'; go_simp; (try with_reducible rfl)
                simp only [Act.put, List.getElem_toArray, List.getElem_cons_zero, List.getElem_cons_succ, List.setIfInBounds_toArray, List.set_cons_zero, List.set_cons_succ]
                refine wpAnyT_pure 6 rfl (by kernel_rfl) (by decide) (by kernel_rfl) (by kernel_rfl) (fun _ _ _ h => h) hS (by kernel_rfl) (v := ?_) ?_ ?_
                rotate_left
                · intro w'; go_simp; (try with_reducible rfl)
                simp only [Act.put, List.getElem_toArray, List.getElem_cons_zero, List.getElem_cons_succ, List.setIfInBounds_toArray, List.set_cons_zero, List.set_cons_succ]
                refine wpAnyT_skip 7 rfl (by kernel_rfl) (by decide) (by kernel_rfl) (by kernel_rfl) (fun _ _ _ h => h) hS (by kernel_rfl) ?_
                simp only [Act.put, List.getElem_toArray, List.getElem_cons_zero, List.getElem_cons_succ, List.setIfInBounds_toArray, List.set_cons_zero, List.set_cons_succ]
                refine wpAnyT_skip 8 rfl (by kernel_rfl) (by decide) (by kernel_rfl) (by kernel_rfl) (fun _ _ _ h => h) hS (by kernel_rfl) ?_
                simp only [Act.put, List.getElem_toArray, List.getElem_cons_zero, List.getElem_cons_succ, List.setIfInBounds_toArray, List.set_cons_zero, List.set_cons_succ]
                refine wpAnyT_skip 9 rfl (by kernel_rfl) (by decide) (by kernel_rfl) (by kernel_rfl) (fun _ _ _ h => h) hS (by kernel_rfl) ?_
                simp only [Act.put, List.getElem_toArray, List.getElem_cons_zero, List.getElem_cons_succ, List.setIfInBounds_toArray, List.set_cons_zero, List.set_cons_succ]
                refine wpAnyT_skip 10 rfl (by kernel_rfl) (by decide) (by kernel_rfl) (by kernel_rfl) (fun _ _ _ h => h) hS (by kernel_rfl) ?_
                simp only [Act.put, List.getElem_toArray, List.getElem_cons_zero, List.getElem_cons_succ, List.setIfInBounds_toArray, List.set_cons_zero, List.set_cons_succ]
                refine wpAnyT_skip 11 rfl (by kernel_rfl) (by decide) (by kernel_rfl) (by kernel_rfl) (fun _ _ _ h => h) hS (by kernel_rfl) ?_
                simp only [Act.put, List.getElem_toArray, List.getElem_cons_zero, List.getElem_cons_succ, List.setIfInBounds_toArray, List.set_cons_zero, List.set_cons_succ]
                refine wpAnyT_skip 12 rfl (by kernel_rfl) (by decide) (by kernel_rfl) (by kernel_rfl) (fun _ _ _ h => h) hS (by kernel_rfl) ?_
                simp only [Act.put, List.getElem_toArray, List.getElem_cons_zero, List.getElem_cons_succ, List.setIfInBounds_toArray, List.set_cons_zero, List.set_cons_succ]
                refine wpAnyT_skip 13 rfl (by kernel_rfl) (by decide) (by kernel_rfl) (by kernel_rfl) (fun _ _ _ h => h) hS (by kernel_rfl) ?_
                simp only [Act.put, List.getElem_toArray, List.getElem_cons_zero, List.getElem_cons_succ, List.setIfInBounds_toArray, List.set_cons_zero, List.set_cons_succ]
                refine wpAnyT_pure 14 rfl (by kernel_rfl) (by decide) (by kernel_rfl) (by kernel_rfl) (fun _ _ _ h => h) hS (by kernel_rfl) (v := ?_) ?_ ?_
                rotate_left
                · intro w'; go_simp; (try with_reducible rfl)
                simp only [Act.put, List.getElem_toArray, List.getElem_cons_zero, List.getElem_cons_succ, List.setIfInBounds_toArray, List.set_cons_zero, List.set_cons_succ]
                refine wpAnyT_pure 15 rfl (by kernel_rfl) (by decide) (by kernel_rfl) (by kernel_rfl) (fun _ _ _ h => h) hS (by kernel_rfl) (v := ?_) ?_ ?_
                rotate_left
                · intro w'; go_simp; (try with_reducible rfl)
                simp only [Act.put, List.getElem_toArray, List.getElem_cons_zero, List.getElem_cons_succ, List.setIfInBounds_toArray, List.set_cons_zero, List.set_cons_succ]
                refine wpAnyT_one 16 (by kernel_rfl) rfl (by kernel_rfl) (fun K hK => ?_)
                go_simp
                with_reducible refine (awake_any _).mono ?_
                rintro e w11 ⟨rfl, hb⟩
                have HA11 := Lib.hid ((HA9.out).past hb)
                have hS : _ ∧ _ ∧ _ ∧ _ ∧ _ ∧ _ ∧ _ ∧ _ ∧ _ ∧ _ := ⟨(HA11.out).thr.cell 0, (HA11.out).thr.cell 1, (HA11.out).thr.cell 2, (HA11.out).thr.cell 3, (HA11.out).thr.cell 4, (HA11.out).fou.cell 0, (HA11.out).fou.cell 1, (HA11.out).fou.cell 2, (HA11.out).fou.cell 3, (HA11.out).fou.cell 4⟩
                refine hK _ _ (fun _ => hS) ?_
                clear hK K hb
                refine wpAnyT_pure 17 rfl (by kernel_rfl) (by decide) (by kernel_rfl) (by kernel_rfl) (fun _ _ _ h => h) hS (by kernel_rfl) (v := ?_) ?_ ?_
                rotate_left
                · intro w'; go_simp; (try with_reducible rfl)
                simp only [Act.put, List.getElem_toArray, List.getElem_cons_zero, List.getElem_cons_succ, List.setIfInBounds_toArray, List.set_cons_zero, List.set_cons_succ]
                refine wpAnyT_pure 18 rfl (by kernel_rfl) (by decide) (by kernel_rfl) (by kernel_rfl) (fun _ _ _ h => h) hS (by kernel_rfl) (v := ?_) ?_ ?_
                rotate_left
                · intro w'; go_simp; (try with_reducible rfl)
                simp only [Act.put, List.getElem_toArray, List.getElem_cons_zero, List.getElem_cons_succ, List.setIfInBounds_toArray, List.set_cons_zero, List.set_cons_succ]
                refine wpAnyT_done (by kernel_rfl) ?_
                clear hS
                go_wp2
                go_ret
                exact ⟨rfl, HA11.out.bl⟩
            · have z3' : (e3 != 0) = true := bne_iff_ne.2 z3
              have z3'' : (e3 == 0) = false := bneI z3
              go_upto_region 9 with (fail)
              have hdr : Below w8.heap.size w8 w8.drew := (Below.refl _ _).drew
              have HA9 := Lib.hid (HA8.out.past hdr)
              have HX3 := Lib.hid (HRD3.out.below hdr)
              have HX4 := Lib.hid (HRD4.out.below hdr)
              refine wp_region_T_drew (fun w' => w'.cell? ⟨w.heap.size + 2, 0, none⟩ = some (.int .i64 f) ∧ w'.cell? ⟨w.heap.size + 2, 1, none⟩ = some (.int .i64 l) ∧ w'.cell? ⟨w.heap.size + 2, 2, none⟩ = some (.int .i64 s) ∧ w'.cell? ⟨w.heap.size + 2, 3, none⟩ = some (.int .i64 a) ∧ w'.cell? ⟨w.heap.size + 2, 4, none⟩ = some (.slice ba d.length cap) ∧ w'.cell? ⟨w.heap.size + 3, 0, none⟩ = some (.int .i64 f') ∧ w'.cell? ⟨w.heap.size + 3, 1, none⟩ = some (.int .i64 l') ∧ w'.cell? ⟨w.heap.size + 3, 2, none⟩ = some (.int .i64 s') ∧ w'.cell? ⟨w.heap.size + 3, 3, none⟩ = some (.int .i64 a') ∧ w'.cell? ⟨w.heap.size + 3, 4, none⟩ = some (.slice ba' d'.length cap')) 19 (by kernel_rfl) ⟨(HA9.out).thr.cell 0, (HA9.out).thr.cell 1, (HA9.out).thr.cell 2, (HA9.out).thr.cell 3, (HA9.out).thr.cell 4, (HA9.out).fou.cell 0, (HA9.out).fou.cell 1, (HA9.out).fou.cell 2, (HA9.out).fou.cell 3, (HA9.out).fou.cell 4⟩ (fun hS => ?_)
              clear hdr HA8 HRD3 HRD4
              refine wpAnyT_pure 0 rfl (by kernel_rfl) (by decide) (by kernel_rfl) (by kernel_rfl) (fun _ _ _ h => h) hS (by kernel_rfl) (v := ?_) ?_ ?_
              rotate_left
              · intro w'; go_simp; (try with_reducible rfl)
              simp only [Act.put, List.getElem_toArray, List.getElem_cons_zero, List.getElem_cons_succ, List.setIfInBounds_toArray, List.set_cons_zero, List.set_cons_succ]
              refine wpAnyT_pure 1 rfl (by kernel_rfl) (by decide) (by kernel_rfl) (by kernel_rfl) (fun _ _ _ h => h) hS (by kernel_rfl) (v := ?_) ?_ ?_
              rotate_left
              · intro w'; go_simp; (try with_reducible rfl)
              simp only [Act.put, List.getElem_toArray, List.getElem_cons_zero, List.getElem_cons_succ, List.setIfInBounds_toArray, List.set_cons_zero, List.set_cons_succ]
              refine wpAnyT_pure 2 rfl (by kernel_rfl) (by decide) (by kernel_rfl) (by kernel_rfl) (fun _ _ _ h => h) hS (by kernel_rfl) (v := ?_) ?_ ?_
              rotate_left
              · intro w'; go_simp; (try with_reducible rfl)
              simp only [Act.put, List.getElem_toArray, List.getElem_cons_zero, List.getElem_cons_succ, List.setIfInBounds_toArray, List.set_cons_zero, List.set_cons_succ]
              refine wpAnyT_skip 3 rfl (by kernel_rfl) (by decide) (by kernel_rfl) (by kernel_rfl) (fun _ _ _ h => h) hS (by kernel_rfl) ?_
              simp only [Act.put, List.getElem_toArray, List.getElem_cons_zero, List.getElem_cons_succ, List.setIfInBounds_toArray, List.set_cons_zero, List.set_cons_succ]
              refine wpAnyT_skip 4 rfl (by kernel_rfl) (by decide) (by kernel_rfl) (by kernel_rfl) (fun _ _ _ h => h) hS (by kernel_rfl) ?_
              simp only [Act.put, List.getElem_toArray, List.getElem_cons_zero, List.getElem_cons_succ, List.setIfInBounds_toArray, List.set_cons_zero, List.set_cons_succ]
              refine wpAnyT_pure 5 rfl (by kernel_rfl) (by decide) (by kernel_rfl) (by kernel_rfl) (fun _ _ _ h => h) hS (by kernel_rfl) (v := ?_) ?_ ?_
              rotate_left
              · intro w'; go_simp; (try with_reducible rfl)
              simp only [Act.put, List.getElem_toArray, List.getElem_cons_zero, List.getElem_cons_succ, List.setIfInBounds_toArray, List.set_cons_zero, List.set_cons_succ]
              refine wpAnyT_pure 6 rfl (by kernel_rfl) (by decide) (by kernel_rfl) (by kernel_rfl) (fun _ _ _ h => h) hS (by kernel_rfl) (v := ?_) ?_ ?_
              rotate_left
              · intro w'; go_simp; (try with_reducible rfl)
              simp only [Act.put, List.getElem_toArray, List.getElem_cons_zero, List.getElem_cons_succ, List.setIfInBounds_toArray, List.set_cons_zero, List.set_cons_succ]
              refine wpAnyT_skip 7 rfl (by kernel_rfl) (by decide) (by kernel_rfl) (by kernel_rfl) (fun _ _ _ h => h) hS (by kernel_rfl) ?_
              simp only [Act.put, List.getElem_toArray, List.getElem_cons_zero, List.getElem_cons_succ, List.setIfInBounds_toArray, List.set_cons_zero, List.set_cons_succ]
              refine wpAnyT_skip 8 rfl (by kernel_rfl) (by decide) (by kernel_rfl) (by kernel_rfl) (fun _ _ _ h => h) hS (by kernel_rfl) ?_
              simp only [Act.put, List.getElem_toArray, List.getElem_cons_zero, List.getElem_cons_succ, List.setIfInBounds_toArray, List.set_cons_zero, List.set_cons_succ]
              refine wpAnyT_skip 9 rfl (by kernel_rfl) (by decide) (by kernel_rfl) (by kernel_rfl) (fun _ _ _ h => h) hS (by kernel_rfl) ?_
              simp only [Act.put, List.getElem_toArray, List.getElem_cons_zero, List.getElem_cons_succ, List.setIfInBounds_toArray, List.set_cons_zero, List.set_cons_succ]
              refine wpAnyT_skip 10 rfl (by kernel_rfl) (by decide) (by kernel_rfl) (by kernel_rfl) (fun _ _ _ h => h) hS (by kernel_rfl) ?_
              simp only [Act.put, List.getElem_toArray, List.getElem_cons_zero, List.getElem_cons_succ, List.setIfInBounds_toArray, List.set_cons_zero, List.set_cons_succ]
              refine wpAnyT_skip 11 rfl (by kernel_rfl) (by decide) (by kernel_rfl) (by kernel_rfl) (fun _ _ _ h => h) hS (by kernel_rfl) ?_
              simp only [Act.put, List.getElem_toArray, List.getElem_cons_zero, List.getElem_cons_succ, List.setIfInBounds_toArray, List.set_cons_zero, List.set_cons_succ]
              refine wpAnyT_skip 12 rfl (by kernel_rfl) (by decide) (by kernel_rfl) (by kernel_rfl) (fun _ _ _ h => h) hS (by kernel_rfl) ?_
              simp only [Act.put, List.getElem_toArray, List.getElem_cons_zero, List.getElem_cons_succ, List.setIfInBounds_toArray, List.set_cons_zero, List.set_cons_succ]
              refine wpAnyT_skip 13 rfl (by kernel_rfl) (by decide) (by kernel_rfl) (by kernel_rfl) (fun _ _ _ h => h) hS (by kernel_rfl) ?_
              simp only [Act.put, List.getElem_toArray, List.getElem_cons_zero, List.getElem_cons_succ, List.setIfInBounds_toArray, List.set_cons_zero, List.set_cons_succ]
              refine wpAnyT_pure 14 rfl (by kernel_rfl) (by decide) (by kernel_rfl) (by kernel_rfl) (fun _ _ _ h => h) hS (by kernel_rfl) (v := ?_) ?_ ?_
              rotate_left
              · intro w'; go_simp; (try with_reducible rfl)
              simp only [Act.put, List.getElem_toArray, List.getElem_cons_zero, List.getElem_cons_succ, List.setIfInBounds_toArray, List.set_cons_zero, List.set_cons_succ]
              refine wpAnyT_pure 15 rfl (by kernel_rfl) (by decide) (by kernel_rfl) (by kernel_rfl) (fun _ _ _ h => h) hS (by kernel_rfl) (v := ?_) ?_ ?_
              rotate_left
              · intro w'; go_simp; (try with_reducible rfl)
              simp only [Act.put, List.getElem_toArray, List.getElem_cons_zero, List.getElem_cons_succ, List.setIfInBounds_toArray, List.set_cons_zero, List.set_cons_succ]
              refine wpAnyT_one 16 (by kernel_rfl) rfl (by kernel_rfl) (fun K hK => ?_)
              go_simp
              with_reducible refine (awake_any _).mono ?_
              rintro e w11 ⟨rfl, hb⟩
              have HA11 := Lib.hid ((HA9.out).past hb)
              have hS : _ ∧ _ ∧ _ ∧ _ ∧ _ ∧ _ ∧ _ ∧ _ ∧ _ ∧ _ := ⟨(HA11.out).thr.cell 0, (HA11.out).thr.cell 1, (HA11.out).thr.cell 2, (HA11.out).thr.cell 3, (HA11.out).thr.cell 4, (HA11.out).fou.cell 0, (HA11.out).fou.cell 1, (HA11.out).fou.cell 2, (HA11.out).fou.cell 3, (HA11.out).fou.cell 4⟩
              refine hK _ _ (fun _ => hS) ?_
              clear hK K hb
              refine wpAnyT_pure 17 rfl (by kernel_rfl) (by decide) (by kernel_rfl) (by kernel_rfl) (fun _ _ _ h => h) hS (by kernel_rfl) (v := ?_) ?_ ?_
              rotate_left
              · intro w'; go_simp; (try with_reducible rfl)
              simp only [Act.put, List.getElem_toArray, List.getElem_cons_zero, List.getElem_cons_succ, List.setIfInBounds_toArray, List.set_cons_zero, List.set_cons_succ]
              refine wpAnyT_pure 18 rfl (by kernel_rfl) (by decide) (by kernel_rfl) (by kernel_rfl) (fun _ _ _ h => h) hS (by kernel_rfl) (v := ?_) ?_ ?_
              rotate_left
              · intro w'; go_simp; (try with_reducible rfl)
              simp only [Act.put, List.getElem_toArray, List.getElem_cons_zero, List.getElem_cons_succ, List.setIfInBounds_toArray, List.set_cons_zero, List.set_cons_succ]
              refine wpAnyT_done (by kernel_rfl) ?_
              clear hS
              go_wp2
              go_ret
              exact ⟨rfl, HA11.out.bl⟩
        · have k1' : ¬ (1000 : Int) < (d.length : Int) := by omega
          have k2' : (1000 : Int) < (d'.length : Int) := by omega
          have o0 := (HA2.out).one.cell 0
          have o1 := (HA2.out).one.cell 1
          have o2 := (HA2.out).one.cell 2
          have o3 := (HA2.out).one.cell 3
          have olt := (HA2.out).one.lt
          have t0 := (HA2.out).two.cell 0
          have t1 := (HA2.out).two.cell 1
          have t2 := (HA2.out).two.cell 2
          have t3 := (HA2.out).two.cell 3
          have tlt := (HA2.out).two.lt
          have p0 := (HA2.out).thr.cell 0
          have p1 := (HA2.out).thr.cell 1
          have p2 := (HA2.out).thr.cell 2
          have p3 := (HA2.out).thr.cell 3
          have p4 := (HA2.out).thr.cell 4
          have plt := (HA2.out).thr.lt
          have q0 := (HA2.out).fou.cell 0
          have q1 := (HA2.out).fou.cell 1
          have q2 := (HA2.out).fou.cell 2
          have q3 := (HA2.out).fou.cell 3
          have q4 := (HA2.out).fou.cell 4
          have qlt := (HA2.out).fou.lt
          go_wp2_with fail
          with_reducible refine (awake_any _).mono ?_
          rintro e w9 ⟨rfl, hb9⟩
          have HB9 := Lib.hid ((HA2.out).bl.trans (hb9.mono (HA2.out).bl.size))
          clear hb9
          go_wp2
          go_ret
          exact ⟨rfl, HB9.out⟩
      · have k1' : (1000 : Int) < (d.length : Int) := by omega
        have o0 := (HA2.out).one.cell 0
        have o1 := (HA2.out).one.cell 1
        have o2 := (HA2.out).one.cell 2
        have o3 := (HA2.out).one.cell 3
        have olt := (HA2.out).one.lt
        have t0 := (HA2.out).two.cell 0
        have t1 := (HA2.out).two.cell 1
        have t2 := (HA2.out).two.cell 2
        have t3 := (HA2.out).two.cell 3
        have tlt := (HA2.out).two.lt
        have p0 := (HA2.out).thr.cell 0
        have p1 := (HA2.out).thr.cell 1
        have p2 := (HA2.out).thr.cell 2
        have p3 := (HA2.out).thr.cell 3
        have p4 := (HA2.out).thr.cell 4
        have plt := (HA2.out).thr.lt
        have q0 := (HA2.out).fou.cell 0
        have q1 := (HA2.out).fou.cell 1
        have q2 := (HA2.out).fou.cell 2
        have q3 := (HA2.out).fou.cell 3
        have q4 := (HA2.out).fou.cell 4
        have qlt := (HA2.out).fou.lt
        go_wp2_with fail
        with_reducible refine (awake_any _).mono ?_
        rintro e w9 ⟨rfl, hb9⟩
        have HB9 := Lib.hid ((HA2.out).bl.trans (hb9.mono (HA2.out).bl.size))
        clear hb9
        go_wp2
        go_ret
        exact ⟨rfl, HB9.out⟩
end Go.Proofs.Ytgamhgeiceakeaa
set_option linter.unusedVariables false
set_option linter.unusedSimpArgs false
namespace Go.Proofs.Ytgamhgeiceakeaa
open Go.ChangeShapes Go.WideShapes Go.ChangeAt Go.RowKit
set_option maxRecDepth 100000 in
theorem apart_lifted (os : Os) (started : os.Started) (H : Type) (enc : TypeId × Value → H) :
    ReturnsInHanded {} Try.checked os 6 .any (Rows.frameApartSpec.pre6 enc Try.prog Try.f6 Rows.frameApartRow.domain false) (Rows.frameApartSpec.post enc Try.prog Try.f6 false true false false) := by
  refine returnsInHanded_of_change (C := Try.checked) zz_own started (by kernel_rfl) Try.func6
    (ChangeSpec.witness6 (enc := enc) (C := Try.checked) false ⟨#[], #[.agg #[.int .u8 0, .slice none 0 0, .slice none 0 0, .slice none 0 0], .agg #[.int .u8 0, .slice none 0 0, .slice none 0 0, .slice none 0 0], .agg #[.int .i64 0, .int .i64 0, .int .i64 0, .int .i64 0, .slice none 0 0], .agg #[.int .i64 0, .int .i64 0, .int .i64 0, .int .i64 0, .slice none 0 0]], []⟩ 8 (by kernel_rfl) (by kernel_rfl) (by kernel_rfl) (by kernel_rfl)) ?_
  intro W base args ds gs before hval0 hW hcnd _
  have hval : ∀ (j : Nat) t v, Try.f6.params[j]? = some t → args[j]? = some v → Value.okWide Try.prog W .any base t v := hval0
  have hW' := hW
  obtain ⟨p, q, hA0, hV, rfl, hfz, hnd⟩ := hW
  have hA : DataW.TrodAll enc Try.prog W 0 (fun _ => true) true Try.f6.params.toList args.toList ds p := hA0
  have hA1 := hA
  rw [Try.params6] at hA hval
  have hA2 := hA
  obtain ⟨v0, vs0, d0, ds0, p0, q0, e0, rfl, rfl, h0, hA2⟩ := trodAll_cons hA2
  obtain ⟨v1, vs1, d1, ds1, p1, q1, e1, rfl, rfl, h1, hA2⟩ := trodAll_cons hA2
  obtain ⟨v2, vs2, d2, ds2, p2, q2, e2, rfl, rfl, h2, hA2⟩ := trodAll_cons hA2
  obtain ⟨v3, vs3, d3, ds3, p3, q3, e3, rfl, rfl, h3, hA2⟩ := trodAll_cons hA2
  obtain ⟨e4, rfl, rfl⟩ := trodAll_nil hA2
  obtain rfl : args = #[v0, v1, v2, v3] := by
    cases args; simp_all
  clear e0 e1 e2 e3 e4
  obtain ⟨m0, bn0, bv0, bb0, cn0, cv0, cb0, rfl, r0⟩ := open_msg (hval 0 30 v0 rfl rfl) h0
  obtain ⟨m1, bn1, bv1, bb1, cn1, cv1, cb1, rfl, r1⟩ := open_msg (hval 1 30 v1 rfl rfl) h1
  obtain ⟨f2, l2, s2, a2, x2, r2⟩ := open_packet (hval 2 41 v2 rfl rfl) h2
  obtain ⟨f3, l3, s3, a3, x3, r3⟩ := open_packet (hval 3 41 v3 rfl rfl) h3
  obtain ⟨rfl, rfl⟩ := trodVars_none hV
  clear hA0 hval0
  have hlt := hW'.lt
  refine (apart_row _ _ m0 m1 bn0 bv0 bb0 bn1 bv1 bb1 cn0 cv0 cb0 cn1 cv1 cb1 f2 l2 s2 a2 f3 l3 s3 a3 x2 x3 v2 v3 W r0 r1 r2 r3).mono fun e W' ⟨he, hb⟩ => ?_
  subst he
  exact ⟨_, rfl, post_of_below (pv := []) hW' (fun _ _ _ => trodAll_mk1 (shut_bool Try.underlying4 _))
    (fun sp hsp => all_stay zz_laid sp hb _ _ _ _ (by intro t ht; rw [Try.params6] at ht; simp only [List.mem_cons, List.not_mem_nil, or_false] at ht; rcases ht with rfl | rfl | rfl | rfl <;> exact ⟨by kernel_rfl, of_decide_eq_true (by kernel_rfl)⟩) hA1 (fun x hx => hlt x (by simpa using hx)) (fun x hx => hsp x (by simpa using hx))) (fun _ _ => rfl) (by simp)
    hb (ok_one (by kernel_rfl) rfl (okWide_bool_mk Try.underlying4 _))⟩
theorem apart_holds : Rows.FrameApartSaid :=
  OpenClaim.holds_of_wide 6 Try.f6 rfl rfl rfl rfl rfl rfl rfl ⟨rfl, rfl, rfl, rfl, rfl⟩ rfl rfl rfl rfl rfl (by kernel_rfl) Try.func6 (by kernel_rfl)
    (of_decide_eq_true (by kernel_rfl)) (by unfold Func.isWrapper; first | (rw [if_pos (by decide +kernel)]; kernel_rfl) | (rw [if_neg (by decide +kernel)]; exact ⟨rfl, rfl⟩))
    (fun os started H enc _ => apart_lifted os started H enc)
#print axioms apart_holds
end Go.Proofs.Ytgamhgeiceakeaa
