/- frame.Pack of what is no packet; droverlaw07.SessionAgain: the law's own words. -/
import Derived.Test.YtndfelbgppbncaaSFour
set_option linter.unusedVariables false
namespace Go.Proofs.Ytndfelbgppbncaa
open Go.RowKit
set_option maxHeartbeats 1600000 in
set_option maxRecDepth 100000 in
theorem pack_no (f l s a : Int) (ba : Option Addr) (n cap : Nat) (w : World) (hr : rightB f l s a n = false) :
    Calls Try.prog 56 #[.agg #[.int .i64 f, .int .i64 l, .int .i64 s, .int .i64 a, .slice ba n cap]] w (AggBelow (.tuple #[.slice none 0 0, .int .i64 14]) w) := by
  have c1 := fun w => right_any f l s a ba n cap w
  rw [hr] at c1
  have C1 := Lib.hid c1
  clear c1 hr
  go_enter Try.func56, Try.ntmps56
  go_wp2_with fail
  with_reducible refine (C1.out _).mono ?_
  rintro e w2 ⟨rfl, hb2⟩
  obtain ⟨q1, q2, q3⟩ := cells_one hb2
  have HB2 := Lib.hid q3
  clear hb2 q3
  go_wp2
  go_ret2
  exact ⟨rfl, HB2.out⟩
set_option maxHeartbeats 1600000 in
set_option maxRecDepth 100000 in
theorem packed_no (x y z : Int) (ba : Option Addr) (n cap : Nat) (w : World) (hr : rightB 1 x y z n = false) :
    Calls Try.prog 31 #[.int .i64 x, .int .i64 y, .int .i64 z, .slice ba n cap] w (AggBelow (.slice none 0 0) w) := by
  have CP := Lib.hid (pack_no 1 x y z ba n cap w hr)
  clear hr
  go_enter Try.func31, Try.ntmps31
  go_wp2_with fail
  with_reducible refine (CP.out).mono ?_
  rintro e w1 ⟨rfl, hb⟩
  have HB := Lib.hid hb
  clear hb
  go_wp2
  go_ret
  exact ⟨rfl, HB.out⟩
def PkPost (l : List UInt8) (w : World) (e : Ending) (w' : World) : Prop := ∃ ba cap, e = .returned (.slice ba l.length cap) ∧ Ow w' w.heap.size (.slice ba l.length cap) l ∧ Below w.heap.size w w'
theorem packed_post (l s a : Nat) (x y z : Int) (hx : x = l) (hy : y = s) (hz : z = a) (ba : Option Addr) (n cap : Nat) (d : List UInt8) (w : World) (hn : d.length = n) (hr : Rd w ba d) (hb : ba = none → n = 0) (hp : (⟨1, l, s, a, d⟩ : By.Pk).right) :
    Calls Try.prog 31 #[.int .i64 x, .int .i64 y, .int .i64 z, .slice ba n cap] w (PkPost (By.pack ⟨1, l, s, a, d⟩) w) :=
  (packed_any l s a x y z hx hy hz ba n cap d w hn hr hb hp).mono fun e w' ⟨v', he, ho, hb'⟩ => by
    obtain ⟨b1, c1, rfl, _, _, _⟩ := ho.rd
    exact ⟨b1, c1, he, ho, hb'⟩
def TruePost (w : World) (e : Ending) (w' : World) : Prop := e = .returned (.bool true) ∧ Below w.heap.size w w'
/-- a []byte that came in -/
structure In (w : World) (ba : Option Addr) (n : Nat) (l : List UInt8) : Prop where
  len : l.length = n
  rd : Rd w ba l
theorem In.at_ {w w' : World} {ba : Option Addr} {n : Nat} {l : List UInt8} (h : In w ba n l) (hb : Below w.heap.size w w') (i : Nat) (hi : i < n) : ∃ b o, ba = some (⟨b, o, none⟩ : Addr) ∧ ∃ c : UInt8, w'.cell? ⟨b, o + i, none⟩ = some (.int .u8 (c.toNat : Nat)) := by
  have hl := h.len
  rcases h.rd with e | ⟨b, o, e, hlt, hc⟩
  · rw [e] at hl; simp at hl; omega
  · exact ⟨b, o, e, l[i]'(by omega), by rw [hb.cell (p := ⟨b, o + i, none⟩) hlt]; exact hc i (by omega)⟩
/-- what SessionAgain's loop holds -/
def AgRel (w : World) (p n : Nat) (av dv iv : Value) (wr : World) : Prop := ∃ i A D : Nat, ∃ pl : Int, i ≤ n ∧ i ≤ 40 ∧ A ≤ i ∧ D ≤ A ∧ pl ≤ 2 ∧ iv = .int .i64 i ∧ av = .int .i64 A ∧ dv = .int .i64 D ∧ Se wr p 0 1 1 0 (.slice none 0 0) D A pl ∧ Below w.heap.size w wr
/-- what the loop in it holds -/
def AgIn (w : World) (p D A : Nat) (b3 : Option Addr) (c3 : Nat) (l : List UInt8) (kv : Value) (wr : World) : Prop := ∃ k : Nat, k ≤ 2 ∧ kv = .int .i64 k ∧ ∃ pl : Int, pl ≤ 2 ∧ (0 < k → pl = 2) ∧ Se wr p 0 1 1 0 (.slice none 0 0) D A pl ∧ Below w.heap.size w wr ∧ Ow wr (p + 1) (.slice b3 l.length c3) l
theorem rd_one (w : World) (x : Int) (c : UInt8) (h : (c.toNat : Int) = x) : Rd (w.alloc (.cells #[.int .u8 x] 5)) (some ⟨w.heap.size, 0, none⟩) [c] := by
  refine Or.inr ⟨w.heap.size, 0, rfl, by simp, fun i hi => ?_⟩
  have : i = 0 := by simp at hi; omega
  subst this
  rw [List.getElem_cons_zero, h]
  exact cell_new1 _ _ _
theorem one_byte {w : World} {B : Nat} {v : Value} {c : UInt8} (h : Ow w B v [c]) : ∃ b o cap, v = .slice (some ⟨b, o, none⟩) 1 cap ∧ b < w.heap.size ∧ w.cell? ⟨b, o, none⟩ = some (.int .u8 (c.toNat : Nat)) := by
  obtain ⟨ba, cap, rfl, hr, _, _⟩ := h.rd
  rcases hr with h | ⟨b, o, e, hlt, hc⟩
  · cases h
  · subst e
    exact ⟨b, o, cap, rfl, hlt, by have := hc 0 (by simp); simpa using this⟩
set_option maxHeartbeats 8000000 in
set_option maxRecDepth 100000 in
theorem again_true (ba ca : Option Addr) (n m capn capm : Nat) (ls la : List UInt8) (w : World) (h1 : In w ba n ls) (h2 : In w ca m la) (hn : n ≤ 9223372036854775807) (hm : m ≤ 9223372036854775807)
    (aw : ∀ w, Calls Try.prog 26 #[] w (TruePost w)) : Calls Try.prog 6 #[.slice ba n capn, .slice ca m capm] w (TruePost w) := by
  have CN := Lib.hid (new0_any 0 1 1 0 0 w (by omega) (by omega) (by omega) (by omega) (by omega))
  have H1 := Lib.hid h1
  have H2 := Lib.hid h2
  have AW := Lib.hid aw
  clear h1 h2 aw
  go_enter Try.func6, Try.ntmps6
  go_wp2_with fail
  with_reducible refine (CN.out).mono ?_
  rintro e w1 ⟨p, rfl, hS, hp, hb⟩
  have HS := Lib.hid hS
  have HB := Lib.hid hb
  clear hS hb
  go_wp2_with fail
  go_loopw [7, 8, 9] (fun av dv iv wr => AgRel w p n av dv iv wr) (fun _ _ i _ => 40 - (intOf i).toNat)
  case atStart => exact ⟨0, 0, 0, 0, Nat.zero_le _, by omega, Nat.le_refl _, Nat.le_refl _, by omega, rfl, rfl, rfl, HS.out, HB.out⟩
  case round =>
    obtain ⟨i, A, D, pl, hi, hi40, hA, hD, hpl, rfl, rfl, rfl, hS, hb⟩ := hrel
    have HSR := Lib.hid hS
    have HBR := Lib.hid hb
    have hpr := hS.lt
    clear hS hb
    by_cases hlt : i < n ∧ i < 40
    · obtain ⟨g1, g2⟩ := hlt
      obtain ⟨b, o, rfl, c, hc⟩ := H1.out.at_ HBR.out i g1
      have hcb : c.toNat < 256 := c.toNat_lt
      obtain ⟨q, hq⟩ : ∃ q, q = c.toNat % 8 := ⟨_, rfl⟩
      have hq8 : q < 8 := by omega
      by_cases q0 : q = 0
      · subst q0
        have hq' : (c.toNat : Int) % 8 = 0 := by omega
        have kA : ((0 : Int) == (A : Int) + 1) = false := bneI (by omega)
        have q : Nat := 0
        have hP : (⟨1, 2, 0, 0, []⟩ : By.Pk).right := by unfold By.Pk.right By.top; simp
        have CPN := Lib.hid (fun W => packed_no 2 0 0 (some ⟨wr.heap.size, 0, none⟩) 1 1 W (by decide))
        have CP := Lib.hid (fun W => packed_post 2 0 0 2 0 0 rfl rfl rfl none 0 0 [] W rfl (Or.inl rfl) (fun _ => rfl) hP)
        clear hq
        go_wp2_with fail
        with_reducible refine (CPN.out _).mono ?_
        rintro e w2 ⟨rfl, hb2⟩
        have hb2' : Below wr.heap.size wr w2 := ((Below.refl wr.heap.size wr).alloc (Nat.le_refl _) _).trans (hb2.mono (by simp))
        have HB2 := Lib.hid hb2'
        clear hb2 hb2'
        go_wp2_with fail
        with_reducible refine (CP.out _).mono ?_
        rintro e w3 ⟨b3, c3, rfl, ho3, hb3⟩
        have hb3' : Below wr.heap.size wr w3 := HB2.out.trans (hb3.mono HB2.out.size)
        have HS3 := Lib.hid (HSR.out.below hb3')
        have HB3 := Lib.hid (HBR.out.trans (hb3'.mono HBR.out.size))
        have HO3 := Lib.hid (ho3.mono (show p + 1 ≤ _ from Nat.le_trans hpr HB2.out.size))
        clear ho3 hb3 hb3' CP CPN HB2
        go_wp2_with fail
        obtain ⟨wo, hwo⟩ : ∃ wo : World, wo = wr := ⟨_, rfl⟩
        subst hwo
        go_loopw [12] (fun kv wr => AgIn w p D A b3 c3 (By.pack ⟨1, 2, 0, 0, []⟩) kv wr) (fun k _ => 2 - (intOf k).toNat)
        case atStart => exact ⟨0, by omega, rfl, pl, hpl, (fun h => by omega), HS3.out, HB3.out, HO3.out⟩
        case round =>
          obtain ⟨k, hk, rfl, pl2, hpl2, hplk, hSk, hbk, hok⟩ := hrel
          have hrd := hok.rd1
          have HBk := Lib.hid hbk
          have HOk := Lib.hid hok
          have hpk := hSk.lt
          clear hbk hok
          by_cases hk2 : k < 2
          · go_wp2_with fail
            with_reducible refine (recv0_no p 0 1 0 D A pl2 ⟨1, 2, 0, 0, []⟩ b3 _ c3 wr hSk rfl hrd.1 hrd.2.1 hrd.2.2.1 hP rfl (by omega) (by simp) (by simp; omega) (by omega)).mono ?_
            rintro e w4 ⟨rfl, hS4, hg4⟩
            have HS4 := Lib.hid hS4
            have HB4 := Lib.hid (HBk.out.grown hg4 HBk.out.size (fun k hk => by have := Option.some.inj hk; omega))
            have HO4 := Lib.hid (own_kept HOk.out hg4 (fun k hk e => by have h1 := (HOk.out.lt k hk).1; have h2 := Option.some.inj e; omega))
            clear hS4 hg4 hSk hrd
            go_wp2_with fail
            exact ⟨⟨k + 1, by omega, by go_num, 2, by omega, fun _ => rfl, HS4.out.below ((Below.refl _ _).alloc (Nat.le_refl _) _), HB4.out.alloc HB4.out.size _, HO4.out.alloc _⟩, by simp [intOf]; omega⟩
          · obtain rfl : k = 2 := by omega
            obtain rfl := hplk (by omega)
            have HSQ := Lib.hid hSk
            have HBQ := Lib.hid HBk.out
            clear hSk hrd
            by_cases him : i < m
            · obtain ⟨b2, o2, rfl, c2, hc2⟩ := H2.out.at_ HBQ.out i him
              have hcb2 : c2.toNat < 256 := c2.toNat_lt
              by_cases h3 : c2.toNat % 3 = 0
              · have k3 : ((c2.toNat : Int) % 3 == 0) = true := beqI (by omega)
                go_wp2_with fail
                with_reducible refine (accept_no p 0 1 1 0 (.slice none 0 0) D A 2 _ HSQ.out _ (by omega) (by omega)).mono ?_
                rintro e w5 ⟨rfl, hS5, hg5⟩
                have HS5 := Lib.hid hS5
                have HB5 := Lib.hid (HBQ.out.grown hg5 HBQ.out.size (fun k hk => by have := Option.some.inj hk; omega))
                clear hS5 hg5
                by_cases hDA : D < A
                · have hDA2 : (D : Int) < (A : Int) := by omega
                  go_wp2_with fail
                  with_reducible refine (done_yes p 0 1 1 0 (.slice none 0 0) D A 2 _ HS5.out _ (by omega) (by omega)).mono ?_
                  rintro e w6 ⟨rfl, hS6, hg6⟩
                  have HS6 := Lib.hid hS6
                  have HB6 := Lib.hid (HB5.out.grown hg6 HB5.out.size (fun k hk => by have := Option.some.inj hk; omega))
                  clear hS6 hg6
                  go_wp2_with fail
                  with_reducible refine (link0_any p 0 1 1 0 A A 2 _ HS6.out).mono ?_
                  rintro e w7 ⟨rfl, hb7⟩
                  have HS7 := Lib.hid (HS6.out.below hb7)
                  have HB7 := Lib.hid (HB6.out.trans (hb7.mono HB6.out.size))
                  clear hb7
                  go_wp2_with fail
                  with_reducible refine (peerLife_any p 0 1 1 0 (.slice none 0 0) A A 2 _ ?_).mono ?_
                  · exact HS7.out.below ((Below.refl _ _).alloc (Nat.le_refl _) _)
                  rintro e w8 ⟨rfl, rfl⟩
                  go_wp2_with fail
                  exact ⟨⟨i + 1, A, A, 2, by omega, by omega, by omega, by omega, by omega, by go_num, by go_num, by go_num, HS7.out.below ((Below.refl _ _).alloc (Nat.le_refl _) _), HB7.out.alloc HB7.out.size _⟩, by simp [intOf]; omega⟩
                · obtain rfl : D = A := by omega
                  go_wp2_with fail
                  with_reducible refine (done_no p 0 1 1 0 (.slice none 0 0) D D 2 _ HS5.out _ (by omega)).mono ?_
                  rintro e w6 ⟨rfl, hS6, hg6⟩
                  have HS6 := Lib.hid hS6
                  have HB6 := Lib.hid (HB5.out.grown hg6 HB5.out.size (fun k hk => by have := Option.some.inj hk; omega))
                  clear hS6 hg6
                  go_wp2_with fail
                  with_reducible refine (link0_any p 0 1 1 0 D D 2 _ HS6.out).mono ?_
                  rintro e w7 ⟨rfl, hb7⟩
                  have HS7 := Lib.hid (HS6.out.below hb7)
                  have HB7 := Lib.hid (HB6.out.trans (hb7.mono HB6.out.size))
                  clear hb7
                  go_wp2_with fail
                  with_reducible refine (peerLife_any p 0 1 1 0 (.slice none 0 0) D D 2 _ ?_).mono ?_
                  · exact HS7.out.below ((Below.refl _ _).alloc (Nat.le_refl _) _)
                  rintro e w8 ⟨rfl, rfl⟩
                  go_wp2_with fail
                  exact ⟨⟨i + 1, D, D, 2, by omega, by omega, by omega, by omega, by omega, by go_num, by go_num, by go_num, HS7.out.below ((Below.refl _ _).alloc (Nat.le_refl _) _), HB7.out.alloc HB7.out.size _⟩, by simp [intOf]; omega⟩
              · have k3 : ((c2.toNat : Int) % 3 == 0) = false := bneI (by omega)
                go_wp2_with fail
                with_reducible refine (accept_no p 0 1 1 0 (.slice none 0 0) D A 2 _ HSQ.out _ (by omega) (by omega)).mono ?_
                rintro e w5 ⟨rfl, hS5, hg5⟩
                have HS5 := Lib.hid hS5
                have HB5 := Lib.hid (HBQ.out.grown hg5 HBQ.out.size (fun k hk => by have := Option.some.inj hk; omega))
                clear hS5 hg5
                have HS6 := Lib.hid HS5.out
                have HB6 := Lib.hid HB5.out
                go_wp2_with fail
                with_reducible refine (link0_any p 0 1 1 0 D A 2 _ HS6.out).mono ?_
                rintro e w7 ⟨rfl, hb7⟩
                have HS7 := Lib.hid (HS6.out.below hb7)
                have HB7 := Lib.hid (HB6.out.trans (hb7.mono HB6.out.size))
                clear hb7
                go_wp2_with fail
                with_reducible refine (peerLife_any p 0 1 1 0 (.slice none 0 0) D A 2 _ ?_).mono ?_
                · exact HS7.out.below ((Below.refl _ _).alloc (Nat.le_refl _) _)
                rintro e w8 ⟨rfl, rfl⟩
                go_wp2_with fail
                exact ⟨⟨i + 1, A, D, 2, by omega, by omega, by omega, by omega, by omega, by go_num, by go_num, by go_num, HS7.out.below ((Below.refl _ _).alloc (Nat.le_refl _) _), HB7.out.alloc HB7.out.size _⟩, by simp [intOf]; omega⟩
            · go_wp2_with fail
              with_reducible refine (accept_no p 0 1 1 0 (.slice none 0 0) D A 2 _ HSQ.out _ (by omega) (by omega)).mono ?_
              rintro e w5 ⟨rfl, hS5, hg5⟩
              have HS5 := Lib.hid hS5
              have HB5 := Lib.hid (HBQ.out.grown hg5 HBQ.out.size (fun k hk => by have := Option.some.inj hk; omega))
              clear hS5 hg5
              by_cases hDA : D < A
              · have hDA2 : (D : Int) < (A : Int) := by omega
                go_wp2_with fail
                with_reducible refine (done_yes p 0 1 1 0 (.slice none 0 0) D A 2 _ HS5.out _ (by omega) (by omega)).mono ?_
                rintro e w6 ⟨rfl, hS6, hg6⟩
                have HS6 := Lib.hid hS6
                have HB6 := Lib.hid (HB5.out.grown hg6 HB5.out.size (fun k hk => by have := Option.some.inj hk; omega))
                clear hS6 hg6
                go_wp2_with fail
                with_reducible refine (link0_any p 0 1 1 0 A A 2 _ HS6.out).mono ?_
                rintro e w7 ⟨rfl, hb7⟩
                have HS7 := Lib.hid (HS6.out.below hb7)
                have HB7 := Lib.hid (HB6.out.trans (hb7.mono HB6.out.size))
                clear hb7
                go_wp2_with fail
                with_reducible refine (peerLife_any p 0 1 1 0 (.slice none 0 0) A A 2 _ ?_).mono ?_
                · exact HS7.out.below ((Below.refl _ _).alloc (Nat.le_refl _) _)
                rintro e w8 ⟨rfl, rfl⟩
                go_wp2_with fail
                exact ⟨⟨i + 1, A, A, 2, by omega, by omega, by omega, by omega, by omega, by go_num, by go_num, by go_num, HS7.out.below ((Below.refl _ _).alloc (Nat.le_refl _) _), HB7.out.alloc HB7.out.size _⟩, by simp [intOf]; omega⟩
              · obtain rfl : D = A := by omega
                go_wp2_with fail
                with_reducible refine (done_no p 0 1 1 0 (.slice none 0 0) D D 2 _ HS5.out _ (by omega)).mono ?_
                rintro e w6 ⟨rfl, hS6, hg6⟩
                have HS6 := Lib.hid hS6
                have HB6 := Lib.hid (HB5.out.grown hg6 HB5.out.size (fun k hk => by have := Option.some.inj hk; omega))
                clear hS6 hg6
                go_wp2_with fail
                with_reducible refine (link0_any p 0 1 1 0 D D 2 _ HS6.out).mono ?_
                rintro e w7 ⟨rfl, hb7⟩
                have HS7 := Lib.hid (HS6.out.below hb7)
                have HB7 := Lib.hid (HB6.out.trans (hb7.mono HB6.out.size))
                clear hb7
                go_wp2_with fail
                with_reducible refine (peerLife_any p 0 1 1 0 (.slice none 0 0) D D 2 _ ?_).mono ?_
                · exact HS7.out.below ((Below.refl _ _).alloc (Nat.le_refl _) _)
                rintro e w8 ⟨rfl, rfl⟩
                go_wp2_with fail
                exact ⟨⟨i + 1, D, D, 2, by omega, by omega, by omega, by omega, by omega, by go_num, by go_num, by go_num, HS7.out.below ((Below.refl _ _).alloc (Nat.le_refl _) _), HB7.out.alloc HB7.out.size _⟩, by simp [intOf]; omega⟩
      · by_cases qA : q = A + 1
        · have hqb : ((UInt8.ofNat q).toNat : Int) = (q : Int) := by rw [UInt8.toNat_ofNat']; omega
          have hq' : (c.toNat : Int) % 8 = (q : Int) := by omega
          have k0 : ((q : Int) == 0) = false := bneI (by omega)
          have kA : ((q : Int) == (A : Int) + 1) = true := beqI (by omega)
          have l1 : q ≤ A + 1 := by omega
          have l2 : A + 1 ≤ q := by omega
          clear qA
          have hP : (⟨1, 2, q, 0, [UInt8.ofNat q]⟩ : By.Pk).right := by unfold By.Pk.right By.top; simp; omega
          have CP := Lib.hid (fun W (hr : Rd W (some ⟨wr.heap.size, 0, none⟩) [UInt8.ofNat q]) => packed_post 2 q 0 2 q 0 rfl rfl rfl (some ⟨wr.heap.size, 0, none⟩) 1 1 [UInt8.ofNat q] W rfl hr (fun h => by cases h) hP)
          have hrd1 : Rd (wr.alloc (.cells #[.int .u8 q] 5)) (some ⟨wr.heap.size, 0, none⟩) [UInt8.ofNat q] := rd_one wr q (UInt8.ofNat q) hqb
          have HRD1 := Lib.hid hrd1
          clear hrd1 hq
          go_wp2_with fail
          with_reducible refine (CP.out _ HRD1.out).mono ?_
          rintro e w3 ⟨b3, c3, rfl, ho3, hb3⟩
          have hb3' : Below wr.heap.size wr w3 := ((Below.refl wr.heap.size wr).alloc (Nat.le_refl _) _).trans (hb3.mono (by simp))
          have HS3 := Lib.hid (HSR.out.below hb3')
          have HB3 := Lib.hid (HBR.out.trans (hb3'.mono HBR.out.size))
          have HO3 := Lib.hid (ho3.mono (show p + 1 ≤ _ by simp; omega))
          clear ho3 hb3 hb3' CP HRD1
          go_wp2_with fail
          obtain ⟨wo, hwo⟩ : ∃ wo : World, wo = wr := ⟨_, rfl⟩
          subst hwo
          go_loopw [12] (fun kv wr => AgIn w p D A b3 c3 (By.pack ⟨1, 2, q, 0, [UInt8.ofNat q]⟩) kv wr) (fun k _ => 2 - (intOf k).toNat)
          case atStart => exact ⟨0, by omega, rfl, pl, hpl, (fun h => by omega), HS3.out, HB3.out, HO3.out⟩
          case round =>
            obtain ⟨k, hk, rfl, pl2, hpl2, hplk, hSk, hbk, hok⟩ := hrel
            have hrd := hok.rd1
            have HBk := Lib.hid hbk
            have HOk := Lib.hid hok
            have hpk := hSk.lt
            clear hbk hok
            by_cases hk2 : k < 2
            · go_wp2_with fail
              with_reducible refine (recv0_yes p 0 1 0 D A pl2 ⟨1, 2, q, 0, [UInt8.ofNat q]⟩ b3 _ c3 wr hSk rfl hrd.1 hrd.2.1 hrd.2.2.1 hP rfl (by omega) (by simp) (by simp; omega) (by omega)).mono ?_
              rintro e w4 ⟨v4, rfl, ho4, hS4, hg4⟩
              obtain ⟨b4, o4, c4, rfl, hlt4, hc4⟩ := one_byte ho4
              have HS4 := Lib.hid hS4
              have HB4 := Lib.hid (HBk.out.grown hg4 HBk.out.size (fun k hk => by have := Option.some.inj hk; omega))
              have HO4 := Lib.hid (own_kept HOk.out hg4 (fun k hk e => by have h1 := (HOk.out.lt k hk).1; have h2 := Option.some.inj e; omega))
              clear ho4 hS4 hg4 hSk hrd
              rw [hqb] at hc4
              go_wp2_with fail
              exact ⟨⟨k + 1, by omega, by go_num, 2, by omega, fun _ => rfl, HS4.out.below ((Below.refl _ _).alloc (Nat.le_refl _) _), HB4.out.alloc HB4.out.size _, HO4.out.alloc _⟩, by simp [intOf]; omega⟩
            · obtain rfl : k = 2 := by omega
              obtain rfl := hplk (by omega)
              have HSQ := Lib.hid hSk
              have HBQ := Lib.hid HBk.out
              clear hSk hrd
              by_cases him : i < m
              · obtain ⟨b2, o2, rfl, c2, hc2⟩ := H2.out.at_ HBQ.out i him
                have hcb2 : c2.toNat < 256 := c2.toNat_lt
                by_cases h3 : c2.toNat % 3 = 0
                · have k3 : ((c2.toNat : Int) % 3 == 0) = true := beqI (by omega)
                  go_wp2_with fail
                  with_reducible refine (accept_yes p 0 1 1 0 (.slice none 0 0) D A 2 _ HSQ.out _ (by omega) (by omega)).mono ?_
                  rintro e w5 ⟨rfl, hS5, hg5⟩
                  have HS5 := Lib.hid hS5
                  have HB5 := Lib.hid (HBQ.out.grown hg5 HBQ.out.size (fun k hk => by have := Option.some.inj hk; omega))
                  clear hS5 hg5
                  have hDq : D < q := by omega
                  go_wp2_with fail
                  with_reducible refine (done_yes p 0 1 1 0 (.slice none 0 0) D q 2 _ HS5.out _ (by omega) (by omega)).mono ?_
                  rintro e w6 ⟨rfl, hS6, hg6⟩
                  have HS6 := Lib.hid hS6
                  have HB6 := Lib.hid (HB5.out.grown hg6 HB5.out.size (fun k hk => by have := Option.some.inj hk; omega))
                  clear hS6 hg6
                  go_wp2_with fail
                  with_reducible refine (link0_any p 0 1 1 0 q q 2 _ HS6.out).mono ?_
                  rintro e w7 ⟨rfl, hb7⟩
                  have HS7 := Lib.hid (HS6.out.below hb7)
                  have HB7 := Lib.hid (HB6.out.trans (hb7.mono HB6.out.size))
                  clear hb7
                  go_wp2_with fail
                  with_reducible refine (peerLife_any p 0 1 1 0 (.slice none 0 0) q q 2 _ ?_).mono ?_
                  · exact HS7.out.below ((Below.refl _ _).alloc (Nat.le_refl _) _)
                  rintro e w8 ⟨rfl, rfl⟩
                  go_wp2_with fail
                  exact ⟨⟨i + 1, q, q, 2, by omega, by omega, by omega, by omega, by omega, by go_num, by go_num, by go_num, HS7.out.below ((Below.refl _ _).alloc (Nat.le_refl _) _), HB7.out.alloc HB7.out.size _⟩, by simp [intOf]; omega⟩
                · have k3 : ((c2.toNat : Int) % 3 == 0) = false := bneI (by omega)
                  go_wp2_with fail
                  with_reducible refine (accept_yes p 0 1 1 0 (.slice none 0 0) D A 2 _ HSQ.out _ (by omega) (by omega)).mono ?_
                  rintro e w5 ⟨rfl, hS5, hg5⟩
                  have HS5 := Lib.hid hS5
                  have HB5 := Lib.hid (HBQ.out.grown hg5 HBQ.out.size (fun k hk => by have := Option.some.inj hk; omega))
                  clear hS5 hg5
                  have HS6 := Lib.hid HS5.out
                  have HB6 := Lib.hid HB5.out
                  go_wp2_with fail
                  with_reducible refine (link0_any p 0 1 1 0 D q 2 _ HS6.out).mono ?_
                  rintro e w7 ⟨rfl, hb7⟩
                  have HS7 := Lib.hid (HS6.out.below hb7)
                  have HB7 := Lib.hid (HB6.out.trans (hb7.mono HB6.out.size))
                  clear hb7
                  go_wp2_with fail
                  with_reducible refine (peerLife_any p 0 1 1 0 (.slice none 0 0) D q 2 _ ?_).mono ?_
                  · exact HS7.out.below ((Below.refl _ _).alloc (Nat.le_refl _) _)
                  rintro e w8 ⟨rfl, rfl⟩
                  go_wp2_with fail
                  exact ⟨⟨i + 1, q, D, 2, by omega, by omega, by omega, by omega, by omega, by go_num, by go_num, by go_num, HS7.out.below ((Below.refl _ _).alloc (Nat.le_refl _) _), HB7.out.alloc HB7.out.size _⟩, by simp [intOf]; omega⟩
              · go_wp2_with fail
                with_reducible refine (accept_yes p 0 1 1 0 (.slice none 0 0) D A 2 _ HSQ.out _ (by omega) (by omega)).mono ?_
                rintro e w5 ⟨rfl, hS5, hg5⟩
                have HS5 := Lib.hid hS5
                have HB5 := Lib.hid (HBQ.out.grown hg5 HBQ.out.size (fun k hk => by have := Option.some.inj hk; omega))
                clear hS5 hg5
                have hDq : D < q := by omega
                go_wp2_with fail
                with_reducible refine (done_yes p 0 1 1 0 (.slice none 0 0) D q 2 _ HS5.out _ (by omega) (by omega)).mono ?_
                rintro e w6 ⟨rfl, hS6, hg6⟩
                have HS6 := Lib.hid hS6
                have HB6 := Lib.hid (HB5.out.grown hg6 HB5.out.size (fun k hk => by have := Option.some.inj hk; omega))
                clear hS6 hg6
                go_wp2_with fail
                with_reducible refine (link0_any p 0 1 1 0 q q 2 _ HS6.out).mono ?_
                rintro e w7 ⟨rfl, hb7⟩
                have HS7 := Lib.hid (HS6.out.below hb7)
                have HB7 := Lib.hid (HB6.out.trans (hb7.mono HB6.out.size))
                clear hb7
                go_wp2_with fail
                with_reducible refine (peerLife_any p 0 1 1 0 (.slice none 0 0) q q 2 _ ?_).mono ?_
                · exact HS7.out.below ((Below.refl _ _).alloc (Nat.le_refl _) _)
                rintro e w8 ⟨rfl, rfl⟩
                go_wp2_with fail
                exact ⟨⟨i + 1, q, q, 2, by omega, by omega, by omega, by omega, by omega, by go_num, by go_num, by go_num, HS7.out.below ((Below.refl _ _).alloc (Nat.le_refl _) _), HB7.out.alloc HB7.out.size _⟩, by simp [intOf]; omega⟩
        · have hqb : ((UInt8.ofNat q).toNat : Int) = (q : Int) := by rw [UInt8.toNat_ofNat']; omega
          have hq' : (c.toNat : Int) % 8 = (q : Int) := by omega
          have k0 : ((q : Int) == 0) = false := bneI (by omega)
          have kA : ((q : Int) == (A : Int) + 1) = false := bneI (by omega)
          have hP : (⟨1, 2, q, 0, [UInt8.ofNat q]⟩ : By.Pk).right := by unfold By.Pk.right By.top; simp; omega
          have CP := Lib.hid (fun W (hr : Rd W (some ⟨wr.heap.size, 0, none⟩) [UInt8.ofNat q]) => packed_post 2 q 0 2 q 0 rfl rfl rfl (some ⟨wr.heap.size, 0, none⟩) 1 1 [UInt8.ofNat q] W rfl hr (fun h => by cases h) hP)
          have hrd1 : Rd (wr.alloc (.cells #[.int .u8 q] 5)) (some ⟨wr.heap.size, 0, none⟩) [UInt8.ofNat q] := rd_one wr q (UInt8.ofNat q) hqb
          have HRD1 := Lib.hid hrd1
          clear hrd1 hq
          go_wp2_with fail
          with_reducible refine (CP.out _ HRD1.out).mono ?_
          rintro e w3 ⟨b3, c3, rfl, ho3, hb3⟩
          have hb3' : Below wr.heap.size wr w3 := ((Below.refl wr.heap.size wr).alloc (Nat.le_refl _) _).trans (hb3.mono (by simp))
          have HS3 := Lib.hid (HSR.out.below hb3')
          have HB3 := Lib.hid (HBR.out.trans (hb3'.mono HBR.out.size))
          have HO3 := Lib.hid (ho3.mono (show p + 1 ≤ _ by simp; omega))
          clear ho3 hb3 hb3' CP HRD1
          go_wp2_with fail
          obtain ⟨wo, hwo⟩ : ∃ wo : World, wo = wr := ⟨_, rfl⟩
          subst hwo
          go_loopw [12] (fun kv wr => AgIn w p D A b3 c3 (By.pack ⟨1, 2, q, 0, [UInt8.ofNat q]⟩) kv wr) (fun k _ => 2 - (intOf k).toNat)
          case atStart => exact ⟨0, by omega, rfl, pl, hpl, (fun h => by omega), HS3.out, HB3.out, HO3.out⟩
          case round =>
            obtain ⟨k, hk, rfl, pl2, hpl2, hplk, hSk, hbk, hok⟩ := hrel
            have hrd := hok.rd1
            have HBk := Lib.hid hbk
            have HOk := Lib.hid hok
            have hpk := hSk.lt
            clear hbk hok
            by_cases hk2 : k < 2
            · go_wp2_with fail
              with_reducible refine (recv0_no p 0 1 0 D A pl2 ⟨1, 2, q, 0, [UInt8.ofNat q]⟩ b3 _ c3 wr hSk rfl hrd.1 hrd.2.1 hrd.2.2.1 hP rfl (by omega) (by simp) (by simp; omega) (by omega)).mono ?_
              rintro e w4 ⟨rfl, hS4, hg4⟩
              have HS4 := Lib.hid hS4
              have HB4 := Lib.hid (HBk.out.grown hg4 HBk.out.size (fun k hk => by have := Option.some.inj hk; omega))
              have HO4 := Lib.hid (own_kept HOk.out hg4 (fun k hk e => by have h1 := (HOk.out.lt k hk).1; have h2 := Option.some.inj e; omega))
              clear hS4 hg4 hSk hrd
              go_wp2_with fail
              exact ⟨⟨k + 1, by omega, by go_num, 2, by omega, fun _ => rfl, HS4.out.below ((Below.refl _ _).alloc (Nat.le_refl _) _), HB4.out.alloc HB4.out.size _, HO4.out.alloc _⟩, by simp [intOf]; omega⟩
            · obtain rfl : k = 2 := by omega
              obtain rfl := hplk (by omega)
              have HSQ := Lib.hid hSk
              have HBQ := Lib.hid HBk.out
              clear hSk hrd
              by_cases him : i < m
              · obtain ⟨b2, o2, rfl, c2, hc2⟩ := H2.out.at_ HBQ.out i him
                have hcb2 : c2.toNat < 256 := c2.toNat_lt
                by_cases h3 : c2.toNat % 3 = 0
                · have k3 : ((c2.toNat : Int) % 3 == 0) = true := beqI (by omega)
                  go_wp2_with fail
                  with_reducible refine (accept_no p 0 1 1 0 (.slice none 0 0) D A 2 _ HSQ.out _ (by omega) (by omega)).mono ?_
                  rintro e w5 ⟨rfl, hS5, hg5⟩
                  have HS5 := Lib.hid hS5
                  have HB5 := Lib.hid (HBQ.out.grown hg5 HBQ.out.size (fun k hk => by have := Option.some.inj hk; omega))
                  clear hS5 hg5
                  by_cases hDA : D < A
                  · have hDA2 : (D : Int) < (A : Int) := by omega
                    go_wp2_with fail
                    with_reducible refine (done_yes p 0 1 1 0 (.slice none 0 0) D A 2 _ HS5.out _ (by omega) (by omega)).mono ?_
                    rintro e w6 ⟨rfl, hS6, hg6⟩
                    have HS6 := Lib.hid hS6
                    have HB6 := Lib.hid (HB5.out.grown hg6 HB5.out.size (fun k hk => by have := Option.some.inj hk; omega))
                    clear hS6 hg6
                    go_wp2_with fail
                    with_reducible refine (link0_any p 0 1 1 0 A A 2 _ HS6.out).mono ?_
                    rintro e w7 ⟨rfl, hb7⟩
                    have HS7 := Lib.hid (HS6.out.below hb7)
                    have HB7 := Lib.hid (HB6.out.trans (hb7.mono HB6.out.size))
                    clear hb7
                    go_wp2_with fail
                    with_reducible refine (peerLife_any p 0 1 1 0 (.slice none 0 0) A A 2 _ ?_).mono ?_
                    · exact HS7.out.below ((Below.refl _ _).alloc (Nat.le_refl _) _)
                    rintro e w8 ⟨rfl, rfl⟩
                    go_wp2_with fail
                    exact ⟨⟨i + 1, A, A, 2, by omega, by omega, by omega, by omega, by omega, by go_num, by go_num, by go_num, HS7.out.below ((Below.refl _ _).alloc (Nat.le_refl _) _), HB7.out.alloc HB7.out.size _⟩, by simp [intOf]; omega⟩
                  · obtain rfl : D = A := by omega
                    go_wp2_with fail
                    with_reducible refine (done_no p 0 1 1 0 (.slice none 0 0) D D 2 _ HS5.out _ (by omega)).mono ?_
                    rintro e w6 ⟨rfl, hS6, hg6⟩
                    have HS6 := Lib.hid hS6
                    have HB6 := Lib.hid (HB5.out.grown hg6 HB5.out.size (fun k hk => by have := Option.some.inj hk; omega))
                    clear hS6 hg6
                    go_wp2_with fail
                    with_reducible refine (link0_any p 0 1 1 0 D D 2 _ HS6.out).mono ?_
                    rintro e w7 ⟨rfl, hb7⟩
                    have HS7 := Lib.hid (HS6.out.below hb7)
                    have HB7 := Lib.hid (HB6.out.trans (hb7.mono HB6.out.size))
                    clear hb7
                    go_wp2_with fail
                    with_reducible refine (peerLife_any p 0 1 1 0 (.slice none 0 0) D D 2 _ ?_).mono ?_
                    · exact HS7.out.below ((Below.refl _ _).alloc (Nat.le_refl _) _)
                    rintro e w8 ⟨rfl, rfl⟩
                    go_wp2_with fail
                    exact ⟨⟨i + 1, D, D, 2, by omega, by omega, by omega, by omega, by omega, by go_num, by go_num, by go_num, HS7.out.below ((Below.refl _ _).alloc (Nat.le_refl _) _), HB7.out.alloc HB7.out.size _⟩, by simp [intOf]; omega⟩
                · have k3 : ((c2.toNat : Int) % 3 == 0) = false := bneI (by omega)
                  go_wp2_with fail
                  with_reducible refine (accept_no p 0 1 1 0 (.slice none 0 0) D A 2 _ HSQ.out _ (by omega) (by omega)).mono ?_
                  rintro e w5 ⟨rfl, hS5, hg5⟩
                  have HS5 := Lib.hid hS5
                  have HB5 := Lib.hid (HBQ.out.grown hg5 HBQ.out.size (fun k hk => by have := Option.some.inj hk; omega))
                  clear hS5 hg5
                  have HS6 := Lib.hid HS5.out
                  have HB6 := Lib.hid HB5.out
                  go_wp2_with fail
                  with_reducible refine (link0_any p 0 1 1 0 D A 2 _ HS6.out).mono ?_
                  rintro e w7 ⟨rfl, hb7⟩
                  have HS7 := Lib.hid (HS6.out.below hb7)
                  have HB7 := Lib.hid (HB6.out.trans (hb7.mono HB6.out.size))
                  clear hb7
                  go_wp2_with fail
                  with_reducible refine (peerLife_any p 0 1 1 0 (.slice none 0 0) D A 2 _ ?_).mono ?_
                  · exact HS7.out.below ((Below.refl _ _).alloc (Nat.le_refl _) _)
                  rintro e w8 ⟨rfl, rfl⟩
                  go_wp2_with fail
                  exact ⟨⟨i + 1, A, D, 2, by omega, by omega, by omega, by omega, by omega, by go_num, by go_num, by go_num, HS7.out.below ((Below.refl _ _).alloc (Nat.le_refl _) _), HB7.out.alloc HB7.out.size _⟩, by simp [intOf]; omega⟩
              · go_wp2_with fail
                with_reducible refine (accept_no p 0 1 1 0 (.slice none 0 0) D A 2 _ HSQ.out _ (by omega) (by omega)).mono ?_
                rintro e w5 ⟨rfl, hS5, hg5⟩
                have HS5 := Lib.hid hS5
                have HB5 := Lib.hid (HBQ.out.grown hg5 HBQ.out.size (fun k hk => by have := Option.some.inj hk; omega))
                clear hS5 hg5
                by_cases hDA : D < A
                · have hDA2 : (D : Int) < (A : Int) := by omega
                  go_wp2_with fail
                  with_reducible refine (done_yes p 0 1 1 0 (.slice none 0 0) D A 2 _ HS5.out _ (by omega) (by omega)).mono ?_
                  rintro e w6 ⟨rfl, hS6, hg6⟩
                  have HS6 := Lib.hid hS6
                  have HB6 := Lib.hid (HB5.out.grown hg6 HB5.out.size (fun k hk => by have := Option.some.inj hk; omega))
                  clear hS6 hg6
                  go_wp2_with fail
                  with_reducible refine (link0_any p 0 1 1 0 A A 2 _ HS6.out).mono ?_
                  rintro e w7 ⟨rfl, hb7⟩
                  have HS7 := Lib.hid (HS6.out.below hb7)
                  have HB7 := Lib.hid (HB6.out.trans (hb7.mono HB6.out.size))
                  clear hb7
                  go_wp2_with fail
                  with_reducible refine (peerLife_any p 0 1 1 0 (.slice none 0 0) A A 2 _ ?_).mono ?_
                  · exact HS7.out.below ((Below.refl _ _).alloc (Nat.le_refl _) _)
                  rintro e w8 ⟨rfl, rfl⟩
                  go_wp2_with fail
                  exact ⟨⟨i + 1, A, A, 2, by omega, by omega, by omega, by omega, by omega, by go_num, by go_num, by go_num, HS7.out.below ((Below.refl _ _).alloc (Nat.le_refl _) _), HB7.out.alloc HB7.out.size _⟩, by simp [intOf]; omega⟩
                · obtain rfl : D = A := by omega
                  go_wp2_with fail
                  with_reducible refine (done_no p 0 1 1 0 (.slice none 0 0) D D 2 _ HS5.out _ (by omega)).mono ?_
                  rintro e w6 ⟨rfl, hS6, hg6⟩
                  have HS6 := Lib.hid hS6
                  have HB6 := Lib.hid (HB5.out.grown hg6 HB5.out.size (fun k hk => by have := Option.some.inj hk; omega))
                  clear hS6 hg6
                  go_wp2_with fail
                  with_reducible refine (link0_any p 0 1 1 0 D D 2 _ HS6.out).mono ?_
                  rintro e w7 ⟨rfl, hb7⟩
                  have HS7 := Lib.hid (HS6.out.below hb7)
                  have HB7 := Lib.hid (HB6.out.trans (hb7.mono HB6.out.size))
                  clear hb7
                  go_wp2_with fail
                  with_reducible refine (peerLife_any p 0 1 1 0 (.slice none 0 0) D D 2 _ ?_).mono ?_
                  · exact HS7.out.below ((Below.refl _ _).alloc (Nat.le_refl _) _)
                  rintro e w8 ⟨rfl, rfl⟩
                  go_wp2_with fail
                  exact ⟨⟨i + 1, D, D, 2, by omega, by omega, by omega, by omega, by omega, by go_num, by go_num, by go_num, HS7.out.below ((Below.refl _ _).alloc (Nat.le_refl _) _), HB7.out.alloc HB7.out.size _⟩, by simp [intOf]; omega⟩
    · have hx : (i < n ∧ ¬ i < 40) ∨ ¬ i < n := by omega
      clear hlt
      rcases hx with ⟨x1, x2⟩ | x1
      all_goals
        go_wp2_with fail
        with_reducible refine (AW.out _).mono ?_
        rintro e w5 ⟨rfl, hb5⟩
        have HB5 := Lib.hid (HBR.out.trans (hb5.mono HBR.out.size))
        clear hb5
        go_wp2
        go_ret
        exact ⟨rfl, HB5.out⟩
end Go.Proofs.Ytndfelbgppbncaa
