/- package session: Receive where nothing waits, by contract. -/
import Derived.Test.YtndfelbgppbncaaSThree
set_option linter.unusedVariables false
namespace Go.Proofs.Ytndfelbgppbncaa
open Go.RowKit
/-- what holds where a packet was taken -/
structure Rcv (w W : World) (p q : Nat) (me life last done acc pl : Int) (A : Array Value) (b1 : Option Addr) (c1 : Nat) (d : List UInt8) : Prop where
  se : Se W p me 1 life last (.slice none 0 0) done acc pl
  pk : Blk W q A 34
  res : Blk W w.heap.size #[.int .i64 0, .slice none 0 0] 27
  own : Ow W (w.heap.size + 1) (.slice b1 d.length c1) d
  grown : w.grownBy W (some p)
theorem recv_facts {w w1 : World} {p N : Nat} {me life last done acc pl : Int} {A : Array Value} {b1 : Option Addr} {c1 : Nat} {d : List UInt8} {pl' : Int} (hS : Se w1 p me 1 life last (.slice none 0 0) done acc pl) (hR : Blk w1 w.heap.size #[.int .i64 0, .slice none 0 0] 27)
    (hO : Ow w1 (w.alloc (.cells #[.int .i64 0, .slice none 0 0] 27)).heap.size (.slice b1 d.length c1) d) (hB : Below w.heap.size w w1) (hlt : p < w.heap.size) :
    Rcv w ((((w1.alloc (.cells A 34)).drewN N).setCell ⟨p, 8, none⟩ (.int .i64 pl')).setCell ⟨p, 5, none⟩ (.slice none 0 0)) p w1.heap.size me life last done acc pl' A b1 c1 d := by
  have hb : Below w1.heap.size w1 ((w1.alloc (.cells A 34)).drewN N) := belowN ((Below.refl _ _).alloc (Nat.le_refl _) _) N
  have hg : ((w1.alloc (.cells A 34)).drewN N).grownBy ((((w1.alloc (.cells A 34)).drewN N).setCell ⟨p, 8, none⟩ (.int .i64 pl')).setCell ⟨p, 5, none⟩ (.slice none 0 0)) (some p) := grown_set (grown_set (grown_refl _ _) _ _) _ _
  have hp1 := hS.lt
  have hr1 := hR.lt
  have hO' : Ow w1 (w.heap.size + 1) (.slice b1 d.length c1) d := hO.mono (by simp)
  refine ⟨((hS.below hb).set 8 _).set 5 _, ((Blk.new w1 A _).below (belowN (Below.refl _ _) N)).kept hg (fun e => by have := Option.some.inj e; omega), (hR.below hb).kept hg (fun e => by have := Option.some.inj e; omega), own_kept (own_below hO' hb) hg (fun k hk e => by have h1 := (hO'.lt k hk).1; have h2 := Option.some.inj e; omega), below_grown (hB.trans (hb.mono hB.size)) hg⟩
theorem Rcv.fin {w W : World} {p q : Nat} {me life last done acc pl : Int} {A : Array Value} {b1 : Option Addr} {c1 : Nat} {d : List UInt8} (h : Rcv w W p q me life last done acc pl A b1 c1 d) (hp : p < w.heap.size := by assumption) (n : Nat) (u0 u1 : Value) :
    Ow (((W.drewN n).setCell ⟨w.heap.size, 0, none⟩ u0).setCell ⟨w.heap.size, 1, none⟩ u1) w.heap.size (.slice b1 d.length c1) d ∧ Se (((W.drewN n).setCell ⟨w.heap.size, 0, none⟩ u0).setCell ⟨w.heap.size, 1, none⟩ u1) p me 1 life last (.slice none 0 0) done acc pl ∧ w.grownBy (((W.drewN n).setCell ⟨w.heap.size, 0, none⟩ u0).setCell ⟨w.heap.size, 1, none⟩ u1) (some p) := by
  have hb : Below W.heap.size W (W.drewN n) := belowN (Below.refl _ _) n
  have hg : (W.drewN n).grownBy (((W.drewN n).setCell ⟨w.heap.size, 0, none⟩ u0).setCell ⟨w.heap.size, 1, none⟩ u1) (some w.heap.size) := grown_set (grown_set (grown_refl _ _) _ _) _ _
  refine ⟨own_kept (own_below (h.own.mono (Nat.le_succ _)) hb) hg (fun k hk e => by have h1 := (h.own.lt k hk).1; have h2 := Option.some.inj e; omega), (h.se.below hb).kept hg (fun e => by have := Option.some.inj e; omega), ?_⟩
  have h1 := grown_below h.grown hb
  exact ⟨hg.os.trans h1.os, hg.tape.trans h1.tape, hg.output.trans h1.output, Nat.le_trans h1.size hg.size, fun k hk hne => by rw [hg.block k (Nat.lt_of_lt_of_le hk h1.size) (fun e => by have := Option.some.inj e; omega), h1.block k hk hne]⟩
def RecvYes (p : Nat) (me peer life last done acc pl seq : Int) (d : List UInt8) (w : World) (e : Ending) (w' : World) : Prop := ∃ v', e = .returned (.tuple #[.agg #[.int .i64 seq, v'], .bool true, .int .i64 0]) ∧ Ow w' w.heap.size v' d ∧ Se w' p me peer life last (.slice none 0 0) done acc pl ∧ w.grownBy w' (some p)
def RecvNo (p : Nat) (me peer life last done acc pl : Int) (w : World) (e : Ending) (w' : World) : Prop := e = .returned (.tuple #[.agg #[.int .i64 0, .slice none 0 0], .bool false, .int .i64 0]) ∧ Se w' p me peer life last (.slice none 0 0) done acc pl ∧ w.grownBy w' (some p)
set_option maxHeartbeats 1600000 in
set_option maxRecDepth 100000 in
theorem recv0_yes (p : Nat) (me life last done acc pl : Int) (P : By.Pk) (ba : Option Addr) (n cap : Nat) (w : World) (h : Se w p me 1 life last (.slice none 0 0) done acc pl)
    (hn : (By.pack P).length = n) (hr : Rd w ba (By.pack P)) (hb : ba = none → n = 0) (hc : n ≤ cap) (hp : P.right) (hfr : P.fr = 1) (hlife : pl ≤ P.life) (hack : (P.ack : Int) ≤ last) (hseq : (P.seq : Int) = acc + 1) (hacc : 0 ≤ acc ∧ acc ≤ 4611686018427387904) :
    Calls Try.prog 13 #[.pointer (some ⟨p, 0, none⟩), .slice ba n cap] w (RecvYes p me 1 life last done acc P.life P.seq P.data w) := by
  have hb1 : Below w.heap.size w (w.alloc (.cells #[.int .i64 0, .slice none 0 0] 27)) := (Below.refl _ _).alloc (Nat.le_refl _) _
  have h2 := h.below hb1
  have CN := Lib.hid (none_any p me 1 life last (.slice none 0 0) done acc pl _ h2)
  have CU : Hid (Calls Try.prog 30 #[.slice ba n cap] (w.alloc (.cells #[.int .i64 0, .slice none 0 0] 27)) (UnpPost 1 P.life P.seq P.ack P.data 0 (w.alloc (.cells #[.int .i64 0, .slice none 0 0] 27)))) := Lib.hid (by
    have := unpack_packed ba n cap P (w.alloc (.cells #[.int .i64 0, .slice none 0 0] 27)) hp hn (hr.below hb1) hb hc
    rw [hfr] at this; exact this)
  have CD := Lib.hid (fun f w => deleteFunc0_any f 0 w)
  have HS := Lib.hid h2
  have hlt := h.lt
  obtain ⟨a1, a2⟩ := hacc
  obtain ⟨fr, lf, sq, ak, d⟩ := P
  simp only at hfr hlife hack hseq CU ⊢
  subst hfr
  have HSQ := Lib.hid hseq
  clear h h2 hb1 hn hr hb hp hseq
  go_enter Try.func13, Try.ntmps13
  go_wp2_with fail
  with_reducible refine (CN.out).mono ?_
  rintro e w1 ⟨rfl, rfl⟩
  go_wp2_with fail
  with_reducible refine (CU.out).mono ?_
  rintro e w1 ⟨v1, rfl, ho1, hb1⟩
  obtain ⟨b1, c1, rfl, _, _, _⟩ := ho1.rd
  obtain ⟨q1, q2, q3⟩ := cells_one hb1
  have hres := ((Blk.new w #[.int .i64 0, .slice none 0 0] 27).below hb1)
  have hrf := fun o => hres.free o
  have hS1 := HS.out.below hb1
  have s2 := hS1.cell 2
  have s4 := hS1.cell 4
  have s5 := hS1.cell 5
  have s7 := hS1.cell 7
  have s8 := hS1.cell 8
  have sf := fun o => hS1.free o
  have sl := hS1.lt
  have HS1 := Lib.hid hS1
  have HO1 := Lib.hid ho1
  have HB1 := Lib.hid q3
  have HR1 := Lib.hid hres
  clear ho1 hb1 q3 hres hS1
  have i1 : decide ((lf : Int) < pl) = false := by simp; omega
  have i2 : decide (last < (ak : Int)) = false := by simp; omega
  have i3 : ((sq : Int) != acc + 1) = false := by rw [HSQ.out]; simp
  have i4 : IntKind.i64.wrap (acc + 1) = acc + 1 := IntWalk.i64_in _ (by omega)
  go_wp2_with fail
  go_quiet (fail)
  rename Nat => k1
  go_wp2_with fail
  go_quiet (fail)
  rename Nat => k2
  go_wp2_with fail
  go_quiet (fail)
  rename Nat => k3
  go_wp2_with fail
  with_reducible refine (CD.out _ _).mono ?_
  rintro e w2 ⟨rfl, rfl⟩
  go_wp2_with fail
  have hrcv := recv_facts (w := w) (w1 := w1) (p := p) (N := k1 + k2 + k3) (pl' := lf) HS1.out HR1.out HO1.out HB1.out hlt (A := #[.int .i64 1, .int .i64 lf, .int .i64 sq, .int .i64 ak, .slice b1 d.length c1])
  clear HS1 HO1 HB1 HR1 q1 q2 hrf s2 s4 s5 s7 s8 sf sl
  generalize (((w1.alloc (.cells #[.int .i64 1, .int .i64 lf, .int .i64 sq, .int .i64 ak, .slice b1 d.length c1] 34)).drewN (k1 + k2 + k3)).setCell ⟨p, 8, none⟩ (.int .i64 lf)).setCell ⟨p, 5, none⟩ (.slice none 0 0) = W at hrcv ⊢
  generalize w1.heap.size = q at hrcv ⊢
  have r7 := hrcv.se.cell 7
  have rl := hrcv.se.lt
  have t0 := hrcv.pk.cell 0
  have t1 := hrcv.pk.cell 1
  have t2 := hrcv.pk.cell 2
  have t3 := hrcv.pk.cell 3
  have t4 := hrcv.pk.cell 4
  have tl := hrcv.pk.lt
  have z0 := hrcv.res.cell 0
  have z1 := hrcv.res.cell 1
  have zf := fun o => hrcv.res.free o
  have zl := hrcv.res.lt
  have HRF := Lib.hid hrcv
  clear hrcv
  go_quiet (fail)
  have RG := HRF.out.fin hlt nq (.int .i64 sq) (.slice b1 d.length c1)
  have HRG := Lib.hid RG
  clear RG
  go_wp2
  exact bodyPost_ret (v := .tuple #[.agg #[.int .i64 sq, .slice b1 d.length c1], .bool true, .int .i64 0]) (by unfold results; rw [Try.results13]; go_simp) rfl ⟨_, rfl, HRG.out.1, HRG.out.2.1, HRG.out.2.2⟩
set_option maxHeartbeats 1600000 in
set_option maxRecDepth 100000 in
theorem recv0_no (p : Nat) (me life last done acc pl : Int) (P : By.Pk) (ba : Option Addr) (n cap : Nat) (w : World) (h : Se w p me 1 life last (.slice none 0 0) done acc pl)
    (hn : (By.pack P).length = n) (hr : Rd w ba (By.pack P)) (hb : ba = none → n = 0) (hc : n ≤ cap) (hp : P.right) (hfr : P.fr = 1) (hlife : pl ≤ P.life) (hack : (P.ack : Int) ≤ last) (hseq : (P.seq : Int) ≠ acc + 1) (hacc : 0 ≤ acc ∧ acc ≤ 4611686018427387904) :
    Calls Try.prog 13 #[.pointer (some ⟨p, 0, none⟩), .slice ba n cap] w (RecvNo p me 1 life last done acc P.life w) := by
  have hb1 : Below w.heap.size w (w.alloc (.cells #[.int .i64 0, .slice none 0 0] 27)) := (Below.refl _ _).alloc (Nat.le_refl _) _
  have h2 := h.below hb1
  have CN := Lib.hid (none_any p me 1 life last (.slice none 0 0) done acc pl _ h2)
  have CU : Hid (Calls Try.prog 30 #[.slice ba n cap] (w.alloc (.cells #[.int .i64 0, .slice none 0 0] 27)) (UnpPost 1 P.life P.seq P.ack P.data 0 (w.alloc (.cells #[.int .i64 0, .slice none 0 0] 27)))) := Lib.hid (by
    have := unpack_packed ba n cap P (w.alloc (.cells #[.int .i64 0, .slice none 0 0] 27)) hp hn (hr.below hb1) hb hc
    rw [hfr] at this; exact this)
  have CD := Lib.hid (fun f w => deleteFunc0_any f 0 w)
  have HS := Lib.hid h2
  have hlt := h.lt
  obtain ⟨a1, a2⟩ := hacc
  obtain ⟨fr, lf, sq, ak, d⟩ := P
  simp only at hfr hlife hack hseq CU ⊢
  subst hfr
  have HSQ := Lib.hid hseq
  clear h h2 hb1 hn hr hb hp hseq
  go_enter Try.func13, Try.ntmps13
  go_wp2_with fail
  with_reducible refine (CN.out).mono ?_
  rintro e w1 ⟨rfl, rfl⟩
  go_wp2_with fail
  with_reducible refine (CU.out).mono ?_
  rintro e w1 ⟨v1, rfl, ho1, hb1⟩
  obtain ⟨b1, c1, rfl, _, _, _⟩ := ho1.rd
  obtain ⟨q1, q2, q3⟩ := cells_one hb1
  have hres := ((Blk.new w #[.int .i64 0, .slice none 0 0] 27).below hb1)
  have hrf := fun o => hres.free o
  have hS1 := HS.out.below hb1
  have s2 := hS1.cell 2
  have s4 := hS1.cell 4
  have s5 := hS1.cell 5
  have s7 := hS1.cell 7
  have s8 := hS1.cell 8
  have sf := fun o => hS1.free o
  have sl := hS1.lt
  have HS1 := Lib.hid hS1
  have HO1 := Lib.hid ho1
  have HB1 := Lib.hid q3
  have HR1 := Lib.hid hres
  clear ho1 hb1 q3 hres hS1
  have i1 : decide ((lf : Int) < pl) = false := by simp; omega
  have i2 : decide (last < (ak : Int)) = false := by simp; omega
  have i3 : ((sq : Int) != acc + 1) = true := by rw [bne_iff_ne]; exact HSQ.out
  have i4 : IntKind.i64.wrap (acc + 1) = acc + 1 := IntWalk.i64_in _ (by omega)
  go_wp2_with fail
  go_quiet (fail)
  rename Nat => k1
  go_wp2_with fail
  go_quiet (fail)
  rename Nat => k2
  go_wp2_with fail
  go_quiet (fail)
  rename Nat => k3
  go_wp2_with fail
  with_reducible refine (CD.out _ _).mono ?_
  rintro e w2 ⟨rfl, rfl⟩
  go_wp2_with fail
  have hrcv := recv_facts (w := w) (w1 := w1) (p := p) (N := k1 + k2 + k3) (pl' := lf) HS1.out HR1.out HO1.out HB1.out hlt (A := #[.int .i64 1, .int .i64 lf, .int .i64 sq, .int .i64 ak, .slice b1 d.length c1])
  clear HS1 HO1 HB1 HR1 q1 q2 hrf s2 s4 s5 s7 s8 sf sl
  generalize (((w1.alloc (.cells #[.int .i64 1, .int .i64 lf, .int .i64 sq, .int .i64 ak, .slice b1 d.length c1] 34)).drewN (k1 + k2 + k3)).setCell ⟨p, 8, none⟩ (.int .i64 lf)).setCell ⟨p, 5, none⟩ (.slice none 0 0) = W at hrcv ⊢
  generalize w1.heap.size = q at hrcv ⊢
  have r7 := hrcv.se.cell 7
  have rl := hrcv.se.lt
  have t0 := hrcv.pk.cell 0
  have t1 := hrcv.pk.cell 1
  have t2 := hrcv.pk.cell 2
  have t3 := hrcv.pk.cell 3
  have t4 := hrcv.pk.cell 4
  have tl := hrcv.pk.lt
  have z0 := hrcv.res.cell 0
  have z1 := hrcv.res.cell 1
  have zf := fun o => hrcv.res.free o
  have zl := hrcv.res.lt
  have HRF := Lib.hid hrcv
  clear hrcv
  go_quiet (fail)
  have RG := HRF.out.fin hlt nq (.int .i64 0) (.slice none 0 0)
  have HRG := Lib.hid RG
  clear RG
  go_wp2
  exact bodyPost_ret (v := .tuple #[.agg #[.int .i64 0, .slice none 0 0], .bool false, .int .i64 0]) (by unfold results; rw [Try.results13]; go_simp) rfl ⟨rfl, HRG.out.2.1, HRG.out.2.2⟩
end Go.Proofs.Ytndfelbgppbncaa
