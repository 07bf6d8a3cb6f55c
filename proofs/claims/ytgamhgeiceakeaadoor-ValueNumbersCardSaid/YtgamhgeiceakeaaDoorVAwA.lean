/- droverlaw02: makers, is, wrong, right, by contract. -/
import Derived.Test.YtgamhgeiceakeaaDoorVShowC
import Derived.Test.YtgamhgeiceakeaaDoorVPutb
set_option linter.unusedVariables false
set_option linter.unusedSimpArgs false
namespace Go.Proofs.YtgamhgeiceakeaaDoor
open Go.RowKit
open Va (V)
def MkPost (x : Value) (w : World) (e : Ending) (w' : World) : Prop := e = .returned x ∧ Below w.heap.size w w'
abbrev vz : Array Value := #[.int .u8 0, .int .i64 0, .string ⟨#[]⟩, .slice none 0 0]
theorem put4_below {w W : World} (hb : Below w.heap.size w W) (q : Nat) (hq : w.heap.size ≤ q) (a b c d : Value) : Below w.heap.size w ((((W.setCell ⟨q, 0, none⟩ a).setCell ⟨q, 1, none⟩ b).setCell ⟨q, 2, none⟩ c).setCell ⟨q, 3, none⟩ d) :=
  (((hb.setCell hq _).setCell hq _).setCell hq _).setCell hq _
set_option maxHeartbeats 800000 in
theorem num_any (n : Int) (w : World) : Calls Tryd.prog 29 #[.int .i64 n] w (MkPost (.agg #[.int .u8 1, .int .i64 n, .string ⟨#[]⟩, .slice none 0 0]) w) := by
  have hal : Below w.heap.size w (w.alloc (.cells #[.int .u8 0, .int .i64 0, .string ⟨#[]⟩, .slice none 0 0] 25)) := (Below.refl _ _).alloc (Nat.le_refl _) _
  have HA := Lib.hid hal
  clear hal
  go_enter Tryd.func29, Tryd.ntmps29
  go_wp2
  have QF := ((((Blk.new w #[.int .u8 0, .int .i64 0, .string ⟨#[]⟩, .slice none 0 0] 25).set 0 (.int .u8 0)).set 1 (.int .i64 0)).set 2 (.string ⟨#[]⟩)).set 3 (.slice none 0 0)
  have QN := Blk.new w #[.int .u8 1, .int .i64 n, .string ⟨#[]⟩, .slice none 0 0] 25
  (try simp only [Exit.inBlock, Exit.then])
  refine bodyPost_ret (results_cell_row rfl _ _ w.heap.size 25 _ (0, 0) _ rfl QN Tryd.underlying25 rfl (by kernel_rfl)) rfl ?_
  exact ⟨rfl, (Below.refl _ _).alloc (Nat.le_refl _) _⟩
set_option maxHeartbeats 800000 in
theorem truth_any (n : Int) (w : World) : Calls Tryd.prog 21 #[.int .i64 n] w (MkPost (.agg #[.int .u8 2, .int .i64 n, .string ⟨#[]⟩, .slice none 0 0]) w) := by
  have hal : Below w.heap.size w (w.alloc (.cells #[.int .u8 0, .int .i64 0, .string ⟨#[]⟩, .slice none 0 0] 25)) := (Below.refl _ _).alloc (Nat.le_refl _) _
  have HA := Lib.hid hal
  clear hal
  go_enter Tryd.func21, Tryd.ntmps21
  go_wp2
  have QF := ((((Blk.new w #[.int .u8 0, .int .i64 0, .string ⟨#[]⟩, .slice none 0 0] 25).set 0 (.int .u8 0)).set 1 (.int .i64 0)).set 2 (.string ⟨#[]⟩)).set 3 (.slice none 0 0)
  have QN := Blk.new w #[.int .u8 2, .int .i64 n, .string ⟨#[]⟩, .slice none 0 0] 25
  (try simp only [Exit.inBlock, Exit.then])
  refine bodyPost_ret (results_cell_row rfl _ _ w.heap.size 25 _ (0, 0) _ rfl QN Tryd.underlying25 rfl (by kernel_rfl)) rfl ?_
  exact ⟨rfl, (Below.refl _ _).alloc (Nat.le_refl _) _⟩
set_option maxHeartbeats 800000 in
theorem actor_any (n : Int) (w : World) : Calls Tryd.prog 22 #[.int .i64 n] w (MkPost (.agg #[.int .u8 5, .int .i64 n, .string ⟨#[]⟩, .slice none 0 0]) w) := by
  have hal : Below w.heap.size w (w.alloc (.cells #[.int .u8 0, .int .i64 0, .string ⟨#[]⟩, .slice none 0 0] 25)) := (Below.refl _ _).alloc (Nat.le_refl _) _
  have HA := Lib.hid hal
  clear hal
  go_enter Tryd.func22, Tryd.ntmps22
  go_wp2
  have QF := ((((Blk.new w #[.int .u8 0, .int .i64 0, .string ⟨#[]⟩, .slice none 0 0] 25).set 0 (.int .u8 0)).set 1 (.int .i64 0)).set 2 (.string ⟨#[]⟩)).set 3 (.slice none 0 0)
  have QN := Blk.new w #[.int .u8 5, .int .i64 n, .string ⟨#[]⟩, .slice none 0 0] 25
  (try simp only [Exit.inBlock, Exit.then])
  refine bodyPost_ret (results_cell_row rfl _ _ w.heap.size 25 _ (0, 0) _ rfl QN Tryd.underlying25 rfl (by kernel_rfl)) rfl ?_
  exact ⟨rfl, (Below.refl _ _).alloc (Nat.le_refl _) _⟩
set_option maxHeartbeats 800000 in
theorem text_any (s : ByteArray) (w : World) : Calls Tryd.prog 27 #[.string s] w (MkPost (.agg #[.int .u8 3, .int .i64 0, .string s, .slice none 0 0]) w) := by
  have hal : Below w.heap.size w (w.alloc (.cells #[.int .u8 0, .int .i64 0, .string ⟨#[]⟩, .slice none 0 0] 25)) := (Below.refl _ _).alloc (Nat.le_refl _) _
  have HA := Lib.hid hal
  clear hal
  go_enter Tryd.func27, Tryd.ntmps27
  go_wp2
  have QF := ((((Blk.new w #[.int .u8 0, .int .i64 0, .string ⟨#[]⟩, .slice none 0 0] 25).set 0 (.int .u8 0)).set 1 (.int .i64 0)).set 2 (.string ⟨#[]⟩)).set 3 (.slice none 0 0)
  have QN := Blk.new w #[.int .u8 3, .int .i64 0, .string s, .slice none 0 0] 25
  (try simp only [Exit.inBlock, Exit.then])
  refine bodyPost_ret (results_cell_row rfl _ _ w.heap.size 25 _ (0, 0) _ rfl QN Tryd.underlying25 rfl (by kernel_rfl)) rfl ?_
  exact ⟨rfl, (Below.refl _ _).alloc (Nat.le_refl _) _⟩
set_option maxHeartbeats 800000 in
theorem tuple_any (a : Option Addr) (n c : Nat) (w : World) : Calls Tryd.prog 24 #[.slice a n c] w (MkPost (.agg #[.int .u8 4, .int .i64 0, .string ⟨#[]⟩, .slice a n c]) w) := by
  have hal : Below w.heap.size w (w.alloc (.cells #[.int .u8 0, .int .i64 0, .string ⟨#[]⟩, .slice none 0 0] 25)) := (Below.refl _ _).alloc (Nat.le_refl _) _
  have HA := Lib.hid hal
  clear hal
  go_enter Tryd.func24, Tryd.ntmps24
  go_wp2
  have QF := ((((Blk.new w #[.int .u8 0, .int .i64 0, .string ⟨#[]⟩, .slice none 0 0] 25).set 0 (.int .u8 0)).set 1 (.int .i64 0)).set 2 (.string ⟨#[]⟩)).set 3 (.slice none 0 0)
  have QN := Blk.new w #[.int .u8 4, .int .i64 0, .string ⟨#[]⟩, .slice a n c] 25
  (try simp only [Exit.inBlock, Exit.then])
  refine bodyPost_ret (results_cell_row rfl _ _ w.heap.size 25 _ (0, 0) _ rfl QN Tryd.underlying25 rfl (by kernel_rfl)) rfl ?_
  exact ⟨rfl, (Below.refl _ _).alloc (Nat.le_refl _) _⟩
theorem rv_leaf {ok : Nat → Prop} (w : World) (k : Nat) (n : Int) (s : ByteArray) (hk : k < 256) (hn : Va.I64 n) (hs : s.size ≤ maxLen) : RV ok w (.mk k n s []) (.agg #[.int .u8 k, .int .i64 n, .string s, .slice none 0 0]) :=
  RV.mk' (l := []) (ba := none) (cap := 0) hk hn hs ⟨by simp, by simp [maxLen], fun _ => rfl, fun i hi => by simp at hi⟩
/- wrong, where Get refuses -/
set_option maxHeartbeats 1600000 in
set_option maxRecDepth 100000 in
theorem wrong_any (b : Nat) (n cap : Nat) (l : List UInt8) (er : Nat) (w : World) (hn : l.length = n) (hr : Rd w (some ⟨b, 0, none⟩) l) (hmx : n ≤ 1099511627776) (hnc : n ≤ cap) (hg : Va.get l 0 = .error er) :
    Calls Tryd.prog 30 #[.int .i64 er, .slice (some ⟨b, 0, none⟩) n cap] w (BB true w) := by
  have C0 := get_in n cap (some ⟨b, 0, none⟩) l 0 w hn hr hmx (fun e => by cases e) hnc (Nat.zero_le _)
  rw [hg] at C0
  have C := Lib.hid (show Calls Tryd.prog 11 #[.slice (some ⟨b, 0, none⟩) n cap, .int .i64 0] w _ from C0)
  clear C0 hg hr hn
  go_enter Tryd.func30, Tryd.ntmps30
  go_wp2_with fail
  with_reducible refine (C.out).mono ?_
  rintro e w1 ⟨rfl, hne, hb⟩
  have F := Blk.new w1 #[.int .u8 0, .int .i64 0, .string ⟨#[]⟩, .slice none 0 0] 25
  have HB2 := Lib.hid (hb.trans (((Below.refl w1.heap.size w1).alloc (Nat.le_refl _) (.cells #[.int .u8 0, .int .i64 0, .string ⟨#[]⟩, .slice none 0 0] 25)).mono hb.size))
  have d0 := F.cell 0
  have d3 := F.cell 3
  have dlt := F.lt
  clear hb F C
  go_wp2
  go_ret
  exact ⟨rfl, HB2.out⟩
set_option maxHeartbeats 800000 in
theorem sameBytes_any (ba bb : Option Addr) (n m ca cb : Nat) (l r : List UInt8) (w : World) (hn : l.length = n) (hr : Rd w ba l) (hb : ba = none → n = 0) (hn' : r.length = m) (hr' : Rd w bb r) (hb' : bb = none → m = 0) :
    Calls Tryd.prog 14 #[.slice ba n ca, .slice bb m cb] w fun e w' => e = .returned (.bool (l == r)) ∧ w = w' := by
  have k1 := conv_rd (cap := ca) hn hr hb
  have k2 := conv_rd (cap := cb) hn' hr' hb'
  clear hn hr hb hn' hr' hb'
  go_enter Tryd.func14, Tryd.ntmps14
  go_wp2
  go_ret
  exact ⟨rfl, rfl⟩
/- the calls, as the laws meet them -/
theorem Ow.addr {w : World} {B : Nat} {v : Value} {l : List UInt8} (h : Ow w B v l) (hne : l ≠ []) : ∃ b c, v = .slice (some ⟨b, 0, none⟩) l.length c ∧ Rd w (some ⟨b, 0, none⟩) l ∧ l.length ≤ c ∧ B ≤ b := by
  rcases h.2 with ⟨_, h0⟩ | ⟨g, cap, cur, e, hb, hg, hcap, _⟩
  · exact absurd (List.eq_nil_of_length_eq_zero h0) hne
  · obtain ⟨ba, c, e2, h1, _, h3⟩ := h.rd
    rw [e] at e2
    cases e2
    exact ⟨g, cap, e, h1, hcap, hb⟩
theorem enc_ne (v : V) : Va.enc v ≠ [] := by obtain ⟨k, n, s, l⟩ := v; unfold Va.enc; simp
def PyPost (l : List UInt8) (w : World) (e : Ending) (w' : World) : Prop := ∃ b c, e = .returned (.tuple #[.slice (some ⟨b, 0, none⟩) l.length c, .int .i64 0]) ∧ Rd w' (some ⟨b, 0, none⟩) l ∧ l.length ≤ c ∧ Below w.heap.size w w' ∧ w.heap.size ≤ b
theorem put_yes (v : V) (ok : Nat → Prop) (x : Value) (w : World) (h : RV ok w v x) (hr : Va.right v = true) : Calls Tryd.prog 12 #[.slice none 0 0, x] w (PyPost (Va.enc v) w) :=
  (Put_any ok v x w h w (Below.refl _ _) w.heap.size (Nat.le_refl _) (Nat.le_refl _) (.slice none 0 0) [] (Ow.nil _ _) (by simp)).mono fun e w' hp => by
    rcases hp with ⟨_, v', he, ho, hg, hn⟩ | ⟨h', _⟩
    · obtain ⟨b, c, rfl, h1, h2, h3⟩ := Ow.addr (l := Va.enc v) ho (enc_ne v)
      exact ⟨b, c, he, h1, h2, (Gw.less (Below.refl _ _) hg (Nat.le_refl _) (fun i hi => by cases hi)), h3⟩
    · rw [hr] at h'; cases h'
theorem put_no (v : V) (ok : Nat → Prop) (x : Value) (w : World) (h : RV ok w v x) (hr : Va.right v = false) : Calls Tryd.prog 12 #[.slice none 0 0, x] w (MkPost (.tuple #[.slice none 0 0, .int .i64 13]) w) :=
  (Put_any ok v x w h w (Below.refl _ _) w.heap.size (Nat.le_refl _) (Nat.le_refl _) (.slice none 0 0) [] (Ow.nil _ _) (by simp)).mono fun e w' hp => by
    rcases hp with ⟨h', _⟩ | ⟨_, he, hb⟩
    · rw [hr] at h'; cases h'
    · exact ⟨he, hb⟩
def GyPost (v : V) (at2 : Nat) (w : World) (e : Ending) (w' : World) : Prop := ∃ (ba : Option Addr) (cap : Nat), e = .returned (.tuple #[.agg #[.int .u8 (match v with | .mk k _ _ _ => (k : Int)), .int .i64 (match v with | .mk _ n _ _ => n), .string (match v with | .mk _ _ s _ => s), .slice ba (match v with | .mk _ _ _ l => l.length) cap], .int .i64 at2, .int .i64 0]) ∧ RV (fun b => w.heap.size ≤ b) w' v (.agg #[.int .u8 (match v with | .mk k _ _ _ => (k : Int)), .int .i64 (match v with | .mk _ n _ _ => n), .string (match v with | .mk _ _ s _ => s), .slice ba (match v with | .mk _ _ _ l => l.length) cap]) ∧ (match v with | .mk _ _ _ l => l.length) ≤ cap ∧ Below w.heap.size w w'
theorem get_yes (b cap : Nat) (l : List UInt8) (at' at2 lf : Nat) (v : V) (w : World) (hr : Rd w (some ⟨b, 0, none⟩) l) (hmx : l.length ≤ 1099511627776) (hnc : l.length ≤ cap) (ha : at' ≤ l.length) (hg : Va.get l at' = .ok (v, at2, lf)) :
    Calls Tryd.prog 11 #[.slice (some ⟨b, 0, none⟩) l.length cap, .int .i64 at'] w (GyPost v at2 w) := by
  have C0 := get_in l.length cap (some ⟨b, 0, none⟩) l at' w rfl hr hmx (fun e => by cases e) hnc ha
  rw [hg] at C0
  refine C0.mono fun e w' hp => ?_
  obtain ⟨x, he, hx, hb⟩ := hp
  obtain ⟨k, n, s, l⟩ := v
  obtain ⟨ba, c, rfl, _, _, _, hL⟩ := hx.inv
  exact ⟨ba, c, he, hx, hL.le, hb⟩
/- is, of a right value and its bytes -/
set_option maxHeartbeats 1600000 in
set_option maxRecDepth 100000 in
theorem is_any (v : V) (ok : Nat → Prop) (x : Value) (bw cw : Nat) (w : World) (h : RV ok w v x) (hr : Va.right v = true) (hw : Rd w (some ⟨bw, 0, none⟩) (Va.enc v)) :
    Calls Tryd.prog 31 #[x, .slice (some ⟨bw, 0, none⟩) (Va.enc v).length cw] w (BB true w) := by
  have hwf := rv_wf h
  have hr' := hr
  unfold Va.right at hr'
  rw [Bool.and_eq_true, decide_eq_true_eq] at hr'
  have hel := enc_len v 16 hr'.1
  have hmx : (Va.enc v).length ≤ 1099511627776 := by omega
  have hge : Va.get (Va.enc v) 0 = .ok (v, (Va.enc v).length, 256 - Va.cnt v) := by
    have := Va.get_enc v (Va.enc v) 0 [] hr hwf (by simp)
    simpa using this
  have CP := Lib.hid (fun W (hb : Below w.heap.size w W) => put_yes v ok x W (h.past hb) hr)
  have CG := Lib.hid (fun W b cap (hrd : Rd W (some ⟨b, 0, none⟩) (Va.enc v)) (hc : (Va.enc v).length ≤ cap) => (show Calls Tryd.prog 11 #[.slice (some ⟨b, 0, none⟩) (Va.enc v).length cap, .int .i64 0] W _ from get_yes b cap (Va.enc v) 0 _ _ v W hrd hmx hc (Nat.zero_le _) hge))
  have CA := Lib.hid (fun W ok' y (hb : Below w.heap.size w W) (hy : RV ok' W v y) => alike_any v v ok' ok y x W hy (h.past hb))
  have CS := Lib.hid (fun W b cap (hrd : Rd W (some ⟨b, 0, none⟩) (Va.enc v)) (hb : Below w.heap.size w W) => sameBytes_any (some ⟨b, 0, none⟩) (some ⟨bw, 0, none⟩) (Va.enc v).length (Va.enc v).length cap cw (Va.enc v) (Va.enc v) W rfl hrd (fun e => by cases e) rfl (hw.below hb) (fun e => by cases e))
  rw [Va.alk_refl] at CA
  obtain ⟨k, n, s, l⟩ := v
  obtain ⟨ba, cap, rfl, -, -, -, hL⟩ := h.inv
  have hlc := hL.le
  have hB1 : Below w.heap.size w (w.alloc (.cells #[.int .u8 k, .int .i64 n, .string s, .slice ba l.length cap] 25)) := (Below.refl _ _).alloc (Nat.le_refl _) _
  have HF := Lib.hid (Blk.new w #[.int .u8 k, .int .i64 n, .string s, .slice ba l.length cap] 25)
  have C1 := Lib.hid (CP.out _ hB1)
  have HB1 := Lib.hid hB1
  simp only [beq_self_eq_true] at CS
  clear hB1 hge h hL hr hr' hel hw hwf CP
  generalize Va.enc (.mk k n s l) = E at *
  go_enter Tryd.func31, Tryd.ntmps31
  go_wp2_with fail
  with_reducible refine (C1.out).mono ?_
  rintro e w1 ⟨b1, c1, rfl, hrd1, hc1, hb1, _⟩
  have HR1 := Lib.hid hrd1
  have HB2 := Lib.hid (HB1.out.trans (hb1.mono HB1.out.size))
  have HF1 := Lib.hid (HF.out.below hb1)
  have C2 := Lib.hid (CG.out w1 b1 c1 hrd1 hc1)
  clear hrd1 hb1 C1 HF
  go_wp2_with fail
  with_reducible refine (C2.out).mono ?_
  rintro e w2 ⟨b2, c2, rfl, hv2, hc2, hb2⟩
  simp only at hc2 hv2
  have hal : Below w2.heap.size w2 (w2.alloc (.cells #[.int .u8 k, .int .i64 n, .string s, .slice b2 l.length c2] 25)) := (Below.refl _ _).alloc (Nat.le_refl _) _
  have F2 := Blk.new w2 #[.int .u8 k, .int .i64 n, .string s, .slice b2 l.length c2] 25
  have F1 := (HF1.out.below hb2).below hal
  have HB3 := Lib.hid ((HB2.out.trans (hb2.mono HB2.out.size)).trans (hal.mono (Nat.le_trans HB2.out.size hb2.size)))
  have C3 := Lib.hid (CS.out _ b1 c1 ((HR1.out.below hb2).below hal) HB3.out)
  have C4 := Lib.hid (CA.out _ _ _ HB3.out (hv2.past hal))
  have e0 := F2.cell 0
  have e1 := F2.cell 1
  have e2 := F2.cell 2
  have e3 := F2.cell 3
  have elt := F2.lt
  have d0 := F1.cell 0
  have d1 := F1.cell 1
  have d2 := F1.cell 2
  have d3 := F1.cell 3
  have dlt := F1.lt
  clear hv2 hb2 hal F1 F2 C2 CA CS CG
  go_wp2_with fail
  with_reducible refine (C3.out).mono ?_
  rintro e w3 ⟨rfl, rfl⟩
  go_wp2_with fail
  with_reducible refine (C4.out).mono ?_
  rintro e w4 ⟨rfl, hb4⟩
  have HB4 := Lib.hid (HB3.out.trans (hb4.mono HB3.out.size))
  clear hb4
  go_wp2
  go_ret
  exact ⟨rfl, HB4.out⟩
end Go.Proofs.YtgamhgeiceakeaaDoor
