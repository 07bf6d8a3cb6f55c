/- droverlaw02.awake, by contract: the walk. -/
import Derived.Test.YtgamhgeiceakeaaDoorVAwB
set_option linter.unusedVariables false
set_option linter.unusedSimpArgs false
namespace Go.Proofs.YtgamhgeiceakeaaDoor
open Go.RowKit
open Va (V)
theorem Show_lit (v : V) (ok : Nat → Prop) (x : Value) (w : World) (s : ByteArray) (hs : shownPost v = s.data.toList) (h : RV ok w v x) (ht : Tab w) : Calls Tryd.prog 18 #[x] w (MkPost (.string s) w) :=
  (Show_any v ok x w h ht).mono fun e w' ⟨he, hb⟩ => ⟨by rw [he, hs], hb⟩
theorem Cmp_lit (v u : V) (ok ok' : Nat → Prop) (x y : Value) (w : World) (n : Int) (hn : Va.cmpV v u 16 = n) (h : RV ok w v x) (h' : RV ok' w u y) : Calls Tryd.prog 19 #[x, y] w (MkPost (.int .i64 n) w) :=
  (Compare_any v u ok ok' x y w h h').mono fun e w' ⟨he, hb⟩ => ⟨by rw [he, hn], hb⟩
theorem wrong_lit (b n cap : Nat) (l : List UInt8) (er : Nat) (z : Int) (hz : z = er) (w : World) (hn : l.length = n) (hr : Rd w (some ⟨b, 0, none⟩) l) (hg : Va.get l 0 = .error er) (hmx : n ≤ 1099511627776) (hnc : n ≤ cap) :
    Calls Tryd.prog 30 #[.int .i64 z, .slice (some ⟨b, 0, none⟩) n cap] w (MkPost (.bool true) w) := by
  subst hz; exact wrong_any b n cap l er w hn hr hmx hnc hg
theorem is_lit' (v : V) (ok : Nat → Prop) (x : Value) (b cw : Nat) (w : World) (l : List UInt8) (nw : Nat) (hl : Va.enc v = l) (hn : l.length = nw) (h : RV ok w v x) (hr : Va.right v = true) (hw : Rd w (some ⟨b, 0, none⟩) l) :
    Calls Tryd.prog 31 #[x, .slice (some ⟨b, 0, none⟩) nw cw] w (MkPost (.bool true) w) := is_lit v ok x b cw w l nw hl hn h hr hw
theorem bto {w a b : World} (h : Below w.heap.size w a) (k : Below a.heap.size a b) : Below w.heap.size w b := h.trans (k.mono h.size)
theorem bbox {w a : World} (h : Below w.heap.size w a) (o : Obj) : Below w.heap.size w (a.alloc o) := h.alloc h.size _
/-- what stays: the tuple's box, the tuple, the table -/
structure Kp (w : World) (q b : Nat) (W : World) : Prop where
  bl : Below w.heap.size w W
  box : Blk W q #[.int .u8 4, .int .i64 0, .string ⟨#[]⟩, .slice (some ⟨b, 0, none⟩) 2 2] 25
  rv : RV (fun _ => True) W tv (.agg #[.int .u8 4, .int .i64 0, .string ⟨#[]⟩, .slice (some ⟨b, 0, none⟩) 2 2])
  tab : Tab W
theorem Kp.past {w W W' : World} {q b : Nat} (h : Kp w q b W) (hb : Below W.heap.size W W') : Kp w q b W' := ⟨bto h.bl hb, h.box.below hb, h.rv.past hb, h.tab.past hb⟩
theorem Kp.more {w W : World} {q b : Nat} (h : Kp w q b W) (o : Obj) : Kp w q b (W.alloc o) := h.past ((Below.refl _ _).alloc (Nat.le_refl _) o)
set_option maxHeartbeats 3200000 in
set_option maxRecDepth 100000 in
theorem awake_any (w : World) (ht : Tab w) : Calls Tryd.prog 10 #[] w (BB true w) := by
  have HT := Lib.hid ht
  have HB0 := Lib.hid (Below.refl w.heap.size w)
  clear ht
  go_enter Tryd.func10, Tryd.ntmps10
  go_wp2_with fail
  with_reducible refine (truth_any 1 _).mono ?_
  rintro e w1 ⟨rfl, hb⟩
  have HBw1 := Lib.hid (bto HB0.out hb)
  clear hb
  go_wp2_with fail
  with_reducible refine (actor_any 3 _).mono ?_
  rintro e w2 ⟨rfl, hb⟩
  have HBw2 := Lib.hid (bto HBw1.out hb)
  clear hb
  go_wp2_with fail
  with_reducible refine (tuple_any _ _ _ _).mono ?_
  rintro e w3 ⟨rfl, hb⟩
  have HKw4 := Lib.hid (⟨bbox (bto (bbox HBw2.out _) hb) _, Blk.new w3 _ _, (tv_rv _ _ ((Blk.new w2 #[.int .u8 2, .int .i64 1, .string ⟨#[]⟩, .slice none 0 0, .int .u8 5, .int .i64 3, .string ⟨#[]⟩, .slice none 0 0] 25).below hb)).past ((Below.refl _ _).alloc (Nat.le_refl _) _), (HT.out.past (bbox (bto (bbox HBw2.out _) hb) _))⟩ : Kp w w3.heap.size w2.heap.size (w3.alloc (.cells #[.int .u8 4, .int .i64 0, .string ⟨#[]⟩, .slice (some ⟨w2.heap.size, 0, none⟩) 2 2] 25)))
  clear hb HT HB0 HBw1 HBw2
  generalize w2.heap.size = b2 at HKw4 ⊢
  go_wp2_with fail
  with_reducible refine (num_any (-1) _).mono ?_
  rintro e w5 ⟨rfl, hb⟩
  have HKw5 := Lib.hid ((HKw4.out).past hb)
  clear hb
  go_wp2_with fail
  with_reducible refine (is_lit' (leaf 1 (-1) Va.em) (fun _ => True) _ _ _ _ [1, 1] _ enc_a ?_ ?_ right_a ?_).mono ?_
  · rfl
  · exact rv_leaf _ 1 (-1) Va.em (by decide) (i64_lit _ (by omega)) (by decide)
  · exact rd_lit _ [1, 1] _ rfl
  rintro e w6 ⟨rfl, hb⟩
  have HKw6 := Lib.hid ((HKw5.out.more _).past hb)
  clear hb
  go_wp2_with fail
  with_reducible refine (text_any ⟨#[97, 98]⟩ _).mono ?_
  rintro e w7 ⟨rfl, hb⟩
  have HKw7 := Lib.hid ((HKw6.out).past hb)
  clear hb
  go_wp2_with fail
  with_reducible refine (is_lit' (leaf 3 0 ⟨#[97, 98]⟩) (fun _ => True) _ _ _ _ [3, 2, 97, 98] _ enc_b ?_ ?_ right_b ?_).mono ?_
  · rfl
  · exact rv_leaf _ 3 0 ⟨#[97, 98]⟩ (by decide) (i64_lit _ (by omega)) (by decide)
  · exact rd_lit _ [3, 2, 97, 98] _ rfl
  rintro e w8 ⟨rfl, hb⟩
  have HKw8 := Lib.hid ((HKw7.out.more _).past hb)
  clear hb
  have e0 := HKw8.out.box.cell 0
  have e1 := HKw8.out.box.cell 1
  have e2 := HKw8.out.box.cell 2
  have e3 := HKw8.out.box.cell 3
  have elt := HKw8.out.box.lt
  go_wp2_with fail
  with_reducible refine (is_lit' tv (fun _ => True) _ _ _ _ [4, 2, 2, 1, 5, 6] _ enc_c ?_ ?_ right_c ?_).mono ?_
  · rfl
  · exact (HKw8.out.more _).rv
  · exact rd_lit _ [4, 2, 2, 1, 5, 6] _ rfl
  rintro e w9 ⟨rfl, hb⟩
  have HKw9 := Lib.hid ((HKw8.out.more _).past hb)
  clear hb
  clear e0 e1 e2 e3 elt
  have e0 := HKw9.out.box.cell 0
  have e1 := HKw9.out.box.cell 1
  have e2 := HKw9.out.box.cell 2
  have e3 := HKw9.out.box.cell 3
  have elt := HKw9.out.box.lt
  go_wp2_with fail
  with_reducible refine (Show_lit tv (fun _ => True) _ _ ⟨#[40, 116, 114, 117, 101, 44, 32, 64, 51, 41]⟩ show_a HKw9.out.rv HKw9.out.tab).mono ?_
  rintro e w10 ⟨rfl, hb⟩
  have HKw10 := Lib.hid ((HKw9.out).past hb)
  clear hb
  clear e0 e1 e2 e3 elt
  go_wp2_with fail
  with_reducible refine (num_any 1 _).mono ?_
  rintro e w11 ⟨rfl, hb⟩
  have HKw11 := Lib.hid ((HKw10.out).past hb)
  clear hb
  go_wp2_with fail
  with_reducible refine (tuple_any _ _ _ _).mono ?_
  rintro e w12 ⟨rfl, hb⟩
  have HT12 := Lib.hid (t1v_rv _ _ ((Blk.new w11 #[.int .u8 1, .int .i64 1, .string ⟨#[]⟩, .slice none 0 0] 25).below hb))
  have HKw12 := Lib.hid ((HKw11.out.more _).past hb)
  clear hb
  go_wp2_with fail
  with_reducible refine (Show_lit t1v (fun _ => True) _ _ ⟨#[40, 49, 44, 41]⟩ show_b HT12.out HKw12.out.tab).mono ?_
  rintro e w13 ⟨rfl, hb⟩
  have HKw13 := Lib.hid ((HKw12.out).past hb)
  clear hb
  go_wp2_with fail
  with_reducible refine (text_any ⟨#[97, 34]⟩ _).mono ?_
  rintro e w14 ⟨rfl, hb⟩
  have HKw14 := Lib.hid ((HKw13.out).past hb)
  clear hb
  go_wp2_with fail
  with_reducible refine (Show_lit (leaf 3 0 ⟨#[97, 34]⟩) (fun _ => True) _ _ ⟨#[34, 97, 92, 50, 50, 34]⟩ show_c ?_ HKw14.out.tab).mono ?_
  · exact rv_leaf _ 3 0 ⟨#[97, 34]⟩ (by decide) (i64_lit _ (by omega)) (by decide)
  rintro e w15 ⟨rfl, hb⟩
  have HKw15 := Lib.hid ((HKw14.out).past hb)
  clear hb
  go_wp2_with fail
  with_reducible refine (wrong_lit _ _ _ [9] 10 _ ?_ _ ?_ ?_ get_a ?_ ?_).mono ?_
  · rfl
  · rfl
  · exact rd_lit _ [9] _ rfl
  · decide
  · decide
  rintro e w16 ⟨rfl, hb⟩
  have HKw16 := Lib.hid ((HKw15.out.more _).past hb)
  clear hb
  go_wp2_with fail
  with_reducible refine (wrong_lit _ _ _ [2, 2] 10 _ ?_ _ ?_ ?_ get_b ?_ ?_).mono ?_
  · rfl
  · rfl
  · exact rd_lit _ [2, 2] _ rfl
  · decide
  · decide
  rintro e w17 ⟨rfl, hb⟩
  have HKw17 := Lib.hid ((HKw16.out.more _).past hb)
  clear hb
  go_wp2_with fail
  with_reducible refine (wrong_lit _ _ _ [3, 1] 11 _ ?_ _ ?_ ?_ get_c ?_ ?_).mono ?_
  · rfl
  · rfl
  · exact rd_lit _ [3, 1] _ rfl
  · decide
  · decide
  rintro e w18 ⟨rfl, hb⟩
  have HKw18 := Lib.hid ((HKw17.out.more _).past hb)
  clear hb
  go_wp2_with fail
  with_reducible refine (wrong_lit _ _ _ [5, 1] 13 _ ?_ _ ?_ ?_ get_d ?_ ?_).mono ?_
  · rfl
  · rfl
  · exact rd_lit _ [5, 1] _ rfl
  · decide
  · decide
  rintro e w19 ⟨rfl, hb⟩
  have HKw19 := Lib.hid ((HKw18.out.more _).past hb)
  clear hb
  go_wp2_with fail
  with_reducible refine (num_any 9 _).mono ?_
  rintro e w20 ⟨rfl, hb⟩
  have HKw20 := Lib.hid ((HKw19.out).past hb)
  clear hb
  go_wp2_with fail
  with_reducible refine (truth_any 0 _).mono ?_
  rintro e w21 ⟨rfl, hb⟩
  have HKw21 := Lib.hid ((HKw20.out).past hb)
  clear hb
  go_wp2_with fail
  with_reducible refine (Cmp_lit (leaf 1 9 Va.em) (leaf 2 0 Va.em) (fun _ => True) (fun _ => True) _ _ _ (-1) cmp_a ?_ ?_).mono ?_
  · exact rv_leaf _ 1 9 Va.em (by decide) (i64_lit _ (by omega)) (by decide)
  · exact rv_leaf _ 2 0 Va.em (by decide) (i64_lit _ (by omega)) (by decide)
  rintro e w22 ⟨rfl, hb⟩
  have HKw22 := Lib.hid ((HKw21.out).past hb)
  clear hb
  go_wp2_with fail
  with_reducible refine (num_any 1 _).mono ?_
  rintro e w23 ⟨rfl, hb⟩
  have HKw23 := Lib.hid ((HKw22.out).past hb)
  clear hb
  go_wp2_with fail
  with_reducible refine (tuple_any _ _ _ _).mono ?_
  rintro e w24 ⟨rfl, hb⟩
  have HT24 := Lib.hid (t1v_rv _ _ ((Blk.new w23 #[.int .u8 1, .int .i64 1, .string ⟨#[]⟩, .slice none 0 0] 25).below hb))
  have HKw24 := Lib.hid ((HKw23.out.more _).past hb)
  clear hb
  go_wp2_with fail
  with_reducible refine (tuple_any _ _ _ _).mono ?_
  rintro e w25 ⟨rfl, hb⟩
  have HT25 := Lib.hid (HT24.out.past hb)
  have HKw25 := Lib.hid ((HKw24.out).past hb)
  clear hb
  go_wp2_with fail
  with_reducible refine (Cmp_lit t1v (.mk 4 0 Va.em []) (fun _ => True) (fun _ => True) _ _ _ 1 cmp_b HT25.out ?_).mono ?_
  · exact rv_leaf _ 4 0 Va.em (by decide) (i64_lit _ (by omega)) (by decide)
  rintro e w26 ⟨rfl, hb⟩
  have HKw26 := Lib.hid ((HKw25.out).past hb)
  clear hb
  go_wp2
  go_ret
  exact ⟨rfl, HKw26.out.bl⟩
end Go.Proofs.YtgamhgeiceakeaaDoor
