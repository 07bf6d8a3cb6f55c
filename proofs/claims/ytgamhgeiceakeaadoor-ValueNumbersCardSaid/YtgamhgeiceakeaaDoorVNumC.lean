/- ValueNumbers: strings.Repeat, wrong, where Get refuses nothing, and of nil. -/
import Derived.Test.YtgamhgeiceakeaaDoorVNumB
set_option linter.unusedVariables false
set_option linter.unusedSimpArgs false
namespace Go.Proofs.YtgamhgeiceakeaaDoor
open Go.RowKit
open Va (V)
theorem rep_any (s : ByteArray) (c : Nat) (z : Int) (hz : z = c) (hc : s.size * c ≤ 100000) (h2 : c ≤ 100000) (w : World) :
    Calls Tryd.prog 28 #[.string s, .int .i64 z] w (MkPost (.string ⟨(Lib.repeatL s.data.toList c).toArray⟩) w) := by
  subst hz
  exact (Tryd.strings_Repeat s c w (by omega) (by omega)).mono fun e w' h => h
set_option maxHeartbeats 1600000 in
set_option maxRecDepth 100000 in
theorem wrong_nil (z : Int) (hz : z = 11) (w : World) : Calls Tryd.prog 30 #[.int .i64 z, .slice none 0 0] w (BB true w) := by
  subst hz
  have C0 := get_in 0 0 none [] 0 w rfl (Or.inl rfl) (by omega) (fun _ => rfl) (by omega) (Nat.zero_le _)
  rw [Va.get_1] at C0
  have C := Lib.hid (show Calls Tryd.prog 11 #[.slice none 0 0, .int .i64 0] w _ from C0)
  clear C0
  go_enter Tryd.func30, Tryd.ntmps30
  go_wp2_with fail
  with_reducible refine (C.out).mono ?_
  rintro e w1 ⟨rfl, hne, hb⟩
  have F := Blk.new w1 #[.int .u8 0, .int .i64 0, .string ⟨#[]⟩, .slice none 0 0] 25
  have HB2 := Lib.hid (hb.trans (((Below.refl w1.heap.size w1).alloc (Nat.le_refl _) (.cells #[.int .u8 0, .int .i64 0, .string ⟨#[]⟩, .slice none 0 0] 25)).mono hb.size))
  have d0 := F.cell 0
  have d3 := F.cell 3
  have dlt := F.lt
  clear hb F C
  go_wp2
  go_ret
  exact ⟨rfl, HB2.out⟩
set_option maxHeartbeats 1600000 in
set_option maxRecDepth 100000 in
theorem wrong_no (b : Nat) (cap : Nat) (l : List UInt8) (n : Nat) (z : Int) (hz : ¬ (0 : Int) = z) (v : V) (at2 lf : Nat) (w : World) (hn : l.length = n) (hr : Rd w (some ⟨b, 0, none⟩) l) (hmx : n ≤ 1099511627776) (hnc : n ≤ cap) (hg : Va.get l 0 = .ok (v, at2, lf)) :
    Calls Tryd.prog 30 #[.int .i64 z, .slice (some ⟨b, 0, none⟩) n cap] w (BB false w) := by
  subst hn
  have C := Lib.hid (show Calls Tryd.prog 11 #[.slice (some ⟨b, 0, none⟩) l.length cap, .int .i64 0] w _ from get_yes b cap l 0 at2 lf v w hr hmx hnc (Nat.zero_le _) hg)
  clear hg hr
  generalize l.length = n at *
  obtain ⟨k, nn, ss, ll⟩ := v
  go_enter Tryd.func30, Tryd.ntmps30
  go_wp2_with fail
  with_reducible refine (C.out).mono ?_
  rintro e w1 ⟨ba, c2, rfl, -, -, hb⟩
  have HB2 := Lib.hid hb
  clear hb C
  go_wp2
  go_ret
  exact ⟨rfl, bto HB2.out (bbox (Below.refl _ _) _)⟩
end Go.Proofs.YtgamhgeiceakeaaDoor
