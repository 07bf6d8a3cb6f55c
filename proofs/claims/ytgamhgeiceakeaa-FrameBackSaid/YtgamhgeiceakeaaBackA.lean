/- PROVED: Rows.FrameBackSaid: for every input droverlaw03.FrameBack hands back true, and its arguments read as they did. No condition. What is put is got; what is got is right, and put again is the same bytes: there is one form of each; a byte that is another one is never the same message. -/
import Derived.Test.YtgamhgeiceakeaaComE
import Derived.Deep.DeepCutAuto
import Derived.Laws.IdiomArrays
/- FrameSpares: what stays, copies of bytes. -/
set_option linter.unusedVariables false
set_option linter.unusedSimpArgs false
namespace Go.Proofs.Ytgamhgeiceakeaa
open Go.RowKit
open By (Bs)
open Va (V)
open Me (Ms)
theorem RN.keep {B t : Nat} {w w' : World} {l : List Int} {ba : Option Addr} {cap : Nat} (h : RN (fun b => B ≤ b) w l ba cap) (hg : w.grownBy w' (some t)) (ht : t < B) : RN (fun b => B ≤ b) w' l ba cap :=
  ⟨h.le, h.max, h.nil, fun i hi => by
    obtain ⟨b, o, e, h1, h2, h3⟩ := h.at_ i hi
    exact ⟨b, o, e, h1, Nat.lt_of_lt_of_le h2 hg.size, by rw [World.cell?_of_block (w := w) (hg.block b h2 (fun e2 => by cases e2; omega))]; exact h3⟩⟩
theorem RL.keep {B t : Nat} {w w' : World} {l : List V} {ba : Option Addr} {cap : Nat} (h : RL (fun b => B ≤ b) w l ba cap) (hg : w.grownBy w' (some t)) (ht : t < B) : RL (fun b => B ≤ b) w' l ba cap :=
  h.kept hg.size (fun b hb hlt => hg.block b hlt (fun e => by cases e; omega))
theorem RB.keep {B t : Nat} {w w' : World} {l : List Bs} {ba : Option Addr} {cap : Nat} (h : RB (fun b => B ≤ b) w l ba cap) (hg : w.grownBy w' (some t)) (ht : t < B) : RB (fun b => B ≤ b) w' l ba cap :=
  ⟨h.le, h.max, h.nil, fun i hi => by
    obtain ⟨b, o, x, e, h1, h2, h3, h4⟩ := h.at_ i hi
    refine ⟨b, o, x, e, h1, Nat.lt_of_lt_of_le h2 hg.size, by rw [World.cell?_of_block (w := w) (hg.block b h2 (fun e2 => by cases e2; omega))]; exact h3, ?_⟩
    obtain ⟨g, c, e3, k1, k2, k3, k4⟩ := h4.ex
    refine ⟨g, c, e3, ?_, k2, k3, k4⟩
    by_cases hne : l[i] = []
    · exact Or.inl hne
    · rcases k1 with k1 | ⟨b', o', e4, hlt, hc⟩
      · exact Or.inl k1
      · have hB := h.own i hi b o g l[i].length c b' o' e (by rw [h3, e3]) e4 hne
        exact Or.inr ⟨b', o', e4, Nat.lt_of_lt_of_le hlt hg.size, fun j hj => by rw [World.cell?_of_block (w := w) (hg.block b' hlt (fun e2 => by cases e2; omega))]; exact hc j hj⟩,
  fun i hi b o g n c b' o' e hc => by
    obtain ⟨b0, o0, x, e0, h1, h2, _, _⟩ := h.at_ i hi
    rw [e] at e0; cases e0
    rw [World.cell?_of_block (w := w) (hg.block b h2 (fun e2 => by cases e2; omega))] at hc
    exact h.own i hi b o g n c b' o' e hc⟩
/-- a message that was told stays, whatever turns in an elder block -/
theorem RM.keep {B t : Nat} {w w' : World} {m : Ms} {bn bv bb : Option Addr} {cn cv cb : Nat} (h : RM (fun b => B ≤ b) w m bn bv bb cn cv cb) (hg : w.grownBy w' (some t)) (ht : t < B) : RM (fun b => B ≤ b) w' m bn bv bb cn cv cb :=
  ⟨h.kind, h.i64, h.nums.keep hg ht, h.vals.keep hg ht, h.blobs.keep hg ht⟩
def OwnPost (l : List UInt8) (w : World) (e : Ending) (w' : World) : Prop := ∃ g c, e = .returned (.slice g l.length c) ∧ Ow w' w.heap.size (.slice g l.length c) l ∧ Below w.heap.size w w'
set_option maxHeartbeats 800000 in
theorem copyBytes_any (ba : Option Addr) (n cap : Nat) (l : List UInt8) (w : World) (hn : l.length = n) (hr : Rd w ba l) (hb : ba = none → n = 0) (hl : n ≤ 1099511627776) :
    Calls Try.prog 22 #[.slice ba n cap] w (OwnPost l w) := by
  subst hn
  obtain ⟨i0, hi, hz0, hz1, hz2⟩ := info_parts Try.info_u8
  have HR := Lib.hid hr
  have HBA := Lib.hid hb
  clear hr hb
  go_enter Try.func22, Try.ntmps22
  go_wp2_with (at_builtin; refine wpList_append_rd _ rfl _ _ 27 rfl w.heap.size 5 i0 (.int .u8 0) 1 1 Try.underlying27 hi hz0 hz1 hz2 rfl (by decide) (.slice none 0 0) 0 [] rfl (World.ownsRow_nil _ _ _ _) ba l.length cap (u8s l) rfl ?c0 HBA.out ?c1 (u8s_one l) ?c3 ?c4 ?c5 ?_)
  case c0 => rw [u8s_len]; omega
  case c1 =>
    intro ad he j u hj
    have hjl : j < l.length := by have := (List.getElem?_eq_some_iff.1 hj).1; rw [u8s_len] at this; exact this
    rcases HR.out with h | ⟨b, o, e, hlt, hc⟩
    · rw [h] at hjl; simp at hjl
    · rw [he] at e; cases e
      rw [addPl, hc j hjl, ← hj]
      unfold u8s; simp [hjl]
  case c3 => unfold maxLen; omega
  case c4 => omega
  case c5 => simp
  intro v2 w2 ho2 hg2 hn2
  have hown2 : Ow w2 w.heap.size v2 l := by unfold Ow; simpa using ho2
  have hb2 : Below w.heap.size w w2 := (Below.refl _ w).grown hg2.grown (Nat.le_refl _) (by simp [Value.ownBlock])
  obtain ⟨b1, c1, rfl, _, _, _⟩ := hown2.rd
  have HO2 := Lib.hid hown2
  have HB2 := Lib.hid hb2
  clear ho2 hg2 hn2 hown2 hb2
  go_wp2
  go_ret
  exact ⟨b1, c1, rfl, HO2.out, HB2.out⟩
/-- Get of what was put -/
theorem getAll_put {m : Ms} (hm : Me.right m = true) (hw : Me.Wf m) : Me.getAll (By.shut (Me.body m)) = .ok m := by
  unfold Me.getAll
  have h6 := ((Me.right_iff m).1 hm).2.2.2.2.2
  rw [if_neg (by rw [By.shut_len]; omega), By.open_shut]
  simp only
  rw [if_neg (by simp)]
  exact Me.get_body m hm hw
end Go.Proofs.Ytgamhgeiceakeaa
/- Two boxes: a message's and a packet's. -/
set_option linter.unusedVariables false
set_option linter.unusedSimpArgs false
namespace Go.Proofs.Ytgamhgeiceakeaa
open Go.RowKit
open By (Bs)
open Va (V)
open Me (Ms)
/-- a message's box and a packet's -/
structure A2 (w : World) (c1 c2 : Array Value) (W : World) : Prop where
  one : Blk W w.heap.size c1 30
  two : Blk W (w.heap.size + 1) c2 41
  bl : Below w.heap.size w W
theorem A2.past {w W W' : World} {c1 c2 : Array Value} (h : A2 w c1 c2 W) (hb : Below W.heap.size W W') : A2 w c1 c2 W' := ⟨h.one.below hb, h.two.below hb, h.bl.trans (hb.mono h.bl.size)⟩
theorem A2.grow {w W W' : World} {c1 c2 : Array Value} {t : Nat} (h : A2 w c1 c2 W) (hg : W.grownBy W' (some t)) (ht : w.heap.size + 1 < t) : A2 w c1 c2 W' :=
  ⟨h.one.kept hg (fun e => by have := Option.some.inj e; omega), h.two.kept hg (fun e => by have := Option.some.inj e; omega), h.bl.grown hg h.bl.size (fun k hk => by cases hk; omega)⟩
theorem A2.new (w : World) (c1 c2 : Array Value) : A2 w c1 c2 ((w.alloc (.cells c1 30)).alloc (.cells c2 41)) := by
  have s1 : (w.alloc (.cells c1 30)).heap.size = w.heap.size + 1 := by simp
  have b2 := Blk.new (w.alloc (.cells c1 30)) c2 41
  rw [s1] at b2
  exact ⟨(Blk.new w c1 _).below ((Below.refl _ _).alloc (Nat.le_refl _) _), b2, ((Below.refl _ _).alloc (Nat.le_refl _) _).alloc (by simp) _⟩
/-- a row of the call's own, as a block -/
theorem Ow.blk {w : World} {B g c n : Nat} {l : List UInt8} (h : Ow w B (.slice (some ⟨g, 0, none⟩) n c) l) : ∃ cur : Array Value, Blk w g cur 5 ∧ cur.size = c ∧ n ≤ c := by
  rcases h.2 with ⟨h', _⟩ | ⟨g', cap', cur, h', hb, hg, hnc, hcm, hcs, htake⟩
  · simp at h'
  · simp only [Value.slice.injEq, Option.some.injEq, Addr.mk.injEq, and_true, true_and] at h'
    obtain ⟨rfl, hn, rfl⟩ := h'
    exact ⟨cur, hg, by omega, by omega⟩
end Go.Proofs.Ytgamhgeiceakeaa
/- droverlow.Pick by contract. -/
set_option linter.unusedVariables false
set_option linter.unusedSimpArgs false
namespace Go.Proofs.Ytgamhgeiceakeaa
open Go.RowKit
theorem tmodN (x : Int) (n : Nat) (hn : 0 < n) : (0 ≤ x ∧ x.tmod n = x % n) ∨ (x < 0 ∧ x.tmod n = -((-x) % n)) := by
  by_cases h : 0 ≤ x
  · exact Or.inl ⟨h, Int.tmod_eq_emod_of_nonneg h⟩
  · refine Or.inr ⟨by omega, ?_⟩
    rw [← Int.tmod_eq_emod_of_nonneg (by omega), Int.neg_tmod, Int.neg_neg]
set_option maxHeartbeats 1600000 in
theorem pick_any (x : Int) (n : Nat) (w : World) (hn : 0 < n) (hm : n ≤ 1099511627776) : Calls Try.prog 30 #[.int .i64 x, .int .i64 n] w fun e w' => ∃ k : Nat, k < n ∧ e = .returned (.int .i64 k) ∧ w = w' := by
  have n0 : ¬ (n : Int) ≤ 0 := by omega
  have n1 : ¬ (n : Int) = 0 := by omega
  have nn : (0 : Int) < (n : Int) := by omega
  rcases tmodN x n hn with ⟨h0, h⟩ | ⟨h0, h⟩
  · have p0 := Int.emod_nonneg x n1
    have p1 := Int.emod_lt_of_pos x nn
    obtain ⟨k, e⟩ : ∃ k : Nat, x % (n : Int) = k := ⟨(x % n).toNat, by omega⟩
    rw [e] at h p0 p1
    have hk : k < n := by omega
    have b3 : ¬ (k : Int) < 0 := by omega
    clear e p0 p1
    go_enter Try.func30, Try.ntmps30
    go_wp2
    go_ret
    exact ⟨k, hk, rfl, rfl⟩
  · have p0 := Int.emod_nonneg (-x) n1
    have p1 := Int.emod_lt_of_pos (-x) nn
    obtain ⟨k, e⟩ : ∃ k : Nat, (-x) % (n : Int) = k := ⟨((-x) % n).toNat, by omega⟩
    rw [e] at h p0 p1
    have hk : k < n := by omega
    clear e p0 p1
    by_cases hz : k = 0
    · subst hz
      have h' : x.tmod n = 0 := by rw [h]; rfl
      clear h
      go_enter Try.func30, Try.ntmps30
      go_wp2
      go_ret
      exact ⟨0, by omega, rfl, rfl⟩
    · have b3 : -(k : Int) < 0 := by omega
      have b4 : IntKind.i64.wrap (-(k : Int) + n) = ((n - k : Nat) : Int) := by rw [IntWalk.i64_in _ (by omega)]; omega
      go_enter Try.func30, Try.ntmps30
      go_wp2
      go_ret
      exact ⟨n - k, by omega, rfl, rfl⟩
end Go.Proofs.Ytgamhgeiceakeaa
/- Sums: bytes of which some next to each other (at most four) are others have another sum. Plain; no program stands here. -/
set_option linter.unusedVariables false
set_option linter.unusedSimpArgs false
namespace Go.Proofs.Ytgamhgeiceakeaa
namespace By
theorem xor_half (a b : Nat) : (a ^^^ b) / 2 = a / 2 ^^^ b / 2 := by
  have h := Nat.shiftRight_xor_distrib (a := a) (b := b) (i := 1)
  simpa [Nat.shiftRight_eq_div_pow] using h
theorem xor_odd (a b : Nat) : (a ^^^ b) % 2 = (a % 2 + b % 2) % 2 := by
  have h := Nat.xor_mod_two_pow (a := a) (b := b) (n := 1)
  simp only [Nat.pow_one] at h
  rw [h]
  rcases Nat.mod_two_eq_zero_or_one a with ha | ha <;> rcases Nat.mod_two_eq_zero_or_one b with hb | hb <;> rw [ha, hb] <;> rfl
theorem xor_xor (a b : Nat) : a ^^^ b ^^^ b = a := by rw [Nat.xor_assoc, Nat.xor_self, Nat.xor_zero]
theorem xor_four (a b c d : Nat) : (a ^^^ b) ^^^ (c ^^^ d) = (a ^^^ c) ^^^ (b ^^^ d) := by
  rw [Nat.xor_assoc, Nat.xor_assoc, ← Nat.xor_assoc b c d, Nat.xor_comm b c, Nat.xor_assoc c b d]
theorem xor_nil {a b : Nat} (h : a ^^^ b = 0) : a = b := by
  have h1 := xor_xor a b
  rw [h, Nat.zero_xor] at h1
  exact h1.symm
theorem crc1_xor (a b : Nat) : crc1 (a ^^^ b) = crc1 a ^^^ crc1 b := by
  unfold crc1
  rw [xor_half, xor_odd, xor_four]
  congr 1
  rcases Nat.mod_two_eq_zero_or_one a with ha | ha <;> rcases Nat.mod_two_eq_zero_or_one b with hb | hb <;> rw [ha, hb] <;> decide
theorem crc8_xor (a b : Nat) : crc8 (a ^^^ b) = crc8 a ^^^ crc8 b := by
  unfold crc8
  simp only [crc1_xor]
theorem crc1_small (v r : Nat) (hv : v < 4294967296) (hr : r < 2147483648) (h : crc1 v = r) : v = 2 * r := by
  unfold crc1 at h
  by_cases ho : v % 2 = 1
  · rw [if_pos ho] at h
    have h1 : (v / 2).testBit 31 = false := Nat.testBit_lt_two_pow (by omega)
    have h2 : r.testBit 31 = false := Nat.testBit_lt_two_pow (by omega)
    rw [← h, Nat.testBit_xor, h1] at h2
    exact absurd h2 (by decide)
  · rw [if_neg ho, Nat.xor_zero] at h
    omega
theorem crc8_small (v r : Nat) (hv : v < 4294967296) (hr : r < 16777216) (h : crc8 v = r) : v = 256 * r := by
  unfold crc8 at h
  have l1 := crc1_lt v hv
  have l2 := crc1_lt _ l1
  have l3 := crc1_lt _ l2
  have l4 := crc1_lt _ l3
  have l5 := crc1_lt _ l4
  have l6 := crc1_lt _ l5
  have l7 := crc1_lt _ l6
  have h7 := crc1_small _ _ l7 (by omega) h
  have h6 := crc1_small _ _ l6 (by omega) h7
  have h5 := crc1_small _ _ l5 (by omega) h6
  have h4 := crc1_small _ _ l4 (by omega) h5
  have h3 := crc1_small _ _ l3 (by omega) h4
  have h2 := crc1_small _ _ l2 (by omega) h3
  have h1 := crc1_small _ _ l1 (by omega) h2
  have h0 := crc1_small _ _ hv (by omega) h1
  omega
theorem xor_lt (n : Nat) {a b : Nat} (ha : a < 2 ^ n) (hb : b < 2 ^ n) : a ^^^ b < 2 ^ n := Nat.xor_lt_two_pow ha hb
/-- four bytes whose sum is nothing are nothing -/
theorem four_nil (z0 z1 z2 z3 : Nat) (h0 : z0 < 256) (h1 : z1 < 256) (h2 : z2 < 256) (h3 : z3 < 256) (h : crc8 (crc8 (crc8 (crc8 z0 ^^^ z1) ^^^ z2) ^^^ z3) = 0) : z0 = 0 ∧ z1 = 0 ∧ z2 = 0 ∧ z3 = 0 := by
  have lc := crc8_lt z0 (by omega)
  have lc1 := xor_lt 32 lc (show z1 < 2 ^ 32 by omega)
  have lb := crc8_lt _ lc1
  have lb1 := xor_lt 32 lb (show z2 < 2 ^ 32 by omega)
  have la := crc8_lt _ lb1
  have la1 := xor_lt 32 la (show z3 < 2 ^ 32 by omega)
  have e3 := xor_nil (crc8_small _ _ la1 (by omega) h)
  generalize hC : crc8 z0 = C at lc lc1 lb lb1 la la1 e3
  generalize hB : crc8 (C ^^^ z1) = B at lb lb1 la la1 e3
  have e2 := crc8_small _ _ lb1 (by omega) e3
  have e2' : B = 256 * z3 ^^^ z2 := by rw [← e2, xor_xor]
  have lB : B < 65536 := by rw [e2']; exact xor_lt 16 (by omega) (by omega)
  have e1 := crc8_small _ _ lc1 (by omega) hB
  have e1' : C = 256 * B ^^^ z1 := by rw [← e1, xor_xor]
  have lC : C < 16777216 := by rw [e1']; exact xor_lt 24 (by omega) (by omega)
  have e0 := crc8_small _ _ (by omega) lC hC
  have c0 : C = 0 := by omega
  rw [c0] at e1
  rw [Nat.zero_xor] at e1
  have b0 : B = 0 := by omega
  rw [b0, Nat.zero_xor] at e2
  omega
theorem crcB_xor (a b : Nat) (x y : UInt8) : crcB a x ^^^ crcB b y = crcB (a ^^^ b) (x ^^^ y) := by
  unfold crcB
  rw [← crc8_xor, UInt8.toNat_xor, xor_four]
theorem crcF_xor : ∀ (l m : Bs) (a b : Nat), l.length = m.length → crcF a l ^^^ crcF b m = crcF (a ^^^ b) (List.zipWith (· ^^^ ·) l m)
  | [], [], a, b, _ => rfl
  | x :: l, y :: m, a, b, h => by
    show crcF (crcB a x) l ^^^ crcF (crcB b y) m = crcF (crcB (a ^^^ b) (x ^^^ y)) (List.zipWith (· ^^^ ·) l m)
    rw [crcF_xor l m _ _ (by simpa using h), crcB_xor]
  | [], y :: m, a, b, h => by simp at h
  | x :: l, [], a, b, h => by simp at h
theorem u8_nil {z : UInt8} (h : z.toNat = 0) : z = 0 := UInt8.toNat_inj.1 (by rw [h]; rfl)
theorem crc8_zero : crc8 0 = 0 := by decide
theorem short_nil : ∀ (z : Bs), z.length ≤ 4 → crcF 0 z = 0 → ∀ x ∈ z, x = 0
  | [], _, _ => fun x hx => by cases hx
  | [a], _, h => by
    have h' : crc8 (0 ^^^ a.toNat) = 0 := h
    rw [Nat.zero_xor] at h'
    have := four_nil 0 0 0 a.toNat (by omega) (by omega) (by omega) a.toNat_lt (by simp only [crc8_zero, Nat.xor_self, Nat.zero_xor]; exact h')
    intro x hx; simp only [List.mem_singleton] at hx; subst hx; exact u8_nil this.2.2.2
  | [a, b], _, h => by
    have h' : crc8 (crc8 (0 ^^^ a.toNat) ^^^ b.toNat) = 0 := h
    rw [Nat.zero_xor] at h'
    have := four_nil 0 0 a.toNat b.toNat (by omega) (by omega) a.toNat_lt b.toNat_lt (by simp only [crc8_zero, Nat.xor_self, Nat.zero_xor]; exact h')
    intro x hx; simp only [List.mem_cons, List.not_mem_nil, or_false] at hx
    rcases hx with rfl | rfl
    · exact u8_nil this.2.2.1
    · exact u8_nil this.2.2.2
  | [a, b, c], _, h => by
    have h' : crc8 (crc8 (crc8 (0 ^^^ a.toNat) ^^^ b.toNat) ^^^ c.toNat) = 0 := h
    rw [Nat.zero_xor] at h'
    have := four_nil 0 a.toNat b.toNat c.toNat (by omega) a.toNat_lt b.toNat_lt c.toNat_lt (by simp only [crc8_zero, Nat.xor_self, Nat.zero_xor]; exact h')
    intro x hx; simp only [List.mem_cons, List.not_mem_nil, or_false] at hx
    rcases hx with rfl | rfl | rfl
    · exact u8_nil this.2.1
    · exact u8_nil this.2.2.1
    · exact u8_nil this.2.2.2
  | [a, b, c, d], _, h => by
    have h' : crc8 (crc8 (crc8 (crc8 (0 ^^^ a.toNat) ^^^ b.toNat) ^^^ c.toNat) ^^^ d.toNat) = 0 := h
    rw [Nat.zero_xor] at h'
    have := four_nil a.toNat b.toNat c.toNat d.toNat a.toNat_lt b.toNat_lt c.toNat_lt d.toNat_lt h'
    intro x hx; simp only [List.mem_cons, List.not_mem_nil, or_false] at hx
    rcases hx with rfl | rfl | rfl | rfl
    · exact u8_nil this.1
    · exact u8_nil this.2.1
    · exact u8_nil this.2.2.1
    · exact u8_nil this.2.2.2
  | a :: b :: c :: d :: e :: r, hl, _ => by simp only [List.length_cons] at hl; omega
theorem crcF_inj : ∀ (l : Bs) (a b : Nat), a < 4294967296 → b < 4294967296 → crcF a l = crcF b l → a = b
  | [], a, b, _, _, h => h
  | x :: l, a, b, ha, hb, h => by
    have h1 := crcF_inj l (crcB a x) (crcB b x) (crcB_lt a x ha) (crcB_lt b x hb) h
    have h2 := crcB_xor a b x x
    rw [h1, Nat.xor_self, UInt8.xor_self] at h2
    have h3 : crc8 ((a ^^^ b) ^^^ 0) = 0 := h2.symm
    rw [Nat.xor_zero] at h3
    exact xor_nil (by have := crc8_small _ 0 (xor_lt 32 ha hb) (by omega) h3; omega)
theorem xor_same {x y : UInt8} (h : x ^^^ y = 0) : x = y := by
  have h1 := congrArg UInt8.toNat h
  rw [UInt8.toNat_xor] at h1
  exact UInt8.toNat_inj.1 (xor_nil h1)
theorem zip_same : ∀ (x y : Bs), x.length = y.length → (∀ z ∈ List.zipWith (· ^^^ ·) x y, z = 0) → x = y
  | [], [], _, _ => rfl
  | a :: x, b :: y, h, hz => by
    rw [List.zipWith_cons_cons] at hz
    rw [xor_same (hz _ (List.mem_cons_self ..)), zip_same x y (by simpa using h) (fun z h => hz z (List.mem_cons_of_mem _ h))]
  | [], b :: y, h, _ => by simp at h
  | a :: x, [], h, _ => by simp at h
/-- bytes next to each other, at most four, are others: the sum is another one -/
theorem burst (p x y s : Bs) (hl : x.length = y.length) (h4 : x.length ≤ 4) (h : crc (p ++ (x ++ s)) = crc (p ++ (y ++ s))) : x = y := by
  have l1 := crcF_lt (p ++ (x ++ s)) 4294967295 (by omega)
  have l2 := crcF_lt (p ++ (y ++ s)) 4294967295 (by omega)
  have e : crcF 4294967295 (p ++ (x ++ s)) = crcF 4294967295 (p ++ (y ++ s)) := by unfold crc at h; omega
  have app : ∀ (c : Nat) (l r : Bs), crcF c (l ++ r) = crcF (crcF c l) r := fun c l r => by unfold crcF; rw [List.foldl_append]
  rw [app, app, app, app] at e
  have lp := crcF_lt p 4294967295 (by omega)
  have e1 := crcF_inj s _ _ (crcF_lt x _ lp) (crcF_lt y _ lp) e
  have e2 := crcF_xor x y (crcF 4294967295 p) (crcF 4294967295 p) hl
  rw [e1, Nat.xor_self, Nat.xor_self] at e2
  exact zip_same x y hl (short_nil _ (by rw [List.length_zipWith]; omega) e2.symm)
theorem opn_wrong (c t : Bs) (ht : t.length = 4) (h : num4 t ≠ crc c) : opn (c ++ t) = ([], 12) := by
  unfold opn
  rw [List.length_append, ht, if_neg (by omega), Nat.add_sub_cancel, List.drop_left, List.take_left, if_neg h]
theorem be4_num4 (t : Bs) (ht : t.length = 4) : be4 (num4 t) = t := by
  match t, ht with
  | [a, b, c, d], _ =>
    have ha := a.toNat_lt
    have hb := b.toNat_lt
    have hc := c.toNat_lt
    have hd := d.toNat_lt
    unfold num4 be4
    simp only [List.foldl_cons, List.foldl_nil]
    have q : ∀ (x : UInt8) (n : Nat), n % 256 = x.toNat → UInt8.ofNat n = x := fun x n hn => UInt8.toNat_inj.1 (by rw [UInt8.toNat_ofNat']; exact hn)
    rw [q a _ (by omega), q b _ (by omega), q c _ (by omega), q d _ (by omega)]
/-- bytes with their sum, of which some of a window of four ahead of the sum are others -/
theorem turned_sum (c M : Bs) (k : Nat) (hl : M.length = c.length + 4) (ho : ∀ j, (j < k ∨ k + 4 ≤ j ∨ c.length ≤ j) → M[j]? = (shut c)[j]?) (hne : M ≠ shut c) : opn M = ([], 12) := by
  have hs := shut_len c
  have ht : M.drop c.length = be4 (crc c) := by
    apply List.ext_getElem?
    intro j
    rw [List.getElem?_drop, ho _ (Or.inr (Or.inr (by omega)))]
    unfold shut
    rw [List.getElem?_append_right (by omega), Nat.add_sub_cancel_left]
  have e : M = M.take c.length ++ be4 (crc c) := by rw [← ht, List.take_append_drop]
  rw [e]
  refine opn_wrong _ _ rfl ?_
  rw [num4_be4 _ (crc_lt c)]
  intro hc
  have ag : ∀ j, j < c.length → (j < k ∨ k + 4 ≤ j) → (M.take c.length)[j]? = c[j]? := by
    intro j hj hk
    rw [List.getElem?_take_of_lt hj, ho j (by omega)]
    unfold shut
    rw [List.getElem?_append_left hj]
  have hM : (M.take c.length).length = c.length := by rw [List.length_take]; omega
  generalize M.take c.length = m at ag hM hc e
  have cut : ∀ l : Bs, l = l.take k ++ ((l.drop k).take 4 ++ (l.drop k).drop 4) := fun l => by rw [List.take_append_drop, List.take_append_drop]
  have a1 : m.take k = c.take k := by
    apply List.ext_getElem?
    intro j
    rw [List.getElem?_take, List.getElem?_take]
    split
    · by_cases hj : j < c.length
      · exact ag j hj (Or.inl (by omega))
      · rw [List.getElem?_eq_none (by omega), List.getElem?_eq_none (by omega)]
    · rfl
  have a2 : (m.drop k).drop 4 = (c.drop k).drop 4 := by
    apply List.ext_getElem?
    intro j
    rw [List.getElem?_drop, List.getElem?_drop, List.getElem?_drop, List.getElem?_drop]
    by_cases hj : k + (4 + j) < c.length
    · exact ag _ hj (Or.inr (by omega))
    · rw [List.getElem?_eq_none (by omega), List.getElem?_eq_none (by omega)]
  have em := cut m
  have ec := cut c
  rw [a1, a2] at em
  have hb := burst (c.take k) ((c.drop k).take 4) ((m.drop k).take 4) ((c.drop k).drop 4) (by rw [List.length_take, List.length_take, List.length_drop, List.length_drop]; omega) (by rw [List.length_take]; omega) (by rw [← em, ← ec]; exact hc)
  rw [← hb, ← ec] at em
  rw [em] at e
  exact hne e
/-- bytes with their sum, of which one is another one -/
theorem one_sum (c M : Bs) (k : Nat) (hl : M.length = c.length + 4) (ho : ∀ j, j ≠ k → M[j]? = (shut c)[j]?) (hne : M ≠ shut c) : opn M = ([], 12) := by
  by_cases hk : k < c.length
  · exact turned_sum c M k hl (fun j hj => ho j (by omega)) hne
  · have e : M = c ++ M.drop c.length := by
      conv => lhs; rw [← List.take_append_drop c.length M]
      congr 1
      apply List.ext_getElem?
      intro j
      by_cases hj : j < c.length
      · rw [List.getElem?_take_of_lt hj, ho j (by omega)]
        unfold shut
        rw [List.getElem?_append_left hj]
      · rw [List.getElem?_eq_none (by rw [List.length_take]; omega), List.getElem?_eq_none (by omega)]
    have ht : (M.drop c.length).length = 4 := by rw [List.length_drop]; omega
    rw [e]
    refine opn_wrong _ _ ht (fun h => hne ?_)
    rw [e, ← be4_num4 _ ht, h]
    rfl
end By
end Go.Proofs.Ytgamhgeiceakeaa
/- What Unpack tells of bytes whose sum is right was packed so. Plain. -/
set_option linter.unusedVariables false
set_option linter.unusedSimpArgs false
namespace Go.Proofs.Ytgamhgeiceakeaa
open Go.RowKit
open By (Bs)
theorem gs_inv (c : Bs) (j : Nat) (h : (gs c (j + 1)).2 = 0) : (gs c j).2 = 0 ∧ gx c j ≤ 4611686018427387904 ∧ (gs c j).1 ≤ (gs c (j + 1)).1 ∧ By.uv (gx c j) = (c.drop (gs c j).1).take ((gs c (j + 1)).1 - (gs c j).1) := by
  have e1 : gs c (j + 1) = ((gnum c (gs c j).1 (gs c j).2).2.1, gtop (gnum c (gs c j).1 (gs c j).2).1 (gnum c (gs c j).1 (gs c j).2).2.2) := rfl
  have e2 : gx c j = (gnum c (gs c j).1 (gs c j).2).1 := rfl
  rw [e1] at h ⊢
  rw [e2]
  generalize gs c j = g at h ⊢
  obtain ⟨a, er⟩ := g
  simp only at h ⊢
  unfold gnum at h ⊢
  by_cases he : er = 0
  · subst he
    rw [if_neg (by simp)] at h ⊢
    rcases hg : By.gu (c.drop a) with ⟨n, k, e⟩
    rw [hg] at h
    simp only at h ⊢
    by_cases h0 : e = 0
    · subst h0
      rw [if_pos rfl] at h
      simp only [if_true] at h ⊢
      unfold gtop at h
      obtain ⟨g1, g2, g3, g4⟩ := Va.gu_inv _ n k hg
      split at h
      · cases h
      · rename_i hn
        exact ⟨trivial, by omega, by omega, by rw [Nat.add_sub_cancel_left]; exact g1⟩
    · rw [if_neg h0] at h
      simp only at h
      unfold gtop at h
      rw [if_neg (fun q => h0 q.1)] at h
      exact absurd h h0
  · rw [if_pos he] at h
    simp only at h
    unfold gtop at h
    rw [if_neg (fun q => he q.1)] at h
    exact absurd h he
theorem cut5 (c u0 u1 u2 u3 u4 : Bs) (z1 z2 z3 z4 k : Nat) (h1 : z1 ≤ z2) (h2 : z2 ≤ z3) (h3 : z3 ≤ z4) (h4 : z4 ≤ c.length) (hk : k ≤ c.length - z4) (hat : ¬ z4 + k < c.length)
    (e0 : u0 = (c.drop 0).take (z1 - 0)) (e1 : u1 = (c.drop z1).take (z2 - z1)) (e2 : u2 = (c.drop z2).take (z3 - z2)) (e3 : u3 = (c.drop z3).take (z4 - z3)) (e4 : u4 = (c.drop z4).take k) : u0 ++ (u1 ++ (u2 ++ (u3 ++ u4))) = c := by
  have hk' : k = c.length - z4 := by omega
  subst hk'
  have f : (c.drop 0).take (c.length - 0) = c := by simp
  rw [e0, e1, e2, e3, e4, ← Va.drop_take_add c z3 z4 c.length h3 h4, ← Va.drop_take_add c z2 z3 c.length h2 (by omega), ← Va.drop_take_add c z1 z2 c.length h1 (by omega), ← Va.drop_take_add c 0 z1 c.length (by omega) (by omega), f]
theorem gs_inv' (c : Bs) (j j' : Nat) (hj : j' = j + 1) (h : (gs c j').2 = 0) : (gs c j).2 = 0 ∧ gx c j ≤ 4611686018427387904 ∧ (gs c j).1 ≤ (gs c j').1 ∧ By.uv (gx c j) = (c.drop (gs c j).1).take ((gs c j').1 - (gs c j).1) := by
  subst hj; exact gs_inv c j h
theorem wrap_top {n : Nat} (h : n ≤ 4611686018427387904) : IntKind.i64.wrap (n : Int) = (n : Int) := IntWalk.i64_in _ (by omega)
theorem fin_inv (c : Bs) (F L S A : Int) (D : Bs) (h : fin c = (F, L, S, A, D, 0)) : rightB F L S A D.length = true ∧ By.pk ⟨F.toNat, L.toNat, S.toNat, A.toNat, D⟩ = c := by
  unfold fin at h
  split at h
  · rename_i h3
    simp only [Prod.mk.injEq] at h
    exact absurd h.2.2.2.2.2 h3
  · rename_i h3
    have h3 : er3 c = 0 := by omega
    simp only [Prod.mk.injEq] at h
    obtain ⟨q1, q2, q3, q4, q5, -⟩ := h
    unfold er3 at h3
    unfold gend at h3
    split at h3
    · cases h3
    · rename_i hat
      have hat : ¬ (bl4 c).2.1 < c.length := fun q => hat ⟨h3, q⟩
      unfold er2 at h3
      split at h3
      · cases h3
      · rename_i hr
        have hr : rightB (IntKind.i64.wrap (gx c 0)) (IntKind.i64.wrap (gx c 1)) (IntKind.i64.wrap (gx c 2)) (IntKind.i64.wrap (gx c 3)) (bl4 c).1.length = true := by
          cases hb : rightB (IntKind.i64.wrap (gx c 0)) (IntKind.i64.wrap (gx c 1)) (IntKind.i64.wrap (gx c 2)) (IntKind.i64.wrap (gx c 3)) (bl4 c).1.length with
          | true => rfl
          | false => exact absurd ⟨h3, hb⟩ hr
        rw [bl4_eq] at h3 hat hr q5
        unfold gblob at h3 hat hr q5
        generalize hg4 : gs c 4 = g4 at h3 hat hr q5
        by_cases he : g4.2 = 0
        · rw [if_neg (by simpa using he)] at h3 hat hr q5
          rcases hg : By.getBlob 1048576 (c.drop g4.1) with ⟨d, k, e⟩
          rw [hg] at h3 hat hr q5
          simp only at h3 hat hr q5
          by_cases h0 : e = 0
          · subst h0
            rw [if_pos rfl] at h3 hat hr q5
            simp only at hat hr q5
            obtain ⟨b1, b2, b3, b4⟩ := Va.getBlob_inv _ _ _ _ hg
            rw [← hg4] at he hat b1 b2
            obtain ⟨s3, x3, a3, u3⟩ := gs_inv' c 3 4 rfl he
            obtain ⟨s2, x2, a2, u2⟩ := gs_inv' c 2 3 rfl s3
            obtain ⟨s1, x1, a1, u1⟩ := gs_inv' c 1 2 rfl s2
            obtain ⟨s0, x0, a0, u0⟩ := gs_inv' c 0 1 rfl s1
            rw [wrap_top x0] at q1 hr
            rw [wrap_top x1] at q2 hr
            rw [wrap_top x2] at q3 hr
            rw [wrap_top x3] at q4 hr
            subst q1 q2 q3 q4 q5
            refine ⟨hr, ?_⟩
            have l4 := gs_le c 4
            have z0 : (gs c 0).1 = 0 := rfl
            rw [z0] at u0 a0
            rw [List.length_drop] at b2
            unfold By.pk
            simp only [Int.toNat_natCast]
            exact cut5 c _ _ _ _ _ _ _ _ _ k a1 a2 a3 l4 b2 hat u0 u1 u2 u3 b1
          · rw [if_neg h0] at h3
            exact absurd h3 h0
        · rw [if_pos he] at h3
          exact absurd h3 he
/-- what Unpack tells of sealed bytes is packed to the same -/
theorem pack_fin (c : Bs) (F L S A : Int) (D : Bs) (h : fin c = (F, L, S, A, D, 0)) : Me.pack F L S A D = (By.shut c, 0) := by
  obtain ⟨h1, h2⟩ := fin_inv c F L S A D h
  unfold Me.pack
  rw [if_pos h1]
  unfold By.pack
  rw [h2]
end Go.Proofs.Ytgamhgeiceakeaa
/- frame.Unpack of any bytes, by contract. -/
set_option linter.unusedVariables false
set_option linter.unusedSimpArgs false
namespace Go.Proofs.Ytgamhgeiceakeaa
open Go.RowKit
open By (Bs)
abbrev pz : Array Value := #[.int .i64 0, .int .i64 0, .int .i64 0, .int .i64 0, .slice none 0 0]
theorem put5_below {w W : World} (hb : Below w.heap.size w W) (q : Nat) (hq : w.heap.size ≤ q) (a b c d e : Value) : Below w.heap.size w (((((W.setCell ⟨q, 0, none⟩ a).setCell ⟨q, 1, none⟩ b).setCell ⟨q, 2, none⟩ c).setCell ⟨q, 3, none⟩ d).setCell ⟨q, 4, none⟩ e) :=
  ((((hb.setCell hq _).setCell hq _).setCell hq _).setCell hq _).setCell hq _
set_option maxHeartbeats 3200000 in
set_option maxRecDepth 100000 in
theorem unpack_long (ba : Option Addr) (n cap : Nat) (w : World) (hm : 1048640 < n) : Calls Try.prog 15 #[.slice ba n cap] w (UnpPost 0 0 0 0 [] 3 w) := by
  have HA := Lib.hid ((Below.refl w.heap.size w).alloc (Nat.le_refl _) (.cells pz 41))
  have HR0 := Lib.hid (Blk.new w pz 41)
  have CO := Lib.hid (fun W => (show Calls Try.prog 33 #[.slice ba n cap, .int .i64 1048640] W _ from opened_long ba n cap 1048640 W hm))
  have a0 := HR0.out.cell 0
  have a1 := HR0.out.cell 1
  have a2 := HR0.out.cell 2
  have a3 := HR0.out.cell 3
  have a4 := HR0.out.cell 4
  go_enter Try.func15, Try.ntmps15
  go_wp2_with fail
  with_reducible refine (CO.out _).mono ?_
  rintro e w1 ⟨rfl, rfl⟩
  go_wp2
  have QF := HR0.out
  (try simp only [Exit.inBlock, Exit.then])
  refine bodyPost_ret (results_cell_row2 rfl _ _ w.heap.size 41 _ (0, 0) _ rfl QF Try.underlying41 rfl (by kernel_rfl)) rfl ?_
  exact ⟨_, rfl, Ow.nil _ _, HA.out⟩
set_option maxHeartbeats 3200000 in
set_option maxRecDepth 100000 in
theorem unpack_sum (ba : Option Addr) (n cap : Nat) (l d : Bs) (er : Nat) (w : World) (hn : l.length = n) (hr : Rd w ba l) (hb : ba = none → n = 0) (hc : n ≤ cap) (hm : n ≤ 1048640) (hd : By.opn l = (d, er)) (her : er ≠ 0) :
    Calls Try.prog 15 #[.slice ba n cap] w (UnpPost 0 0 0 0 [] er w) := by
  have hA := (Below.refl w.heap.size w).alloc (Nat.le_refl _) (.cells pz 41)
  have C0 := opened_any ba n cap 1048640 l (w.alloc (.cells pz 41)) hn (hr.below hA) hb (by omega) hc hm
  rw [hd] at C0
  have CO := Lib.hid (show Calls Try.prog 33 #[.slice ba n cap, .int .i64 1048640] (w.alloc (.cells pz 41)) _ from C0)
  have HA := Lib.hid hA
  have HR0 := Lib.hid (Blk.new w pz 41)
  clear hA C0 hr hb hc hd hn
  have hne : ((er : Int) != 0) = true := by rw [bne_iff_ne]; omega
  go_enter Try.func15, Try.ntmps15
  go_wp2_with fail
  with_reducible refine (CO.out).mono ?_
  rintro e w1 ⟨p, v1, rfl, -, -, -, hp, hb1⟩
  have HB1 := Lib.hid (HA.out.trans (hb1.mono (by simp)))
  have HR1 := Lib.hid (HR0.out.below hb1)
  have a0 := HR1.out.cell 0
  have a1 := HR1.out.cell 1
  have a2 := HR1.out.cell 2
  have a3 := HR1.out.cell 3
  have a4 := HR1.out.cell 4
  have alt := HR1.out.lt
  have f0 := HR1.out.free 0
  have f1 := HR1.out.free 1
  have f2 := HR1.out.free 2
  have f3 := HR1.out.free 3
  have f4 := HR1.out.free 4
  clear hb1
  go_wp2
  have QF := ((((HR1.out.set 0 (.int .i64 0)).set 1 (.int .i64 0)).set 2 (.int .i64 0)).set 3 (.int .i64 0)).set 4 (.slice none 0 0)
  (try simp only [Exit.inBlock, Exit.then])
  refine bodyPost_ret (results_cell_row2 rfl _ _ w.heap.size 41 _ (0, 0) _ rfl QF Try.underlying41 rfl (by kernel_rfl)) rfl ?_
  exact ⟨_, rfl, Ow.nil _ _, put5_below HB1.out _ (Nat.le_refl _) _ _ _ _ _⟩
namespace Me
/-- Unpack -/
def unp (l : Bs) : Int × Int × Int × Int × Bs × Nat := if 1048640 < l.length then (0, 0, 0, 0, [], 3) else if (By.opn l).2 ≠ 0 then (0, 0, 0, 0, [], (By.opn l).2) else fin (By.opn l).1
end Me
def UqPost (R : Int × Int × Int × Int × Bs × Nat) (w : World) : Ending → World → Prop := UnpPost R.1 R.2.1 R.2.2.1 R.2.2.2.1 R.2.2.2.2.1 R.2.2.2.2.2 w
/-- Unpack of any bytes -/
theorem unpack_any (ba : Option Addr) (n cap : Nat) (l : Bs) (w : World) (hn : l.length = n) (hr : Rd w ba l) (hb : ba = none → n = 0) (hc : n ≤ cap) :
    Calls Try.prog 15 #[.slice ba n cap] w (UqPost (Me.unp l) w) := by
  unfold Me.unp UqPost
  rw [hn]
  by_cases h : 1048640 < n
  · rw [if_pos h]; exact unpack_long ba n cap w h
  · rw [if_neg h]
    rcases hd : By.opn l with ⟨d, er⟩
    simp only
    by_cases her : er = 0
    · subst her
      rw [if_neg (by simp)]
      have hl : ¬ 1048640 < n := h
      clear h
      rcases hF : fin d with ⟨F, L, S, A, D, E⟩
      simp only
      exact unpack_body ba n cap l d F L S A D E w hn hr hb (by omega) hc ⟨hd⟩ ⟨hF⟩
    · rw [if_pos her]
      exact unpack_sum ba n cap l d er w hn hr hb hc (by omega) hd her
theorem unp_pack (p : By.Pk) (h : p.right) : Me.unp (By.pack p) = ((p.fr : Int), (p.life : Int), (p.seq : Int), (p.ack : Int), p.data, 0) := by
  have hl := By.pk_len p
  have h5 := h.2.2.2.2.1
  unfold Me.unp By.pack
  rw [By.shut_len, if_neg (by omega), By.open_shut]
  simp only
  rw [if_neg (by simp)]
  exact fin_pk p h
end Go.Proofs.Ytgamhgeiceakeaa
/- droverlaw03.turned by contract: some bytes next to each other, at most four, ahead of the sum, are others. -/
set_option linter.unusedVariables false
set_option linter.unusedSimpArgs false
namespace Go.Proofs.Ytgamhgeiceakeaa
open Go.RowKit
open By (Bs)
namespace Me
structure Tw (l M : Bs) (n k i : Nat) (ch : Bool) : Prop where
  len : M.length = l.length
  out : ∀ j, (j < k ∨ k + i ≤ j ∨ n ≤ j) → M[j]? = l[j]?
  yes : ch = true → ∃ j, j < k + i ∧ M[j]? ≠ l[j]?
  no : ch = false → M = l
theorem Tw.start (l : Bs) (n k : Nat) : Tw l l n k 0 false := ⟨rfl, fun _ _ => rfl, fun h => (by cases h), fun _ => rfl⟩
theorem u8_turn {a t : UInt8} (h : t ≠ 0) : a ^^^ t ≠ a := by
  intro e
  apply h
  have h1 := congrArg UInt8.toNat e
  rw [UInt8.toNat_xor, Nat.xor_comm] at h1
  have h2 := By.xor_xor t.toNat a.toNat
  rw [h1, Nat.xor_self] at h2
  exact By.u8_nil h2.symm
theorem Tw.step {l M : Bs} {n k i : Nat} {ch : Bool} (h : Tw l M n k i ch) (t x : UInt8) (hn : n ≤ l.length) (hk : k + i < n) (hx : M[k + i]? = some x) : Tw l (M.set (k + i) (x ^^^ t)) n k (i + 1) (ch || t != 0) := by
  have hl := h.len
  have hxl : l[k + i]? = some x := by rw [← h.out (k + i) (Or.inr (Or.inl (Nat.le_refl _)))]; exact hx
  refine ⟨by rw [List.length_set]; exact hl, fun j hj => ?_, fun hc => ?_, fun hc => ?_⟩
  · rw [List.getElem?_set_ne (by omega)]
    exact h.out j (by omega)
  · cases hch : ch with
    | true =>
      obtain ⟨j, hj, hne⟩ := h.yes hch
      exact ⟨j, by omega, by rw [List.getElem?_set_ne (by omega)]; exact hne⟩
    | false =>
      rw [hch] at hc
      have ht : t ≠ 0 := by simpa using hc
      refine ⟨k + i, by omega, ?_⟩
      rw [List.getElem?_set_self (by omega), hxl]
      exact fun e => u8_turn ht (Option.some.inj e)
  · have hch : ch = false := by cases ch <;> simp_all
    have ht : t = 0 := by cases ch <;> simp_all
    subst ht
    have hx0 : x ^^^ 0 = x := by simp
    rw [hx0, ← h.no hch]
    apply List.ext_getElem?
    intro j
    by_cases hj : j = k + i
    · subst hj; rw [List.getElem?_set_self (by omega), hx]
    · rw [List.getElem?_set_ne (by omega)]
/-- what comes of turned: at most four next to each other are others, one at least -/
structure TwEnd (l M : Bs) (n k : Nat) : Prop where
  len : M.length = l.length
  out : ∀ j, (j < k ∨ k + 4 ≤ j ∨ n ≤ j) → M[j]? = l[j]?
  ne : M ≠ l
theorem Tw.fin {l M : Bs} {n k i : Nat} (h : Tw l M n k i true) (hi : i ≤ 4) : TwEnd l M n k :=
  ⟨h.len, fun j hj => h.out j (by omega), fun e => by obtain ⟨j, _, hne⟩ := h.yes rfl; exact hne (by rw [e])⟩
theorem Tw.fin1 {l M : Bs} {n k i : Nat} (h : Tw l M n k i false) (hn : n ≤ l.length) (hk : k < n) (x : UInt8) (hx : M[k]? = some x) : TwEnd l (M.set k (x ^^^ 1)) n k := by
  have e := h.no rfl
  subst e
  refine ⟨by rw [List.length_set], fun j hj => List.getElem?_set_ne (by omega), fun e => ?_⟩
  have h1 : (M.set k (x ^^^ 1))[k]? = M[k]? := by rw [e]
  rw [List.getElem?_set_self (by omega), hx] at h1
  exact u8_turn (by decide) (Option.some.inj h1)
theorem TwEnd.sum {c M : Bs} {k : Nat} (h : TwEnd (By.shut c) M c.length k) : By.opn M = ([], 12) :=
  By.turned_sum c M k (by rw [h.len, By.shut_len]) h.out h.ne
end Me
theorem bits_xor_u8 (x y : UInt8) : bits .xor .u8 (x.toNat : Int) (y.toNat : Int) = ((x ^^^ y).toNat : Int) := by
  have hx := x.toNat_lt
  have hy := y.toNat_lt
  have e1 : (BitVec.ofInt 8 (x.toNat : Int)).toNat = x.toNat := by rw [BitVec.toNat_ofInt]; omega
  have e2 : (BitVec.ofInt 8 (y.toNat : Int)).toNat = y.toNat := by rw [BitVec.toNat_ofInt]; omega
  have hz : x.toNat ^^^ y.toNat < 2 ^ 8 := Nat.xor_lt_two_pow (by omega) (by omega)
  show IntKind.u8.wrap ((BitVec.ofInt 8 (x.toNat : Int) ^^^ BitVec.ofInt 8 (y.toNat : Int)).toNat : Int) = _
  rw [BitVec.toNat_xor, e1, e2, wraps_u8 _ (by omega) (by omega), UInt8.toNat_xor]
/-- a row of bytes of the call's own, not nil -/
def Oh (w : World) (B g N c : Nat) (M : Bs) : Prop := w.ownsRow B 5 1 (.slice (some ⟨g, 0, none⟩) N c) N (u8s M)
theorem Oh.len {w : World} {B g N c : Nat} {M : Bs} (h : Oh w B g N c M) : M.length = N := by have := h.1; rw [u8s_len] at this; omega
theorem Oh.ow {w : World} {B g N c : Nat} {M : Bs} (h : Oh w B g N c M) : Ow w B (.slice (some ⟨g, 0, none⟩) M.length c) M := by
  have e := h.len
  unfold Ow
  rw [e]; exact h
theorem Oh.cell {w : World} {B g N c : Nat} {M : Bs} (h : Oh w B g N c M) (j : Nat) (x : UInt8) (hx : M[j]? = some x) : w.cell? ⟨g, j, none⟩ = some (.int .u8 (x.toNat : Nat)) := by
  have hj : j < M.length := (List.getElem?_eq_some_iff.1 hx).1
  have hl := h.len
  rw [World.ownsRow.cellAt h j (by omega)]
  unfold u8s
  rw [List.getElem?_map, hx]; rfl
theorem Oh.free {w : World} {B g N c : Nat} {M : Bs} (h : Oh w B g N c M) (j : Nat) : w.frozen? ⟨g, j, none⟩ = false := World.ownsRow.frozenAt h j
theorem Oh.lt {w : World} {B g N c : Nat} {M : Bs} (h : Oh w B g N c M) : B ≤ g ∧ g < w.heap.size := World.ownsRow.lt h g rfl
theorem Oh.put {w : World} {B g N c : Nat} {M : Bs} (h : Oh w B g N c M) (j : Nat) (b : UInt8) : Oh (w.setCell ⟨g, j, none⟩ (.int .u8 (b.toNat : Nat))) B g N c (M.set j b) ∧ w.grownBy (w.setCell ⟨g, j, none⟩ (.int .u8 (b.toNat : Nat))) (some g) := by
  have h1 := World.ownsRow.stored h j (.int .u8 (b.toNat : Nat))
  refine ⟨?_, h1.2⟩
  have e : u8s (M.set j b) = (u8s M).set j (.int .u8 (b.toNat : Nat)) := by unfold u8s; rw [List.map_set]
  unfold Oh
  rw [e]; exact h1.1
def TurnPost (l : Bs) (n : Nat) (w : World) (e : Ending) (w' : World) : Prop := ∃ k M g c, e = .returned (.slice (some ⟨g, 0, none⟩) (n + 4) c) ∧ Oh w' w.heap.size g (n + 4) c M ∧ Me.TwEnd l M n k ∧ Below w.heap.size w w'
/-- the byte that is turned with at a place -/
def tb (t0 t1 t2 t3 : UInt8) (j : Nat) : UInt8 := if j = 0 then t0 else if j = 1 then t1 else if j = 2 then t2 else t3
set_option maxHeartbeats 3200000 in
set_option maxRecDepth 100000 in
theorem turned_any (ba : Option Addr) (n cap : Nat) (l : Bs) (x : Int) (t0 t1 t2 t3 : UInt8) (w : World) (hn : l.length = n + 4) (h0 : 0 < n) (hr : Rd w ba l) (hb : ba = none → n + 4 = 0) (hl : n ≤ 1099511627700) :
    Calls Try.prog 31 #[.slice ba (n + 4) cap, .int .i64 x, .agg #[.int .u8 (t0.toNat : Nat), .int .u8 (t1.toNat : Nat), .int .u8 (t2.toNat : Nat), .int .u8 (t3.toNat : Nat)]] w (TurnPost l n w) := by
  have HR := Lib.hid hr
  have hl0 : l ≠ [] := fun e => by rw [e] at hn; simp at hn
  clear hr
  have hal : Below w.heap.size w (w.alloc (.cells #[.int .u8 (t0.toNat : Nat), .int .u8 (t1.toNat : Nat), .int .u8 (t2.toNat : Nat), .int .u8 (t3.toNat : Nat)] 57)) := (Below.refl _ _).alloc (Nat.le_refl _) _
  have HR0 := Lib.hid (HR.out.below hal)
  have HX0 := Lib.hid (Blk.new w #[.int .u8 (t0.toNat : Nat), .int .u8 (t1.toNat : Nat), .int .u8 (t2.toNat : Nat), .int .u8 (t3.toNat : Nat)] 57)
  have HAL := Lib.hid hal
  clear hal
  have hsz : (w.alloc (.cells #[.int .u8 (t0.toNat : Nat), .int .u8 (t1.toNat : Nat), .int .u8 (t2.toNat : Nat), .int .u8 (t3.toNat : Nat)] 57)).heap.size = w.heap.size + 1 := by simp
  go_enter Try.func31, Try.ntmps31
  have h4 : IntKind.i64.wrap ((n : Int) + 4 - 4) = (n : Nat) := by rw [IntWalk.i64_in _ (by omega)]; omega
  go_wp2_with fail
  with_reducible refine (copyBytes_any ba (n + 4) cap l _ hn HR0.out hb (by omega)).mono ?_
  rintro e w1 ⟨g1, c1, rfl, ho1, hb1⟩
  obtain ⟨g, c1', e1, hBg, hcg⟩ := ho1.val hl0
  cases e1
  rw [hsz] at hBg
  have HO1 := Lib.hid (show Oh w1 w.heap.size g l.length c1 l from ho1.mono (by omega))
  have HX1 := Lib.hid (HX0.out.below hb1)
  have HB1 := Lib.hid (HAL.out.trans (hb1.mono (by omega)))
  clear ho1 hb1 hsz HR HR0 HX0 HAL
  go_wp2_with fail
  with_reducible refine (pick_any x n _ h0 (by omega)).mono ?_
  rintro e w2 ⟨k, hk, rfl, rfl⟩
  go_wp2_with fail
  go_loopw [9, 10] (fun cv iv wr => ∃ (i : Nat) (ch : Bool) (M : Bs), i ≤ 4 ∧ iv = .int .i64 i ∧ cv = .bool ch ∧ Me.Tw l M n k i ch ∧ Oh wr w.heap.size g l.length c1 M ∧ Below w.heap.size w wr ∧ Blk wr w.heap.size #[.int .u8 (t0.toNat : Nat), .int .u8 (t1.toNat : Nat), .int .u8 (t2.toNat : Nat), .int .u8 (t3.toNat : Nat)] 57) (fun _ iv _ => 4 - (intOf iv).toNat)
  case atStart => exact ⟨0, false, l, by omega, rfl, rfl, Me.Tw.start _ _ _, HO1.out, HB1.out, HX1.out⟩
  case round =>
    obtain ⟨i, ch, M, hi, rfl, rfl, htw, ho, hbw, hx⟩ := hrel
    have hwk : IntKind.i64.wrap ((k : Int) + (i : Int)) = ((k + i : Nat) : Int) := by rw [IntWalk.i64_in _ (by omega)]; omega
    by_cases h4i : i < 4
    · by_cases hkn : k + i < n
      · have hml := ho.len
        obtain ⟨x, hx1⟩ : ∃ x, M[k + i]? = some x := ⟨M[k + i]'(by omega), List.getElem?_eq_getElem (by omega)⟩
        have y0 := ho.cell (k + i) x hx1
        have yf := ho.free (k + i)
        have yl := ho.lt.2
        have hkn' : ((k + i : Nat) : Int) < (n : Int) := by omega
        obtain ⟨tt, htt, z0⟩ : ∃ tt : UInt8, tt = tb t0 t1 t2 t3 i ∧ wr.cell? ⟨w.heap.size, i, none⟩ = some (.int .u8 (tt.toNat : Nat)) := by
          refine ⟨_, rfl, ?_⟩
          rw [hx.cell i]
          rcases (by omega : i = 0 ∨ i = 1 ∨ i = 2 ∨ i = 3) with rfl | rfl | rfl | rfl <;> rfl
        clear htt
        have j0 : (0 : Int) ≤ (i : Int) := by omega
        have j1 : (i : Int) < 4 := by omega
        have j2 : (0 : Int) ≤ ((k + i : Nat) : Int) := by omega
        have j3 : ((k + i : Nat) : Int) < (n : Int) + 4 := by omega
        have hs := htw.step tt x (by omega) hkn hx1
        have hput := ho.put (k + i) (x ^^^ tt)
        have hxr := bits_xor_u8 x tt
        have hdr : ∀ W : World, Below W.heap.size W W.drew := fun W => (Below.refl _ _).drew
        have hp9 : Oh (wr.setCell ⟨g, k + i, none⟩ (.int .u8 ((x ^^^ tt).toNat : Nat))).drew w.heap.size g l.length c1 (M.set (k + i) (x ^^^ tt)) := hput.1.drew
        have hb9 : Below w.heap.size w (wr.setCell ⟨g, k + i, none⟩ (.int .u8 ((x ^^^ tt).toNat : Nat))).drew := (hbw.setCell (p := ⟨g, k + i, none⟩) (by simp; omega) (.int .u8 ((x ^^^ tt).toNat : Nat))).drew
        have hx9 := (hx.kept hput.2 (fun e => by have h2 := Option.some.inj e; omega)).below (hdr _)
        rw [UInt8.toNat_xor] at hxr
        rw [UInt8.toNat_xor] at hp9 hb9 hx9
        have HP := Lib.hid hp9
        have HS := Lib.hid hs
        have HB := Lib.hid hb9
        have HX := Lib.hid hx9
        have HT := Lib.hid (show ((tt.toNat : Int) != 0) = (tt != 0) from by
          by_cases h : tt = 0
          · subst h; rfl
          · have h1 : tt.toNat ≠ 0 := fun e => h (By.u8_nil e)
            rw [show ((tt.toNat : Int) != 0) = true from by rw [bne_iff_ne]; omega, show (tt != 0) = true from by rw [bne_iff_ne]; exact h])
        have zl := hx.lt
        clear hs hput htw ho hbw hx hdr hp9 hb9 hx9
        cases ch with
        | false =>
          generalize hki : k + i = q at *
          go_upto_region 8 with (fail)
          refine wp_region_T_drew (fun w' => w'.cell? ⟨g, q, none⟩ = some (.int .u8 (x.toNat : Nat)) ∧ w'.cell? ⟨w.heap.size, i, none⟩ = some (.int .u8 (tt.toNat : Nat))) 11 (by kernel_rfl) ⟨y0, z0⟩ (fun hS => ?_)
          refine wpAnyT_pure 0 rfl (by kernel_rfl) (by decide) (by kernel_rfl) (by kernel_rfl) (fun _ _ _ h => h) hS (by kernel_rfl) (v := ?_) ?_ ?_
          rotate_left
          · intro w'; go_simp; (try with_reducible rfl)
          simp only [Act.put, List.setIfInBounds_toArray, List.set_cons_zero, List.set_cons_succ]
          refine wpAnyT_pure 1 rfl (by kernel_rfl) (by decide) (by kernel_rfl) (by kernel_rfl) (fun _ _ _ h => h) hS (by kernel_rfl) (v := ?_) ?_ ?_
          rotate_left
          · intro w'; go_simp; (try with_reducible rfl)
          simp only [Act.put, List.setIfInBounds_toArray, List.set_cons_zero, List.set_cons_succ]
          refine wpAnyT_pure 2 rfl (by kernel_rfl) (by decide) (by kernel_rfl) (by kernel_rfl) (fun _ _ _ h => h) hS (by kernel_rfl) (v := ?_) ?_ ?_
          rotate_left
          · intro w'; go_simp; (try with_reducible rfl)
          simp only [Act.put, List.setIfInBounds_toArray, List.set_cons_zero, List.set_cons_succ]
          refine wpAnyT_pure 3 rfl (by kernel_rfl) (by decide) (by kernel_rfl) (by kernel_rfl) (fun _ _ _ h => h) hS (by kernel_rfl) (v := ?_) ?_ ?_
          rotate_left
          · intro w'; go_simp; (try with_reducible rfl)
          simp only [Act.put, List.setIfInBounds_toArray, List.set_cons_zero, List.set_cons_succ]
          refine wpAnyT_pure 4 rfl (by kernel_rfl) (by decide) (by kernel_rfl) (by kernel_rfl) (fun _ _ _ h => h) hS (by kernel_rfl) (v := ?_) ?_ ?_
          rotate_left
          · intro w'; go_simp; (try with_reducible rfl)
          simp only [Act.put, List.setIfInBounds_toArray, List.set_cons_zero, List.set_cons_succ]
          refine wpAnyT_take 5 rfl (by kernel_rfl) (by kernel_rfl) (by decide) (by kernel_rfl) (by kernel_rfl) (fun _ _ _ h => h) hS (by kernel_rfl) (v := ?_) ?_ ?_
          rotate_left
          · intro w' hSw; (try dsimp only at hSw); go_simp; (try with_reducible rfl)
          simp only [Act.put, List.setIfInBounds_toArray, List.set_cons_zero, List.set_cons_succ]
          refine wpAnyT_pure 6 rfl (by kernel_rfl) (by decide) (by kernel_rfl) (by kernel_rfl) (fun _ _ _ h => h) hS (by kernel_rfl) (v := ?_) ?_ ?_
          rotate_left
          · intro w'; go_simp; (try with_reducible rfl)
          simp only [Act.put, List.setIfInBounds_toArray, List.set_cons_zero, List.set_cons_succ]
          refine wpAnyT_pure 7 rfl (by kernel_rfl) (by decide) (by kernel_rfl) (by kernel_rfl) (fun _ _ _ h => h) hS (by kernel_rfl) (v := ?_) ?_ ?_
          rotate_left
          · intro w'; go_simp; (try with_reducible rfl)
          simp only [Act.put, List.setIfInBounds_toArray, List.set_cons_zero, List.set_cons_succ]
          refine wpAnyT_take 8 rfl (by kernel_rfl) (by kernel_rfl) (by decide) (by kernel_rfl) (by kernel_rfl) (fun _ _ _ h => h) hS (by kernel_rfl) (v := ?_) ?_ ?_
          rotate_left
          · intro w' hSw; (try dsimp only at hSw); go_simp; (try with_reducible rfl)
          simp only [Act.put, List.setIfInBounds_toArray, List.set_cons_zero, List.set_cons_succ]
          refine wpAnyT_pure 9 rfl (by kernel_rfl) (by decide) (by kernel_rfl) (by kernel_rfl) (fun _ _ _ h => h) hS (by kernel_rfl) (v := ?_) ?_ ?_
          rotate_left
          · intro w'; go_simp; (try with_reducible rfl)
          simp only [Act.put, List.setIfInBounds_toArray, List.set_cons_zero, List.set_cons_succ]
          refine wpAnyT_pure 10 rfl (by kernel_rfl) (by decide) (by kernel_rfl) (by kernel_rfl) (fun _ _ _ h => h) hS (by kernel_rfl) (v := ?_) ?_ ?_
          rotate_left
          · intro w'; go_simp; (try with_reducible rfl)
          simp only [Act.put, List.setIfInBounds_toArray, List.set_cons_zero, List.set_cons_succ]
          refine wpAnyT_one 11 (by kernel_rfl) rfl (by kernel_rfl) (fun K hK => ?_)
          go_simp
          refine hK _ _ (fun h => absurd rfl h) ?_
          clear hK K
          refine wpAnyT_done (by kernel_rfl) ?_
          clear hS
          go_wp2
          go_roundw
          case rel => exact ⟨i + 1, _, _, by omega, by go_num, by rw [HT.out]; rfl, HS.out, HP.out, HB.out, HX.out⟩
          case measure => simp [intOf]; omega
        | true =>
          generalize hki : k + i = q at *
          go_upto_region 8 with (fail)
          refine wp_region_T_drew (fun w' => w'.cell? ⟨g, q, none⟩ = some (.int .u8 (x.toNat : Nat)) ∧ w'.cell? ⟨w.heap.size, i, none⟩ = some (.int .u8 (tt.toNat : Nat))) 11 (by kernel_rfl) ⟨y0, z0⟩ (fun hS => ?_)
          refine wpAnyT_pure 0 rfl (by kernel_rfl) (by decide) (by kernel_rfl) (by kernel_rfl) (fun _ _ _ h => h) hS (by kernel_rfl) (v := ?_) ?_ ?_
          rotate_left
          · intro w'; go_simp; (try with_reducible rfl)
          simp only [Act.put, List.setIfInBounds_toArray, List.set_cons_zero, List.set_cons_succ]
          refine wpAnyT_pure 1 rfl (by kernel_rfl) (by decide) (by kernel_rfl) (by kernel_rfl) (fun _ _ _ h => h) hS (by kernel_rfl) (v := ?_) ?_ ?_
          rotate_left
          · intro w'; go_simp; (try with_reducible rfl)
          simp only [Act.put, List.setIfInBounds_toArray, List.set_cons_zero, List.set_cons_succ]
          refine wpAnyT_pure 2 rfl (by kernel_rfl) (by decide) (by kernel_rfl) (by kernel_rfl) (fun _ _ _ h => h) hS (by kernel_rfl) (v := ?_) ?_ ?_
          rotate_left
          · intro w'; go_simp; (try with_reducible rfl)
          simp only [Act.put, List.setIfInBounds_toArray, List.set_cons_zero, List.set_cons_succ]
          refine wpAnyT_pure 3 rfl (by kernel_rfl) (by decide) (by kernel_rfl) (by kernel_rfl) (fun _ _ _ h => h) hS (by kernel_rfl) (v := ?_) ?_ ?_
          rotate_left
          · intro w'; go_simp; (try with_reducible rfl)
          simp only [Act.put, List.setIfInBounds_toArray, List.set_cons_zero, List.set_cons_succ]
          refine wpAnyT_pure 4 rfl (by kernel_rfl) (by decide) (by kernel_rfl) (by kernel_rfl) (fun _ _ _ h => h) hS (by kernel_rfl) (v := ?_) ?_ ?_
          rotate_left
          · intro w'; go_simp; (try with_reducible rfl)
          simp only [Act.put, List.setIfInBounds_toArray, List.set_cons_zero, List.set_cons_succ]
          refine wpAnyT_take 5 rfl (by kernel_rfl) (by kernel_rfl) (by decide) (by kernel_rfl) (by kernel_rfl) (fun _ _ _ h => h) hS (by kernel_rfl) (v := ?_) ?_ ?_
          rotate_left
          · intro w' hSw; (try dsimp only at hSw); go_simp; (try with_reducible rfl)
          simp only [Act.put, List.setIfInBounds_toArray, List.set_cons_zero, List.set_cons_succ]
          refine wpAnyT_pure 6 rfl (by kernel_rfl) (by decide) (by kernel_rfl) (by kernel_rfl) (fun _ _ _ h => h) hS (by kernel_rfl) (v := ?_) ?_ ?_
          rotate_left
          · intro w'; go_simp; (try with_reducible rfl)
          simp only [Act.put, List.setIfInBounds_toArray, List.set_cons_zero, List.set_cons_succ]
          refine wpAnyT_pure 7 rfl (by kernel_rfl) (by decide) (by kernel_rfl) (by kernel_rfl) (fun _ _ _ h => h) hS (by kernel_rfl) (v := ?_) ?_ ?_
          rotate_left
          · intro w'; go_simp; (try with_reducible rfl)
          simp only [Act.put, List.setIfInBounds_toArray, List.set_cons_zero, List.set_cons_succ]
          refine wpAnyT_take 8 rfl (by kernel_rfl) (by kernel_rfl) (by decide) (by kernel_rfl) (by kernel_rfl) (fun _ _ _ h => h) hS (by kernel_rfl) (v := ?_) ?_ ?_
          rotate_left
          · intro w' hSw; (try dsimp only at hSw); go_simp; (try with_reducible rfl)
          simp only [Act.put, List.setIfInBounds_toArray, List.set_cons_zero, List.set_cons_succ]
          refine wpAnyT_pure 9 rfl (by kernel_rfl) (by decide) (by kernel_rfl) (by kernel_rfl) (fun _ _ _ h => h) hS (by kernel_rfl) (v := ?_) ?_ ?_
          rotate_left
          · intro w'; go_simp; (try with_reducible rfl)
          simp only [Act.put, List.setIfInBounds_toArray, List.set_cons_zero, List.set_cons_succ]
          refine wpAnyT_pure 10 rfl (by kernel_rfl) (by decide) (by kernel_rfl) (by kernel_rfl) (fun _ _ _ h => h) hS (by kernel_rfl) (v := ?_) ?_ ?_
          rotate_left
          · intro w'; go_simp; (try with_reducible rfl)
          simp only [Act.put, List.setIfInBounds_toArray, List.set_cons_zero, List.set_cons_succ]
          refine wpAnyT_one 11 (by kernel_rfl) rfl (by kernel_rfl) (fun K hK => ?_)
          go_simp
          refine hK _ _ (fun h => absurd rfl h) ?_
          clear hK K
          refine wpAnyT_done (by kernel_rfl) ?_
          clear hS
          go_wp2
          go_roundw
          case rel => exact ⟨i + 1, _, _, by omega, by go_num, rfl, HS.out, HP.out, HB.out, HX.out⟩
          case measure => simp [intOf]; omega
      · have hkn' : ¬ ((k + i : Nat) : Int) < (n : Int) := by omega
        have hml := ho.len
        have HO := Lib.hid ho
        have HT := Lib.hid htw
        have HBW := Lib.hid hbw
        cases ch with
        | true =>
          clear ho htw hbw hx
          go_wp2
          go_ret
          rw [hn] at HO
          exact ⟨k, M, g, c1, rfl, HO.out, HT.out.fin hi, HBW.out⟩
        | false =>
          obtain ⟨x, hx1⟩ : ∃ x, M[k]? = some x := ⟨M[k]'(by omega), List.getElem?_eq_getElem (by omega)⟩
          have y0 := ho.cell k x hx1
          have yf := ho.free k
          have yl := ho.lt.2
          have hn0 : (0 : Int) < (n : Int) := by omega
          have j0 : (0 : Int) ≤ (k : Int) := by omega
          have j3 : (k : Int) < (n : Int) + 4 := by omega
          have hxr : bits .xor .u8 (x.toNat : Int) 1 = ((x ^^^ 1).toNat : Int) := bits_xor_u8 x 1
          have HF := htw.fin1 (by omega) hk x hx1
          generalize x ^^^ 1 = y at hxr HF
          have hput := ho.put k y
          have HP := Lib.hid hput.1
          have HB := Lib.hid (hbw.setCell (p := ⟨g, k, none⟩) (by simp; omega) (.int .u8 (y.toNat : Nat)))
          clear ho htw hbw hx hput
          go_wp2
          go_ret
          rw [hn] at HP
          exact ⟨k, _, g, c1, rfl, HP.out, HF, HB.out⟩
    · obtain rfl : i = 4 := by omega
      have hml := ho.len
      have HO := Lib.hid ho
      have HT := Lib.hid htw
      have HBW := Lib.hid hbw
      cases ch with
      | true =>
        clear ho htw hbw hx
        go_wp2
        go_ret
        rw [hn] at HO
        exact ⟨k, M, g, c1, rfl, HO.out, HT.out.fin hi, HBW.out⟩
      | false =>
        obtain ⟨x, hx1⟩ : ∃ x, M[k]? = some x := ⟨M[k]'(by omega), List.getElem?_eq_getElem (by omega)⟩
        have y0 := ho.cell k x hx1
        have yf := ho.free k
        have yl := ho.lt.2
        have hn0 : (0 : Int) < (n : Int) := by omega
        have j0 : (0 : Int) ≤ (k : Int) := by omega
        have j3 : (k : Int) < (n : Int) + 4 := by omega
        have hxr : bits .xor .u8 (x.toNat : Int) 1 = ((x ^^^ 1).toNat : Int) := bits_xor_u8 x 1
        have HF := htw.fin1 (by omega) hk x hx1
        generalize x ^^^ 1 = y at hxr HF
        have hput := ho.put k y
        have HP := Lib.hid hput.1
        have HB := Lib.hid (hbw.setCell (p := ⟨g, k, none⟩) (by simp; omega) (.int .u8 (y.toNat : Nat)))
        clear ho htw hbw hx hput
        go_wp2
        go_ret
        rw [hn] at HP
        exact ⟨k, _, g, c1, rfl, HP.out, HF, HB.out⟩
/-- bytes whose sum is another one -/
theorem getAll_sum {M : Bs} (h : By.opn M = ([], 12)) (hl : M.length ≤ 1048576) : Me.getAll M = .error 12 := by
  unfold Me.getAll
  rw [if_neg (by omega), h]
  rfl
theorem unp_sum {M : Bs} (h : By.opn M = ([], 12)) (hl : M.length ≤ 1048640) : Me.unp M = (0, 0, 0, 0, [], 12) := by
  unfold Me.unp
  rw [if_neg (by omega), h]
  rfl
end Go.Proofs.Ytgamhgeiceakeaa
/- FrameBack, the walk. -/
set_option linter.unusedVariables false
set_option linter.unusedSimpArgs false
namespace Go.Proofs.Ytgamhgeiceakeaa
open Go.RowKit
open By (Bs)
open Va (V)
open Me (Ms)
/-- what Get tells of sealed bytes is right and put so -/
theorem getAll_told {B : Bs} {M : Ms} (hB : B.length ≤ 1000) (h : Me.getAll (By.shut B) = .ok M) : Me.right M = true ∧ Me.put M = (By.shut B, 0) := by
  unfold Me.getAll at h
  rw [if_neg (by rw [By.shut_len]; omega), By.open_shut] at h
  simp only at h
  rw [if_neg (by simp)] at h
  obtain ⟨h1, h2⟩ := Me.get_right B M h (by omega)
  refine ⟨h1, ?_⟩
  unfold Me.put
  rw [if_pos h1, h2]
theorem unp_told {B : Bs} {F L S A : Int} {D : Bs} (hB : B.length ≤ 1000) (h : Me.unp (By.shut B) = (F, L, S, A, D, 0)) : (Va.I64 F ∧ Va.I64 L ∧ Va.I64 S ∧ Va.I64 A) ∧ Me.pack F L S A D = (By.shut B, 0) := by
  unfold Me.unp at h
  rw [if_neg (by rw [By.shut_len]; omega), By.open_shut] at h
  simp only at h
  rw [if_neg (by simp)] at h
  obtain ⟨h1, h2⟩ := fin_inv B F L S A D h
  obtain ⟨⟨p1, p2, p3, p4⟩, q1, q2, q3, q4, _⟩ := pk_right h1
  unfold By.top at q1 q2 q3 q4
  simp only at q1 q2 q3 q4
  unfold Va.I64
  exact ⟨⟨by omega, by omega, by omega, by omega⟩, pack_fin B F L S A D h⟩
theorem Ow.bt {w : World} {B : Nat} {v : Value} {d : Bs} (h : Ow w B v d) : ∃ (ba : Option Addr) (cap : Nat), v = .slice ba d.length cap ∧ Rd w ba d ∧ (ba = none → d.length = 0) ∧ d.length ≤ cap ∧ cap ≤ maxLen := by
  obtain ⟨ba, cap, e, h1, h2, h3⟩ := h.rd
  refine ⟨ba, cap, e, h1, h2, h3, ?_⟩
  rcases h.2 with ⟨h', _⟩ | ⟨g', cap', cur, h', hb, hg, hnc, hcm, _⟩
  · rw [e] at h'
    obtain ⟨_, _, h3'⟩ := Value.slice.inj h'
    rw [h3']; simp [maxLen]
  · rw [e] at h'
    obtain ⟨_, _, h3'⟩ := Value.slice.inj h'
    rw [h3']; exact hcm
theorem mg_uni {R : Except Nat Ms} {w : World} {e : Ending} {w' : World} (h : MgPost R w e w') : ∃ (M : Ms) (bn bv bb : Option Addr) (cn cv cb er : Nat), e = .returned (.tuple #[.agg (mcells M bn bv bb cn cv cb), .int .i64 er]) ∧ (er = 0 → R = .ok M ∧ RM (fun b => w.heap.size ≤ b) w' M bn bv bb cn cv cb) ∧ Below w.heap.size w w' := by
  cases R with
  | error er =>
    obtain ⟨h1, h2, h3⟩ := h
    exact ⟨⟨0, [], [], []⟩, none, none, none, 0, 0, 0, er, h1, fun h0 => absurd h0 h2, h3⟩
  | ok M =>
    obtain ⟨bn, bv, bb, cn, cv, cb, h1, h2, h3⟩ := h
    exact ⟨M, bn, bv, bb, cn, cv, cb, 0, h1, fun _ => ⟨rfl, h2⟩, h3⟩
set_option maxHeartbeats 12800000 in
set_option maxRecDepth 100000 in
theorem back_row {ok : Nat → Prop} (m : Ms) (bn bv bb : Option Addr) (cn cv cb : Nat) (f l s a : Int) (d : Bs) (x : Value) (B : Bs) (bx : Value) (at' : Int) (turn : Nat) (w : World)
    (h : RM ok w m bn bv bb cn cv cb) (hp : RP w f l s a d x) (hbt : Bt w B bx) (_ : -9223372036854775808 ≤ at' ∧ at' ≤ 9223372036854775807) (htn : turn < 256) :
    Calls Try.prog 5 #[.agg (mcells m bn bv bb cn cv cb), x, bx, .int .i64 at', .int .u8 turn] w (BB true w) := by
  obtain ⟨tt, rfl⟩ : ∃ tt : UInt8, turn = tt.toNat := ⟨UInt8.ofNat turn, by rw [UInt8.toNat_ofNat']; omega⟩
  have CS1 := Lib.hid (fun W (hb : Below w.heap.size w W) => smallMsg_any _ _ _ _ _ _ _ _ W (h.past hb))
  have CM1 := Lib.hid (fun W (hb : Below w.heap.size w W) => mput_any _ _ _ _ _ _ _ _ W (h.past hb))
  have CR1 := Lib.hid (fun W (hb : Below w.heap.size w W) => mright_any _ _ _ _ _ _ _ _ W (h.past hb))
  have hCE : ∀ ok' bn1 bv1 bb1 cn1 cv1 cb1 W, RM ok' W m bn1 bv1 bb1 cn1 cv1 cb1 → Below w.heap.size w W → Calls Try.prog 12 #[.agg (mcells m bn1 bv1 bb1 cn1 cv1 cb1), .agg (mcells m bn bv bb cn cv cb)] W (BB true W) := by
    intro ok' bn1 bv1 bb1 cn1 cv1 cb1 W q hb
    have e : Me.same m m = true := (Me.same_iff m m).2 rfl
    have c := sameMsg_any _ _ _ _ _ _ _ _ _ _ _ _ _ _ _ _ W q (h.past hb)
    rw [e] at c
    exact c
  have CE := Lib.hid hCE
  clear hCE
  obtain ⟨ba, cap, rfl, g1, g2, g3, g4⟩ := hp.ex
  have hCQ : ∀ b5 c5 W, Rd W b5 d → (b5 = none → d.length = 0) → Below w.heap.size w W → Calls Try.prog 19 #[.agg #[.int .i64 f, .int .i64 l, .int .i64 s, .int .i64 a, .slice b5 d.length c5], .agg #[.int .i64 f, .int .i64 l, .int .i64 s, .int .i64 a, .slice ba d.length cap]] W (BB true W) := by
    intro b5 c5 W q q2 hb
    have e : (eq4 f l s a f l s a && (d == d)) = true := by unfold eq4; simp
    have c := samePacket_any f l s a f l s a b5 ba d.length d.length c5 cap d d W rfl q q2 rfl (g1.below hb) g2
    rw [e] at c
    exact c
  have CQ := Lib.hid hCQ
  clear hCQ
  have CP1 := Lib.hid (fun W (hb : Below w.heap.size w W) => pack_any f l s a d _ W ⟨⟨ba, cap, rfl, g1.below hb, g2, g3, g4⟩, hp.num⟩)
  obtain ⟨sa, scap, rfl, s1, s2, s3, s4⟩ := hbt.ex
  have HA0 := Lib.hid (A2.new w (mcells m bn bv bb cn cv cb) #[.int .i64 f, .int .i64 l, .int .i64 s, .int .i64 a, .slice ba d.length cap])
  obtain ⟨L1, e1, hp1⟩ : ∃ L e, Me.put m = (L, e) := ⟨_, _, rfl⟩
  rw [hp1] at CM1
  have hP1 : ∃ rb : Bool, Me.right m = rb ∧ ((e1 : Int) == 0) = rb ∧ (rb = true → Me.getAll L1 = .ok m) := by
    unfold Me.put at hp1
    cases hr : Me.right m with
    | true =>
      rw [hr] at hp1; cases hp1
      exact ⟨true, rfl, rfl, fun _ => getAll_put hr (rm_wf h)⟩
    | false => rw [hr] at hp1; cases hp1; exact ⟨false, rfl, rfl, fun q => by cases q⟩
  obtain ⟨rb, hrb, hz1, hg1⟩ := hP1
  rw [hrb] at CR1
  have HZ1 := Lib.hid hz1
  have HG1 := Lib.hid hg1
  clear hrb hz1 hg1
  obtain ⟨L2, e2, hp2⟩ : ∃ L e, Me.pack f l s a d = (L, e) := ⟨_, _, rfl⟩
  rw [hp2] at CP1
  have HP2 := Lib.hid (show (e2 = 14) ∨ (e2 = 0 ∧ Me.unp L2 = (f, l, s, a, d, 0) ∧ ∃ c : Bs, L2 = By.shut c ∧ c.length ≤ 1048626) from by
    unfold Me.pack at hp2
    cases hr : rightB f l s a d.length with
    | true =>
      rw [hr] at hp2; cases hp2
      obtain ⟨⟨p1, p2, p3, p4⟩, hpr⟩ := pk_right hr
      have hl := By.pk_len ⟨f.toNat, l.toNat, s.toNat, a.toNat, d⟩
      have h5 := hpr.2.2.2.2.1
      have hu := unp_pack _ hpr
      simp only at hu hl h5
      rw [Int.toNat_of_nonneg p1, Int.toNat_of_nonneg p2, Int.toNat_of_nonneg p3, Int.toNat_of_nonneg p4] at hu
      exact Or.inr ⟨rfl, hu, _, rfl, by omega⟩
    | false => rw [hr] at hp2; cases hp2; exact Or.inl rfl)
  have CSl := Lib.hid (fun W (hb : Below w.heap.size w W) (hl : B.length ≤ 1099511627776) => seal_any sa B.length scap B W rfl (s1.below hb) s2 hl)
  clear h hp hbt g1 g2 g3 g4 hp1 hp2 s1 s2 s3 s4
  obtain ⟨sm, hsm⟩ : ∃ b, Me.small m = b := ⟨_, rfl⟩
  rw [hsm] at CS1
  clear hsm
  go_enter Try.func5, Try.ntmps5
  go_wp2_with fail
  with_reducible refine (CS1.out _ HA0.out.bl).mono ?_
  rintro e w1 ⟨rfl, hb⟩
  have HA1 := Lib.hid (HA0.out.past hb)
  clear hb HA0
  cases sm with
  | false =>
    go_wp2_with fail
    with_reducible refine (awake_any _).mono ?_
    rintro e w9 ⟨rfl, hb9⟩
    have HB9 := Lib.hid ((HA1.out).bl.trans (hb9.mono (HA1.out).bl.size))
    clear hb9
    go_wp2
    go_ret
    exact ⟨rfl, HB9.out⟩
  | true =>
    by_cases k1 : d.length ≤ 1000
    · have k1' : ¬ (1000 : Int) < (d.length : Int) := by omega
      by_cases kb : B.length ≤ 1000
      · have kb' : ¬ (1000 : Int) < (B.length : Int) := by omega
        have o0 := (HA1.out).one.cell 0
        have o1 := (HA1.out).one.cell 1
        have o2 := (HA1.out).one.cell 2
        have o3 := (HA1.out).one.cell 3
        have olt := (HA1.out).one.lt
        have p0 := (HA1.out).two.cell 0
        have p1 := (HA1.out).two.cell 1
        have p2 := (HA1.out).two.cell 2
        have p3 := (HA1.out).two.cell 3
        have p4 := (HA1.out).two.cell 4
        have plt := (HA1.out).two.lt
        go_wp2_with fail
        with_reducible refine (CSl.out _ HA1.out.bl (by omega)).mono ?_
        rintro e w2 ⟨sv, rfl, hos, hb, -⟩
        obtain ⟨sg, sc, rfl, hsr, hsn, hsc⟩ := hos.rd
        have HA2 := Lib.hid (HA1.out.past hb)
        have HS2 := Lib.hid hsr
        have HSN := Lib.hid hsn
        clear o0 o1 o2 o3 olt p0 p1 p2 p3 p4 plt
        clear hb hos hsr hsn HA1 CS1 CSl
        have HT1 := Lib.hid (fun M (q : Me.getAll (By.shut B) = .ok M) => getAll_told kb q)
        have HT2 := Lib.hid (fun F L S A D (q : Me.unp (By.shut B) = (F, L, S, A, D, 0)) => unp_told (F := F) (L := L) (S := S) (A := A) (D := D) kb q)
        generalize By.shut B = SB at *
        have o0 := (HA2.out).one.cell 0
        have o1 := (HA2.out).one.cell 1
        have o2 := (HA2.out).one.cell 2
        have o3 := (HA2.out).one.cell 3
        have olt := (HA2.out).one.lt
        have p0 := (HA2.out).two.cell 0
        have p1 := (HA2.out).two.cell 1
        have p2 := (HA2.out).two.cell 2
        have p3 := (HA2.out).two.cell 3
        have p4 := (HA2.out).two.cell 4
        have plt := (HA2.out).two.lt
        go_wp2_with fail
        refine (mget_any sg SB.length sc SB w2 rfl HS2.out HSN.out hsc).mono ?_
        intro e w3 hmg
        obtain ⟨M, bn1, bv1, bb1, cn1, cv1, cb1, er, rfl, hR, hb⟩ := mg_uni hmg
        have hal : Below w3.heap.size w3 (w3.alloc (.cells (mcells M bn1 bv1 bb1 cn1 cv1 cb1) 30)) := (Below.refl _ _).alloc (Nat.le_refl _) _
        have HA3 := Lib.hid ((HA2.out.past hb).past hal)
        have HS3 := Lib.hid ((HS2.out.below hb).below hal)
        have HR3 := Lib.hid (fun q => (⟨(hR q).1, (hR q).2.past hal⟩ : Me.getAll SB = .ok M ∧ RM _ _ M bn1 bv1 bb1 cn1 cv1 cb1))
        have HX3 := Lib.hid (Blk.new w3 (mcells M bn1 bv1 bb1 cn1 cv1 cb1) 30)
        clear o0 o1 o2 o3 olt p0 p1 p2 p3 p4 plt
        clear hmg hR hb hal HA2 HS2
        go_upto_if 51 with (fail)
        generalize w3.alloc (.cells (mcells M bn1 bv1 bb1 cn1 cv1 cb1) 30) = w4 at *
        go_cut [] (fun wx => Below w4.heap.size w4 wx)
        case first =>
          by_cases z : er = 0
          · subst z
            obtain ⟨q1, q2⟩ := HR3.out rfl
            obtain ⟨r1, r2⟩ := HT1.out M q1
            have HM4 := Lib.hid q2
            have x0 := HX3.out.cell 0
            have x1 := HX3.out.cell 1
            have x2 := HX3.out.cell 2
            have x3 := HX3.out.cell 3
            have xlt := HX3.out.lt
            have CM := mput_any _ M bn1 bv1 bb1 cn1 cv1 cb1 w4 q2
            rw [r2] at CM
            have HCM := Lib.hid CM
            have HRT := Lib.hid r1
            clear q1 q2 r1 r2 CM HR3
            go_wp2_with fail
            with_reducible refine HCM.out.mono ?_
            rintro e w5 ⟨ya, yc, rfl, hr5, hn5, hc5, -, hb⟩
            have HB5 := Lib.hid hb
            have HM5 := Lib.hid (HM4.out.past hb)
            have HX5 := Lib.hid (HX3.out.below hb)
            have HY5 := Lib.hid hr5
            have HYN := Lib.hid hn5
            clear hb hr5 hn5 hc5 HCM HM4 x0 x1 x2 x3 xlt
            have x0 := HX5.out.cell 0
            have x1 := HX5.out.cell 1
            have x2 := HX5.out.cell 2
            have x3 := HX5.out.cell 3
            have xlt := HX5.out.lt
            have CR := mright_any _ M bn1 bv1 bb1 cn1 cv1 cb1 w5 HM5.out
            rw [HRT.out] at CR
            have HCR := Lib.hid CR
            clear CR
            go_wp2_with fail
            with_reducible refine HCR.out.mono ?_
            rintro e w6 ⟨rfl, hb⟩
            have HB6 := Lib.hid (HB5.out.trans (hb.mono HB5.out.size))
            have CB := sameBytes_any ya sg SB.length SB.length yc sc SB SB w6 rfl (HY5.out.below hb) HYN.out rfl ((HS3.out.below HB5.out).below hb) HSN.out
            rw [beq_self_eq_true] at CB
            have HCB := Lib.hid CB
            clear CB hb HCR x0 x1 x2 x3 xlt HX5 HM5 HY5
            go_wp2_with fail
            with_reducible refine HCB.out.mono ?_
            rintro e w7 ⟨rfl, rfl⟩
            go_wp2
            go_meet
            exact HB6.out
          · have z' : ((er : Int) == 0) = false := bneI (by omega)
            clear HR3 HX3
            go_wp2
            go_meet
            exact Below.refl _ _
        case rest =>
          have HA4 := Lib.hid (HA3.out.past hcut)
          have HS4 := Lib.hid (HS3.out.below hcut)
          clear hcut HA3 HS3 HR3 HX3
          rcases hun : Me.unp SB with ⟨F, L, S, A, D, E⟩
          have HU := Lib.hid (fun (q : E = 0) => HT2.out F L S A D (by rw [← q]; exact hun))
          have CU := unpack_any sg SB.length sc SB wc rfl HS4.out HSN.out hsc
          rw [hun] at CU
          have HCU := Lib.hid CU
          clear CU hun HT1 HT2
          go_wp2_with fail
          with_reducible refine HCU.out.mono ?_
          rintro e w5 ⟨dv, rfl, hod, hb⟩
          obtain ⟨b5, c5, rfl, r5, n5, k5, m5⟩ := hod.bt
          have hal : Below w5.heap.size w5 (w5.alloc (.cells #[.int .i64 F, .int .i64 L, .int .i64 S, .int .i64 A, .slice b5 D.length c5] 41)) := (Below.refl _ _).alloc (Nat.le_refl _) _
          have HA5 := Lib.hid ((HA4.out.past hb).past hal)
          have HS5 := Lib.hid ((HS4.out.below hb).below hal)
          have HD5 := Lib.hid (r5.below hal)
          have HDN := Lib.hid n5
          have HX5 := Lib.hid (Blk.new w5 #[.int .i64 F, .int .i64 L, .int .i64 S, .int .i64 A, .slice b5 D.length c5] 41)
          clear hb hal hod r5 n5 HA4 HS4 HCU
          go_upto_if 76 with (fail)
          generalize w5.alloc (.cells #[.int .i64 F, .int .i64 L, .int .i64 S, .int .i64 A, .slice b5 D.length c5] 41) = w6 at *
          go_cut [] (fun wx => Below w6.heap.size w6 wx)
          case first =>
            by_cases z : E = 0
            · have hE := HU.out z
              subst z
              obtain ⟨r1, r2⟩ := hE
              have x0 := HX5.out.cell 0
              have x1 := HX5.out.cell 1
              have x2 := HX5.out.cell 2
              have x3 := HX5.out.cell 3
              have x4 := HX5.out.cell 4
              have xlt := HX5.out.lt
              have CM := pack_any F L S A D _ w6 ⟨⟨b5, c5, rfl, HD5.out, HDN.out, k5, m5⟩, r1⟩
              rw [r2] at CM
              have HCM := Lib.hid CM
              clear r1 r2 CM HU
              go_wp2_with fail
              with_reducible refine HCM.out.mono ?_
              rintro e w7 ⟨ya, yc, rfl, hr5, hn5, hc5, -, hb⟩
              have HB7 := Lib.hid hb
              have CB := sameBytes_any ya sg SB.length SB.length yc sc SB SB w7 rfl hr5 hn5 rfl (HS5.out.below hb) HSN.out
              rw [beq_self_eq_true] at CB
              have HCB := Lib.hid CB
              clear CB hb HCM x0 x1 x2 x3 x4 xlt hr5 hn5 hc5
              go_wp2_with fail
              with_reducible refine HCB.out.mono ?_
              rintro e w8 ⟨rfl, rfl⟩
              go_wp2
              go_meet
              exact HB7.out
            · have z' : ((E : Int) == 0) = false := bneI (by omega)
              clear HU HX5
              go_wp2
              go_meet
              exact Below.refl _ _
          case rest =>
            have HA6 := Lib.hid (HA5.out.past hcut)
            clear hcut HA5 HS5 HU HX5 HD5 HDN
            have o0 := (HA6.out).one.cell 0
            have o1 := (HA6.out).one.cell 1
            have o2 := (HA6.out).one.cell 2
            have o3 := (HA6.out).one.cell 3
            have olt := (HA6.out).one.lt
            have p0 := (HA6.out).two.cell 0
            have p1 := (HA6.out).two.cell 1
            have p2 := (HA6.out).two.cell 2
            have p3 := (HA6.out).two.cell 3
            have p4 := (HA6.out).two.cell 4
            have plt := (HA6.out).two.lt
            go_wp2_with fail
            with_reducible refine (CM1.out _ HA6.out.bl).mono ?_
            rintro e w7 ⟨ga, ca, rfl, hr7, hn7, hc7, -, hb⟩
            have HA7 := Lib.hid (HA6.out.past hb)
            have HR7 := Lib.hid hr7
            have HN7 := Lib.hid hn7
            clear o0 o1 o2 o3 olt p0 p1 p2 p3 p4 plt
            clear hb hr7 hn7 HA6 CM1
            have hz1 := HZ1.out
            go_upto_region 15 with (fail)
            have o0 := (HA7.out).one.cell 0
            have o1 := (HA7.out).one.cell 1
            have o2 := (HA7.out).one.cell 2
            have o3 := (HA7.out).one.cell 3
            have olt := (HA7.out).one.lt
            have p0 := (HA7.out).two.cell 0
            have p1 := (HA7.out).two.cell 1
            have p2 := (HA7.out).two.cell 2
            have p3 := (HA7.out).two.cell 3
            have p4 := (HA7.out).two.cell 4
            have plt := (HA7.out).two.lt
            go_wp2_with fail
            with_reducible refine (CR1.out _ HA7.out.bl).mono ?_
            rintro e w8 ⟨rfl, hb⟩
            have HA8 := Lib.hid (HA7.out.past hb)
            have HR8 := Lib.hid (HR7.out.below hb)
            clear o0 o1 o2 o3 olt p0 p1 p2 p3 p4 plt
            clear hb HA7 HR7 CR1
            have hbn : (rb != rb) = false := by cases rb <;> rfl
            go_upto_if 101 with (fail)
            clear hbn
            go_cut [] (fun wx => Below w8.heap.size w8 wx)
            case first =>
              cases rb with
              | true =>
                have CG := mget_any ga L1.length ca L1 w8 rfl HR8.out HN7.out hc7
                rw [HG1.out rfl] at CG
                have HCG := Lib.hid CG
                clear CG HG1 hz1
                go_wp2_with fail
                with_reducible refine HCG.out.mono ?_
                rintro e w9 ⟨bn1, bv1, bb1, cn1, cv1, cb1, rfl, hm9, hb⟩
                have hal : Below w9.heap.size w9 (w9.alloc (.cells (mcells m bn1 bv1 bb1 cn1 cv1 cb1) 30)) := (Below.refl _ _).alloc (Nat.le_refl _) _
                have HA9 := Lib.hid ((HA8.out.past hb).past hal)
                have HB9 := Lib.hid (hb.trans (hal.mono hb.size))
                have HM9 := Lib.hid (hm9.past hal)
                have HX9 := Lib.hid (Blk.new w9 (mcells m bn1 bv1 bb1 cn1 cv1 cb1) 30)
                clear hb hal hm9 HCG
                have o0 := (HA9.out).one.cell 0
                have o1 := (HA9.out).one.cell 1
                have o2 := (HA9.out).one.cell 2
                have o3 := (HA9.out).one.cell 3
                have olt := (HA9.out).one.lt
                have p0 := (HA9.out).two.cell 0
                have p1 := (HA9.out).two.cell 1
                have p2 := (HA9.out).two.cell 2
                have p3 := (HA9.out).two.cell 3
                have p4 := (HA9.out).two.cell 4
                have plt := (HA9.out).two.lt
                have x0 := HX9.out.cell 0
                have x1 := HX9.out.cell 1
                have x2 := HX9.out.cell 2
                have x3 := HX9.out.cell 3
                have xlt := HX9.out.lt
                go_wp2_with fail
                with_reducible refine (CE.out _ _ _ _ _ _ _ _ HM9.out HA9.out.bl).mono ?_
                rintro e w10 ⟨rfl, hb⟩
                have HB10 := Lib.hid (HB9.out.trans (hb.mono HB9.out.size))
                clear hb
                clear o0 o1 o2 o3 olt p0 p1 p2 p3 p4 plt
                clear x0 x1 x2 x3 xlt
                go_wp2
                go_meet
                exact HB10.out
              | false =>
                go_wp2
                go_meet
                exact Below.refl _ _
            case rest =>
              have HA9 := Lib.hid (HA8.out.past hcut)
              clear hcut HA8 HR8 HN7 hz1 HZ1 HG1
              have hw9 := HA9.out.two.lt
              have o0 := (HA9.out).one.cell 0
              have o1 := (HA9.out).one.cell 1
              have o2 := (HA9.out).one.cell 2
              have o3 := (HA9.out).one.cell 3
              have olt := (HA9.out).one.lt
              have p0 := (HA9.out).two.cell 0
              have p1 := (HA9.out).two.cell 1
              have p2 := (HA9.out).two.cell 2
              have p3 := (HA9.out).two.cell 3
              have p4 := (HA9.out).two.cell 4
              have plt := (HA9.out).two.lt
              go_wp2_with fail
              with_reducible refine (CP1.out _ HA9.out.bl).mono ?_
              rintro e w10 ⟨qa, qc, rfl, hr, hn, hc, ho, hb⟩
              have HA10 := Lib.hid (HA9.out.past hb)
              have HR10 := Lib.hid hr
              have HN10 := Lib.hid hn
              have HO10 := Lib.hid ho
              clear o0 o1 o2 o3 olt p0 p1 p2 p3 p4 plt
              clear hb hr hn ho HA9 CP1
              rcases HP2.out with rfl | ⟨rfl, hun, cc, hcc, hcl⟩
              · clear HP2
                have o0 := (HA10.out).one.cell 0
                have o1 := (HA10.out).one.cell 1
                have o2 := (HA10.out).one.cell 2
                have o3 := (HA10.out).one.cell 3
                have olt := (HA10.out).one.lt
                have p0 := (HA10.out).two.cell 0
                have p1 := (HA10.out).two.cell 1
                have p2 := (HA10.out).two.cell 2
                have p3 := (HA10.out).two.cell 3
                have p4 := (HA10.out).two.cell 4
                have plt := (HA10.out).two.lt
                go_wp2_with fail
                with_reducible refine (awake_any _).mono ?_
                rintro e w9 ⟨rfl, hb9⟩
                have HB9 := Lib.hid ((HA10.out).bl.trans (hb9.mono (HA10.out).bl.size))
                clear hb9
                go_wp2
                go_ret
                exact ⟨rfl, HB9.out⟩
              · have hL0 : L2 ≠ [] := by rw [hcc]; exact shut_ne _
                obtain ⟨qg, qc', eq, hqg, -⟩ := HO10.out.val hL0
                cases eq
                have HOH := Lib.hid (show Oh w10 _ qg L2.length qc L2 from HO10.out)
                have CU := unpack_any (some ⟨qg, 0, none⟩) L2.length qc L2 w10 rfl HR10.out (fun h => by cases h) hc
                rw [hun] at CU
                have HCU := Lib.hid CU
                have HCC := Lib.hid hcc
                clear CU hun hcc hL0 HP2 HO10 HR10 HN10
                go_wp2_with fail
                with_reducible refine HCU.out.mono ?_
                rintro e w11 ⟨dv, rfl, hod, hb⟩
                obtain ⟨b5, c5, rfl, r5, n5, k5, m5⟩ := hod.bt
                have hal : Below w11.heap.size w11 (w11.alloc (.cells #[.int .i64 f, .int .i64 l, .int .i64 s, .int .i64 a, .slice b5 d.length c5] 41)) := (Below.refl _ _).alloc (Nat.le_refl _) _
                have HA11 := Lib.hid ((HA10.out.past hb).past hal)
                have HO11 := Lib.hid (show Oh _ _ qg L2.length qc L2 from own_below (own_below HOH.out hb) hal)
                have HD11 := Lib.hid (r5.below hal)
                have HDN := Lib.hid n5
                have HX11 := Lib.hid (Blk.new w11 #[.int .i64 f, .int .i64 l, .int .i64 s, .int .i64 a, .slice b5 d.length c5] 41)
                clear hb hal hod r5 n5 HA10 HOH HCU
                have o0 := (HA11.out).one.cell 0
                have o1 := (HA11.out).one.cell 1
                have o2 := (HA11.out).one.cell 2
                have o3 := (HA11.out).one.cell 3
                have olt := (HA11.out).one.lt
                have p0 := (HA11.out).two.cell 0
                have p1 := (HA11.out).two.cell 1
                have p2 := (HA11.out).two.cell 2
                have p3 := (HA11.out).two.cell 3
                have p4 := (HA11.out).two.cell 4
                have plt := (HA11.out).two.lt
                have x0 := HX11.out.cell 0
                have x1 := HX11.out.cell 1
                have x2 := HX11.out.cell 2
                have x3 := HX11.out.cell 3
                have x4 := HX11.out.cell 4
                have xlt := HX11.out.lt
                go_wp2_with fail
                with_reducible refine (CQ.out _ _ _ HD11.out HDN.out HA11.out.bl).mono ?_
                rintro e w12 ⟨rfl, hb⟩
                have HA12 := Lib.hid (HA11.out.past hb)
                have HO12 := Lib.hid (show Oh _ _ qg L2.length qc L2 from own_below HO11.out hb)
                clear o0 o1 o2 o3 olt p0 p1 p2 p3 p4 plt
                clear x0 x1 x2 x3 x4 xlt hb HA11 HO11 HD11 HX11
                by_cases tz : tt = 0
                · subst tz
                  have t0 : (((0 : UInt8).toNat : Int) != 0) = false := rfl
                  have o0 := (HA12.out).one.cell 0
                  have o1 := (HA12.out).one.cell 1
                  have o2 := (HA12.out).one.cell 2
                  have o3 := (HA12.out).one.cell 3
                  have olt := (HA12.out).one.lt
                  have p0 := (HA12.out).two.cell 0
                  have p1 := (HA12.out).two.cell 1
                  have p2 := (HA12.out).two.cell 2
                  have p3 := (HA12.out).two.cell 3
                  have p4 := (HA12.out).two.cell 4
                  have plt := (HA12.out).two.lt
                  go_wp2_with fail
                  with_reducible refine (awake_any _).mono ?_
                  rintro e w9 ⟨rfl, hb9⟩
                  have HB9 := Lib.hid ((HA12.out).bl.trans (hb9.mono (HA12.out).bl.size))
                  clear hb9
                  go_wp2
                  go_ret
                  exact ⟨rfl, HB9.out⟩
                · have t0 : ((tt.toNat : Int) != 0) = true := by
                    rw [bne_iff_ne]
                    intro e
                    exact tz (By.u8_nil (by omega))
                  have hlp : 0 < L2.length := by rw [HCC.out, By.shut_len]; omega
                  have hlm : L2.length ≤ 1048640 := by rw [HCC.out, By.shut_len]; omega
                  go_wp2_with fail
                  with_reducible refine (pick_any at' L2.length _ hlp (by omega)).mono ?_
                  rintro e w13 ⟨k, hk, rfl, rfl⟩
                  obtain ⟨y, hy⟩ : ∃ y, L2[k]? = some y := ⟨L2[k], List.getElem?_eq_getElem hk⟩
                  have y0 := HO12.out.cell k y hy
                  have yf := HO12.out.free k
                  have yl := HO12.out.lt.2
                  have j0 : (0 : Int) ≤ (k : Int) := by omega
                  have j1 : (k : Int) < (L2.length : Int) := by omega
                  have hxr := bits_xor_u8 y tt
                  have hne : L2.set k (y ^^^ tt) ≠ L2 := fun e => by
                    have h1 : (L2.set k (y ^^^ tt))[k]? = L2[k]? := by rw [e]
                    rw [List.getElem?_set_self hk, hy] at h1
                    exact Me.u8_turn tz (Option.some.inj h1)
                  have hsum : By.opn (L2.set k (y ^^^ tt)) = ([], 12) := by
                    have h1 := HCC.out
                    rw [h1] at hne ⊢
                    exact By.one_sum cc _ k (by rw [List.length_set, By.shut_len]) (fun j hj => List.getElem?_set_ne (Ne.symm hj)) hne
                  generalize y ^^^ tt = z at hxr hne hsum
                  have hput := HO12.out.put k z
                  have hset : (L2.set k z).length = L2.length := List.length_set
                  have CU := unpack_any (some ⟨qg, 0, none⟩) L2.length qc (L2.set k z) _ hset hput.1.ow.rd1.1 (fun h => by cases h) hc
                  rw [unp_sum hsum (by rw [hset]; omega)] at CU
                  have HCU := Lib.hid CU
                  have HA13 := Lib.hid (HA12.out.grow hput.2 (by omega))
                  clear hne hsum hput hset CU hy HO12 HA12
                  go_wp2_with fail
                  with_reducible refine HCU.out.mono ?_
                  rintro e w14 ⟨dv2, rfl, hod, hb⟩
                  obtain ⟨b6, c6, rfl, -, -, -, -⟩ := hod.bt
                  have hal : Below w14.heap.size w14 (w14.alloc (.cells #[.int .i64 0, .int .i64 0, .int .i64 0, .int .i64 0, .slice b6 ([] : Bs).length c6] 41)) := (Below.refl _ _).alloc (Nat.le_refl _) _
                  have HA14 := Lib.hid ((HA13.out.past hb).past hal)
                  clear hb hal hod HA13 HCU y0 yf yl
                  go_wp2_with fail
                  with_reducible refine (awake_any _).mono ?_
                  rintro e w9 ⟨rfl, hb9⟩
                  have HB9 := Lib.hid ((HA14.out).bl.trans (hb9.mono (HA14.out).bl.size))
                  clear hb9
                  go_wp2
                  go_ret
                  exact ⟨rfl, HB9.out⟩
      · have kb' : (1000 : Int) < (B.length : Int) := by omega
        have o0 := (HA1.out).one.cell 0
        have o1 := (HA1.out).one.cell 1
        have o2 := (HA1.out).one.cell 2
        have o3 := (HA1.out).one.cell 3
        have olt := (HA1.out).one.lt
        have p0 := (HA1.out).two.cell 0
        have p1 := (HA1.out).two.cell 1
        have p2 := (HA1.out).two.cell 2
        have p3 := (HA1.out).two.cell 3
        have p4 := (HA1.out).two.cell 4
        have plt := (HA1.out).two.lt
        go_wp2_with fail
        with_reducible refine (awake_any _).mono ?_
        rintro e w9 ⟨rfl, hb9⟩
        have HB9 := Lib.hid ((HA1.out).bl.trans (hb9.mono (HA1.out).bl.size))
        clear hb9
        go_wp2
        go_ret
        exact ⟨rfl, HB9.out⟩
    · have k1' : (1000 : Int) < (d.length : Int) := by omega
      have o0 := (HA1.out).one.cell 0
      have o1 := (HA1.out).one.cell 1
      have o2 := (HA1.out).one.cell 2
      have o3 := (HA1.out).one.cell 3
      have olt := (HA1.out).one.lt
      have p0 := (HA1.out).two.cell 0
      have p1 := (HA1.out).two.cell 1
      have p2 := (HA1.out).two.cell 2
      have p3 := (HA1.out).two.cell 3
      have p4 := (HA1.out).two.cell 4
      have plt := (HA1.out).two.lt
      go_wp2_with fail
      with_reducible refine (awake_any _).mono ?_
      rintro e w9 ⟨rfl, hb9⟩
      have HB9 := Lib.hid ((HA1.out).bl.trans (hb9.mono (HA1.out).bl.size))
      clear hb9
      go_wp2
      go_ret
      exact ⟨rfl, HB9.out⟩
end Go.Proofs.Ytgamhgeiceakeaa
/- Arguments of array types, and []byte. -/
set_option linter.unusedVariables false
set_option linter.unusedSimpArgs false
namespace Go.Proofs.Ytgamhgeiceakeaa
open Go.ChangeShapes Go.WideShapes Go.ChangeAt Go.RowKit
open By (Bs)
section
variable {H : Type} {enc : TypeId × Value → H}
theorem cellsOf_one8 : Try.prog.cellsOf 5 = 1 := by kernel_rfl
theorem cellsOf_four8 : Try.prog.cellsOf 57 = 4 := by kernel_rfl
theorem okWide_arr {P : Program} {w : World} {r : Reach} {base n : Nat} {t e : TypeId} {v : Value} (ht : P.underlying t = some (.array n e)) (h : Value.okWide P w r base t v) : ∃ cs, v = .agg cs ∧ cs.size = P.cellsOf t := by
  simp only [Value.okWide, ht] at h
  obtain ⟨cs, h1, h2, _⟩ := h
  exact ⟨cs, h1, h2⟩
set_option maxRecDepth 100000 in
theorem open_four8 {r : Reach} {base : Nat} {W : World} {v0 : Value} {d0 : DataW H} {p0 : List MemPlace} (hval : Value.okWide Try.prog W r base 57 v0) (h : DataW.Trod enc Try.prog W 0 (fun _ => true) true 57 v0 d0 p0) :
    ∃ t0 t1 t2 t3 : UInt8, v0 = .agg #[.int .u8 (t0.toNat : Nat), .int .u8 (t1.toNat : Nat), .int .u8 (t2.toNat : Nat), .int .u8 (t3.toNat : Nat)] := by
  obtain ⟨cs0, rfl, hsz⟩ := okWide_arr Try.underlying57 hval
  rw [cellsOf_four8] at hsz
  obtain ⟨fuel, hf⟩ := h
  obtain ⟨cl⟩ := cs0
  have hlen' : cl.length = 4 := by simpa using hsz
  obtain ⟨a0, a1, a2, a3, rfl⟩ : ∃ a0 a1 a2 a3, cl = [a0, a1, a2, a3] := by
    match cl, hlen' with
    | [a0, a1, a2, a3], _ => exact ⟨_, _, _, _, rfl⟩
  obtain ⟨y0, y1, y2, y3, n, -, f0, f1, f2, f3⟩ := trod_array4 Try.underlying57 cellsOf_one8 hf
  obtain ⟨n0, e0, _, w0⟩ := DataW.trod_int Try.underlying5 f0
  obtain ⟨n1, e1, _, w1⟩ := DataW.trod_int Try.underlying5 f1
  obtain ⟨n2, e2, _, w2⟩ := DataW.trod_int Try.underlying5 f2
  obtain ⟨n3, e3, _, w3⟩ := DataW.trod_int Try.underlying5 f3
  cases e0; cases e1; cases e2; cases e3
  have b0 := bounds_u8 w0
  have b1 := bounds_u8 w1
  have b2 := bounds_u8 w2
  have b3 := bounds_u8 w3
  have q : ∀ z : Int, 0 ≤ z → z ≤ 255 → z = ((UInt8.ofNat z.toNat).toNat : Nat) := fun z h1 h2 => by rw [UInt8.toNat_ofNat']; omega
  refine ⟨UInt8.ofNat n0.toNat, UInt8.ofNat n1.toNat, UInt8.ofNat n2.toNat, UInt8.ofNat n3.toNat, ?_⟩
  rw [← q n0 (by omega) (by omega), ← q n1 (by omega) (by omega), ← q n2 (by omega) (by omega), ← q n3 (by omega) (by omega)]
set_option maxRecDepth 100000 in
theorem open_bt {r : Reach} {base : Nat} {W : World} {v0 : Value} {d0 : DataW H} {p0 : List MemPlace} (hval : Value.okWide Try.prog W r base 27 v0) (h : DataW.Trod enc Try.prog W 0 (fun _ => true) true 27 v0 d0 p0) :
    ∃ l : Bs, Bt W l v0 := by
  obtain ⟨a1, len, cap, rfl⟩ := okWide_slice Try.underlying27 hval
  obtain ⟨fuel, hf⟩ := h
  exact bytes_of_trod hf
end
end Go.Proofs.Ytgamhgeiceakeaa
set_option linter.unusedVariables false
set_option linter.unusedSimpArgs false
namespace Go.Proofs.Ytgamhgeiceakeaa
open Go.ChangeShapes Go.WideShapes Go.ChangeAt Go.RowKit
set_option maxRecDepth 100000 in
theorem back_lifted (os : Os) (started : os.Started) (H : Type) (enc : TypeId × Value → H) :
    ReturnsInHanded {} Try.checked os 5 .any (Rows.frameBackSpec.pre6 enc Try.prog Try.f5 Rows.frameBackRow.domain false) (Rows.frameBackSpec.post enc Try.prog Try.f5 false true false false) := by
  refine returnsInHanded_of_change (C := Try.checked) zz_own started (by kernel_rfl) Try.func5
    (ChangeSpec.witness6 (enc := enc) (C := Try.checked) false ⟨#[], #[.agg #[.int .u8 0, .slice none 0 0, .slice none 0 0, .slice none 0 0], .agg #[.int .i64 0, .int .i64 0, .int .i64 0, .int .i64 0, .slice none 0 0], .slice none 0 0, .int .i64 0, .int .u8 0], []⟩ 8 (by kernel_rfl) (by kernel_rfl) (by kernel_rfl) (by kernel_rfl)) ?_
  intro W base args ds gs before hval0 hW hcnd _
  have hval : ∀ (j : Nat) t v, Try.f5.params[j]? = some t → args[j]? = some v → Value.okWide Try.prog W .any base t v := hval0
  have hW' := hW
  obtain ⟨p, q, hA0, hV, rfl, hfz, hnd⟩ := hW
  have hA : DataW.TrodAll enc Try.prog W 0 (fun _ => true) true Try.f5.params.toList args.toList ds p := hA0
  have hA1 := hA
  rw [Try.params5] at hA hval
  have hA2 := hA
  obtain ⟨v0, vs0, d0, ds0, p0, q0, e0, rfl, rfl, h0, hA2⟩ := trodAll_cons hA2
  obtain ⟨v1, vs1, d1, ds1, p1, q1, e1, rfl, rfl, h1, hA2⟩ := trodAll_cons hA2
  obtain ⟨v2, vs2, d2, ds2, p2, q2, e2, rfl, rfl, h2, hA2⟩ := trodAll_cons hA2
  obtain ⟨v3, vs3, d3, ds3, p3, q3, e3, rfl, rfl, h3, hA2⟩ := trodAll_cons hA2
  obtain ⟨v4, vs4, d4, ds4, p4, q4, e4, rfl, rfl, h4, hA2⟩ := trodAll_cons hA2
  obtain ⟨e5, rfl, rfl⟩ := trodAll_nil hA2
  obtain rfl : args = #[v0, v1, v2, v3, v4] := by
    cases args; simp_all
  clear e0 e1 e2 e3 e4 e5
  obtain ⟨m0, bn0, bv0, bb0, cn0, cv0, cb0, rfl, r0⟩ := open_msg (hval 0 30 v0 rfl rfl) h0
  obtain ⟨f1, l1, s1, a1, x1, r1⟩ := open_packet (hval 1 41 v1 rfl rfl) h1
  obtain ⟨l2, r2⟩ := open_bt (hval 2 27 v2 rfl rfl) h2
  obtain ⟨x3, rfl, _, _, w3⟩ := open_int Try.underlying3 (hval 3 3 v3 rfl rfl) h3
  obtain ⟨x4, rfl, _, _, w4⟩ := open_int Try.underlying5 (hval 4 5 v4 rfl rfl) h4
  obtain ⟨x4, rfl⟩ := Int.eq_ofNat_of_zero_le (bounds_u8 w4).1
  obtain ⟨rfl, rfl⟩ := trodVars_none hV
  clear hA0 hval0
  have hlt := hW'.lt
  refine (back_row m0 bn0 bv0 bb0 cn0 cv0 cb0 f1 l1 s1 a1 x1 v1 l2 v2 x3 x4 W r0 r1 r2 (bounds_i64 w3) (by have := (bounds_u8 w4).2; omega)).mono fun e W' ⟨he, hb⟩ => ?_
  subst he
  exact ⟨_, rfl, post_of_below (pv := []) hW' (fun _ _ _ => trodAll_mk1 (shut_bool Try.underlying4 _))
    (fun sp hsp => all_stay zz_laid sp hb _ _ _ _ (by intro t ht; rw [Try.params5] at ht; simp only [List.mem_cons, List.not_mem_nil, or_false] at ht; rcases ht with rfl | rfl | rfl | rfl | rfl <;> exact ⟨by kernel_rfl, of_decide_eq_true (by kernel_rfl)⟩) hA1 (fun x hx => hlt x (by simpa using hx)) (fun x hx => hsp x (by simpa using hx))) (fun _ _ => rfl) (by simp)
    hb (ok_one (by kernel_rfl) rfl (okWide_bool_mk Try.underlying4 _))⟩
theorem back_holds : Rows.FrameBackSaid :=
  OpenClaim.holds_of_wide 5 Try.f5 rfl rfl rfl rfl rfl rfl rfl ⟨rfl, rfl, rfl, rfl, rfl⟩ rfl rfl rfl rfl rfl (by kernel_rfl) Try.func5 (by kernel_rfl)
    (of_decide_eq_true (by kernel_rfl)) (by unfold Func.isWrapper; first | (rw [if_pos (by decide +kernel)]; kernel_rfl) | (rw [if_neg (by decide +kernel)]; exact ⟨rfl, rfl⟩))
    (fun os started H enc _ => back_lifted os started H enc)
#print axioms back_holds
end Go.Proofs.Ytgamhgeiceakeaa
