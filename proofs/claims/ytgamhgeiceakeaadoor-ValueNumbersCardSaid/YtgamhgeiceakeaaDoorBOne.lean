/- package bytes: numbers, by contract. -/
import Derived.Test.YtgamhgeiceakeaaDoorProg
import Derived.Test.YtgamhgeiceakeaaDoorBSpec
import Derived.Test.YtgamhgeiceakeaaDoorBOwn
import Derived.WalkKit
import Derived.OwnWalk
import Derived.WalkSmall
import Derived.Laws.IdiomStrings
import Derived.Laws.BytesArg
import Derived.IntWalk
import Derived.Lib.Hide
import Derived.Lib.Zigzag
import Derived.Lib.VarintBits
import Derived.Deep.QuietTactic
import Derived.BigQuiet
import Derived.Deep.RegionWith
set_option linter.unusedVariables false
namespace Go.Proofs.YtgamhgeiceakeaaDoor
open Go.RowKit
def u8s (l : List UInt8) : List Value := l.map fun b => Value.int .u8 b.toNat
theorem u8s_app (l r : List UInt8) : u8s (l ++ r) = u8s l ++ u8s r := by unfold u8s; simp
theorem u8s_len (l : List UInt8) : (u8s l).length = l.length := by unfold u8s; simp
theorem u8s_one (l : List UInt8) : ∀ u ∈ u8s l, u.oneCell' = true := by
  intro u hu; unfold u8s at hu; obtain ⟨x, _, rfl⟩ := List.mem_map.1 hu; rfl
theorem Tryd.info_u8 : (Tryd.prog.info? 5).map (fun i => (i.zero, i.size, i.bytes)) = some (some (.int .u8 0), 1, 1) := by kernel_rfl
/-- a slice of bytes of the call's own -/
def Ow (w : World) (B : Nat) (v : Value) (l : List UInt8) : Prop := w.ownsRow B 5 1 v l.length (u8s l)
theorem Ow.nil (w : World) (B : Nat) : Ow w B (.slice none 0 0) [] := World.ownsRow_nil _ _ _ _
def OwPost (B : Nat) (v : Value) (l : List UInt8) (w : World) (e : Ending) (w' : World) : Prop := ∃ v', e = .returned v' ∧ Ow w' B v' l ∧ Gw w w' v v' ∧ (l ≠ [] → v' ≠ .slice none 0 0)
theorem beqI {a b : Int} (h : a = b) : (a == b) = true := beq_iff_eq.2 h
theorem bneI {a b : Int} (h : a ≠ b) : (a == b) = false := beq_eq_false_iff_ne.2 h
theorem cell_new1 (w : World) (v : Value) (T : TypeId) : (w.alloc (.cells #[v] T)).cell? ⟨w.heap.size, 0, none⟩ = some v := by simp
/-- one byte more: 'out = append(out, c)' -/
theorem wp_byte {ops : Array Oper} {rest : List Oper} {o : Oper} {a : Act} {Q : Exit → Act → World → Prop} (w : World) (hgd : o.guard = none) (s x : Operand)
    (ho : o.op = .call { callee := .builtin .append, args := #[s, x], argTypes := #[26, 26] })
    (B : Nat) (v : Value) (r : List UInt8) (hs : a.eval s = v) (hown : Ow w B v r) (u : Int) (c : UInt8) (hu : u = (c.toNat : Nat)) (hx : a.eval x = .slice (some ⟨w.heap.size, 0, none⟩) 1 1) (hl : r.length ≤ 2199023255552) (hB : B ≤ w.heap.size)
    (h : ∀ v' w', Ow w' B v' (r ++ [c]) → Gw w w' v v' → v' ≠ .slice none 0 0 → wpList Tryd.prog ops Q rest (a.put o.dst v') w') : wpList Tryd.prog ops Q (o :: rest) a (w.alloc (.cells #[.int .u8 u] 5)) := by
  obtain ⟨i0, hi, hz0, hz1, hz2⟩ := info_parts Tryd.info_u8
  subst hu
  refine wpList_append_gw _ hgd s x 26 ho B 5 i0 (.int .u8 0) 1 1 Tryd.underlying26 hi hz0 hz1 hz2 rfl (by decide) v r.length (u8s r) hs (hown.alloc _) ⟨w.heap.size, 0, none⟩ 1 1 [.int .u8 (c.toNat : Nat)] hx rfl ?_ ?_ ?_ ?_ ?_ ?_
  · intro j u hj
    match j, hj with
    | 0, hj => simp only [List.getElem?_cons_zero, Option.some.injEq] at hj; subst hj; exact cell_new1 _ _ _
  · intro u hu; simp only [List.mem_singleton] at hu; subst hu; rfl
  · unfold maxLen; omega
  · omega
  · simp; omega
  · intro v' w' h1 h2 h3
    refine h v' w' ?_ (Gw.of ((Below.refl _ _).alloc (Nat.le_refl _) _) h2 (fun i hi => (hown.lt i hi).2)) (fun e => by have := (h3.1 e).2; omega)
    unfold Ow; rw [u8s_app, List.length_append]; exact h1
set_option maxHeartbeats 1600000 in
set_option maxRecDepth 100000 in
theorem uint_any (B : Nat) (v : Value) (l : List UInt8) (n : Nat) (w : World) (hn : n < 18446744073709551616) (ho : Ow w B v l) (hB : B ≤ w.heap.size) (hl : l.length ≤ 1099511627776) :
    Calls Tryd.prog 49 #[v, .int .u64 n] w (OwPost B v (l ++ By.uv n) w) := by
  have HO := Lib.hid ho
  have HN := Lib.hid hn
  clear ho hn
  go_enter Tryd.func49, Tryd.ntmps49
  go_wp2
  go_loopw [0, 1] (fun vv nv wr => ∃ (m : Nat) (r : List UInt8), m < 18446744073709551616 ∧ nv = .int .u64 m ∧ r.length + (By.uv m).length ≤ l.length + 10 ∧ Ow wr B vv r ∧ Gw w wr v vv ∧ r ++ By.uv m = l ++ By.uv n) (fun _ n _ => (intOf n).toNat)
  case atStart => exact ⟨n, l, HN.out, rfl, (by have := (By.uv_len n).1; omega), HO.out, Gw.refl _ _, rfl⟩
  case round =>
    obtain ⟨m, r, hm, rfl, hr, hown, hgw, heq⟩ := hrel
    have HOW := Lib.hid hown
    have HG := Lib.hid hgw
    have HE := Lib.hid heq
    have hsz : B ≤ wr.heap.size := Nat.le_trans hB hgw.grown.size
    clear hown hgw heq
    by_cases h : 128 ≤ m
    · have HB : Hid (bits BinOp.or IntKind.u8 ((m : Int) % 256) 128 = ((UInt8.ofNat (m % 128 + 128)).toNat : Nat)) := Lib.hid (by
        rw [Lib.u8_or128_any _ (by omega) (by omega), UInt8.toNat_ofNat']; omega)
      have hub := By.uv_big m h hm
      generalize UInt8.ofNat (m % 128 + 128) = c at HB hub
      have HU := Lib.hid hub
      have hlen := congrArg List.length hub
      rw [List.length_cons] at hlen
      have hr2 : r.length + 1 + (By.uv (m / 128)).length ≤ l.length + 10 := by omega
      have hr3 : r.length ≤ l.length + 10 := by omega
      clear hub hlen hr
      go_wp2_with (at_builtin; refine wp_byte _ rfl _ _ rfl B _ r rfl HOW.out _ c HB.out rfl (by omega) hsz ?_)
      intro v' w1 hown1 hg1 _
      have HO1 := Lib.hid hown1
      have HG1 := Lib.hid (HG.out.trans hg1)
      clear hown1 hg1
      go_wp2
      go_roundw
      case rel => exact ⟨m / 128, r ++ [c], by omega, by go_num, by rw [List.length_append]; exact hr2, HO1.out, HG1.out, by rw [← HE.out, HU.out, List.append_assoc]; rfl⟩
      case measure => simp [intOf]; omega
    · have hus := By.uv_small m (by omega)
      have HU := Lib.hid hus
      have hlen := congrArg List.length hus
      rw [List.length_singleton] at hlen
      have hr3 : r.length ≤ l.length + 10 := by omega
      have HM : Hid ((m : Int) = ((UInt8.ofNat m).toNat : Nat)) := Lib.hid (by rw [UInt8.toNat_ofNat']; omega)
      clear hus hlen hr
      go_wp2_with (at_builtin; refine wp_byte _ rfl _ _ rfl B _ r rfl HOW.out _ (UInt8.ofNat m) HM.out rfl (by omega) hsz ?_)
      intro v' w1 hown1 hg1 hnn
      have HO1 := Lib.hid hown1
      have HG1 := Lib.hid (HG.out.trans hg1)
      have HNN := Lib.hid hnn
      clear hown1 hg1 hnn
      go_wp2
      go_ret
      exact ⟨_, rfl, by rw [← HE.out, HU.out]; exact HO1.out, HG1.out, fun _ => HNN.out⟩
end Go.Proofs.YtgamhgeiceakeaaDoor
