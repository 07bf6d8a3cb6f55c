/- ValueNumbers: what the walk's parts use. -/
import Derived.Test.YtgamhgeiceakeaaDoorVNumC
import Derived.Test.YtgamhgeiceakeaaDoorVLaw
set_option linter.unusedVariables false
set_option linter.unusedSimpArgs false
namespace Go.Proofs.YtgamhgeiceakeaaDoor
open Go.RowKit
open Va (V)
theorem repx_size (n : Nat) : (repx n).size = n := by
  show ((Lib.repeatL [120] n).toArray).size = n
  rw [List.size_toArray, Lib.repeatL_length]; simp
theorem repx_any (c : Nat) (z : Int) (hz : z = c) (h2 : c ≤ 100000) (w : World) : Calls Tryd.prog 28 #[.string ⟨#[120]⟩, .int .i64 z] w (MkPost (.string (repx c)) w) :=
  rep_any ⟨#[120]⟩ c z hz (by show 1 * c ≤ _; omega) h2 w
theorem right_tof (v : V) (ok : Nat → Prop) (x : Value) (w : World) (o : Bool) (ho : Va.right v = o) (h : RV ok w v x) : Calls Tryd.prog 13 #[x] w (MkPost (.bool o) w) :=
  (right_any ok v x w h).mono fun e w' ⟨he, hb⟩ => ⟨by rw [he, ho], hb⟩
def NPost (n : Nat) (w : World) (e : Ending) (w' : World) : Prop :=
  ∃ g c, e = .returned (.slice g n c) ∧ (∀ k : Nat, k < 256 → RV (fun _ => True) w' (.mk k 0 Va.em (Va.ints n)) (.agg #[.int .u8 k, .int .i64 0, .string ⟨#[]⟩, .slice g n c])) ∧ Below w.heap.size w w'
theorem many_lit (n : Nat) (z : Int) (hz : z = n) (hn : n ≤ 1000) (w : World) : Calls Tryd.prog 23 #[.int .i64 z] w (NPost n w) := by
  subst hz
  refine (many_any n hn w).mono fun e w' ⟨g, c, he, hL, hb⟩ => ⟨g, c, he, fun k hk => ?_, hb⟩
  have h3 := RV.mk' (k := k) (n := 0) (s := Va.em) hk (by unfold Va.I64; omega) (by decide) hL
  rw [Va.ints_len] at h3
  exact h3.mono (fun _ _ _ => trivial)
def TVPost (v : V) (w : World) (e : Ending) (w' : World) : Prop :=
  ∃ g m c, e = .returned (.agg #[.int .u8 4, .int .i64 0, .string ⟨#[]⟩, .slice g m c]) ∧ RV (fun _ => True) w' v (.agg #[.int .u8 4, .int .i64 0, .string ⟨#[]⟩, .slice g m c]) ∧ Below w.heap.size w w'
theorem wide_lit (n : Nat) (z : Int) (hz : z = n) (hn : n ≤ 1000) (w : World) : Calls Tryd.prog 26 #[.int .i64 z] w (TVPost (Va.wideV n) w) := by
  subst hz
  exact (wide_any n hn w).mono fun e w' ⟨g, c, he, hv, hb⟩ => ⟨g, n, c, he, hv, hb⟩
theorem deep_lit (n : Nat) (z : Int) (hz : z = n + 1) (hn : n ≤ 90) (w : World) : Calls Tryd.prog 25 #[.int .i64 z] w (TVPost (Va.nest n) w) := by
  subst hz
  exact (deep_any (n + 1) (by omega) (by omega) w).mono fun e w' ⟨l, m, hl, g, c, he, hv, hb⟩ => ⟨g, m, c, he, by rw [Nat.add_sub_cancel] at hl; rw [hl]; exact hv, hb⟩
/-- what stays -/
structure Kl (w : World) (l : List (V × Value)) (W : World) : Prop where
  bl : Below w.heap.size w W
  tab : Tab W
  all : ∀ p ∈ l, RV (fun _ => True) W p.1 p.2
theorem Kl.past {w W W' : World} {l : List (V × Value)} (h : Kl w l W) (hb : Below W.heap.size W W') : Kl w l W' := ⟨bto h.bl hb, h.tab.past hb, fun p hp => (h.all p hp).past hb⟩
theorem Kl.more {w W : World} {l : List (V × Value)} (h : Kl w l W) (o : Obj) : Kl w l (W.alloc o) := h.past ((Below.refl _ _).alloc (Nat.le_refl _) o)
theorem Kl.push {w W : World} {l : List (V × Value)} {v : V} {x : Value} (h : Kl w l W) (hv : RV (fun _ => True) W v x) : Kl w ((v, x) :: l) W := ⟨h.bl, h.tab, fun p hp => by
  rcases List.mem_cons.1 hp with rfl | hp
  · exact hv
  · exact h.all p hp⟩
theorem Kl.hd {w W : World} {l : List (V × Value)} {v : V} {x : Value} (h : Kl w ((v, x) :: l) W) : RV (fun _ => True) W v x := h.all _ (List.mem_cons_self ..)
theorem Kl.tl {w W : World} {l : List (V × Value)} {p : V × Value} (h : Kl w (p :: l) W) : Kl w l W := ⟨h.bl, h.tab, fun q hq => h.all q (List.mem_cons_of_mem _ hq)⟩
/-- a tuple about one value -/
theorem one_rv {W : World} {b : Nat} {p q r t : Value} {v : V} (hB : Blk W b #[p, q, r, t] 25) (hv : RV (fun _ => True) W v (.agg #[p, q, r, t])) :
    RV (fun _ => True) W (.mk 4 0 Va.em [v]) (.agg #[.int .u8 4, .int .i64 0, .string ⟨#[]⟩, .slice (some ⟨b, 0, none⟩) 1 1]) :=
  rv_row (l := [v]) (xs := [.agg #[p, q, r, t]]) hB trivial rfl (fun x hx => by rw [List.mem_singleton.1 hx]; exact ⟨_, _, _, _, rfl⟩) rfl (by simp [maxLen]) (fun i h h' => by
    obtain rfl : i = 0 := by simpa using h
    exact hv)
theorem two_rv {W : World} {b : Nat} {p q r t p' q' r' t' : Value} {v v' : V} (hB : Blk W b #[p, q, r, t, p', q', r', t'] 25) (hv : RV (fun _ => True) W v (.agg #[p, q, r, t])) (hv' : RV (fun _ => True) W v' (.agg #[p', q', r', t'])) :
    RV (fun _ => True) W (.mk 4 0 Va.em [v, v']) (.agg #[.int .u8 4, .int .i64 0, .string ⟨#[]⟩, .slice (some ⟨b, 0, none⟩) 2 2]) :=
  rv_row (l := [v, v']) (xs := [.agg #[p, q, r, t], .agg #[p', q', r', t']]) hB trivial rfl (fun x hx => by rcases List.mem_cons.1 hx with rfl | hx; exact ⟨_, _, _, _, rfl⟩; rw [List.mem_singleton.1 hx]; exact ⟨_, _, _, _, rfl⟩) rfl (by simp [maxLen]) (fun i h h' => by
    match i, h with
    | 0, _ => exact hv
    | 1, _ => exact hv')
theorem three_rv {W : World} {b : Nat} (hB : Blk W b #[.int .u8 1, .int .i64 1, .string ⟨#[]⟩, .slice none 0 0, .int .u8 3, .int .i64 0, .string ⟨#[10, 92, 255]⟩, .slice none 0 0, .int .u8 2, .int .i64 0, .string ⟨#[]⟩, .slice none 0 0] 25) :
    RV (fun _ => True) W Va.triple (.agg #[.int .u8 4, .int .i64 0, .string ⟨#[]⟩, .slice (some ⟨b, 0, none⟩) 3 3]) :=
  rv_row (l := [.mk 1 1 Va.em [], .mk 3 0 ⟨#[10, 92, 255]⟩ [], .mk 2 0 Va.em []]) (xs := [.agg #[.int .u8 1, .int .i64 1, .string ⟨#[]⟩, .slice none 0 0], .agg #[.int .u8 3, .int .i64 0, .string ⟨#[10, 92, 255]⟩, .slice none 0 0], .agg #[.int .u8 2, .int .i64 0, .string ⟨#[]⟩, .slice none 0 0]]) hB trivial rfl (fun x hx => by
    simp only [List.mem_cons, List.not_mem_nil, or_false] at hx
    rcases hx with rfl | rfl | rfl <;> exact ⟨_, _, _, _, rfl⟩) rfl (by simp [maxLen]) (fun i h h' => by
    match i, h with
    | 0, _ => exact rv_leaf _ 1 1 ⟨#[]⟩ (by decide) (by unfold Va.I64; omega) (by decide)
    | 1, _ => exact rv_leaf _ 3 0 ⟨#[10, 92, 255]⟩ (by decide) (by unfold Va.I64; omega) (by decide)
    | 2, _ => exact rv_leaf _ 2 0 ⟨#[]⟩ (by decide) (by unfold Va.I64; omega) (by decide))
theorem ent_of {ps : List (V × Value)} {W : World} {cs : Array Value} (hcs : cs.toList = vcs (ps.map Prod.snd)) (h : ∀ p ∈ ps, RV (fun _ => True) W p.1 p.2) (i : Nat) (hi : i < ps.length) :
    ∃ a b c d, cs[i * 4]? = some a ∧ cs[i * 4 + 1]? = some b ∧ cs[i * 4 + 2]? = some c ∧ cs[i * 4 + 3]? = some d ∧ RV (fun _ => True) W ps[i].1 (.agg #[a, b, c, d]) := by
  have hr := h ps[i] (List.getElem_mem hi)
  have hf : Four (ps.map Prod.snd) := fun x hx => by
    obtain ⟨p, hp, rfl⟩ := List.mem_map.1 hx
    exact (h p hp).agg
  have hi' : i < (ps.map Prod.snd).length := by simpa using hi
  have hg : (ps.map Prod.snd)[i] = ps[i].2 := List.getElem_map ..
  obtain ⟨a, b, c, d, e⟩ := hr.agg
  rw [e] at hr
  have hc : ∀ k, k < 4 → cs[i * 4 + k]? = (c4 ps[i].2)[k]? := fun k hk => by rw [← Array.getElem?_toList, hcs, vcs_at _ hf i k hi' hk, hg]
  rw [e] at hc
  exact ⟨a, b, c, d, hc 0 (by omega), hc 1 (by omega), hc 2 (by omega), hc 3 (by omega), hr⟩
/-- an entry of the list of wrong ones -/
def Bad (W : World) (cs : Array Value) (i : Nat) : Prop := ∃ (v : V) (a b c d : Value), cs[i * 4]? = some a ∧ cs[i * 4 + 1]? = some b ∧ cs[i * 4 + 2]? = some c ∧ cs[i * 4 + 3]? = some d ∧ RV (fun _ => True) W v (.agg #[a, b, c, d]) ∧ Va.right v = false
set_option maxRecDepth 100000 in
theorem bad_ents {w W : World} {g4 g5 g8 g9 g12 : Option Addr} {c4 c5 c8 c9 c12 m8 m9 m12 b6 b12 : Nat} {s97 : ByteArray}
    (h : Kl w [(.mk 4 0 Va.em [Va.wideV 255], .agg #[.int .u8 4, .int .i64 0, .string ⟨#[]⟩, .slice (some ⟨b12, 0, none⟩) 1 1]), (Va.wideV 255, .agg #[.int .u8 4, .int .i64 0, .string ⟨#[]⟩, .slice g12 m12 c12]), (.mk 3 0 (repx 4097) [], .agg #[.int .u8 3, .int .i64 0, .string s97, .slice none 0 0]), (Va.wideV 256, .agg #[.int .u8 4, .int .i64 0, .string ⟨#[]⟩, .slice g9 m9 c9]), (Va.nest 16, .agg #[.int .u8 4, .int .i64 0, .string ⟨#[]⟩, .slice g8 m8 c8]), (.mk 4 0 Va.em [.mk 2 7 Va.em []], .agg #[.int .u8 4, .int .i64 0, .string ⟨#[]⟩, .slice (some ⟨b6, 0, none⟩) 1 1]), (.mk 3 0 Va.em (Va.ints 1), .agg #[.int .u8 3, .int .i64 0, .string ⟨#[]⟩, .slice g5 1 c5]), (.mk 1 0 Va.em (Va.ints 1), .agg #[.int .u8 1, .int .i64 0, .string ⟨#[]⟩, .slice g4 1 c4])] W) (cs : Array Value)
    (hcs : cs = #[.int .u8 0, .int .i64 0, .string ⟨#[]⟩, .slice none 0 0, .int .u8 6, .int .i64 0, .string ⟨#[]⟩, .slice none 0 0, .int .u8 2, .int .i64 2, .string ⟨#[]⟩, .slice none 0 0, .int .u8 2, .int .i64 (-1), .string ⟨#[]⟩, .slice none 0 0, .int .u8 5, .int .i64 (-1), .string ⟨#[]⟩, .slice none 0 0, .int .u8 1, .int .i64 0, .string ⟨#[120]⟩, .slice none 0 0, .int .u8 1, .int .i64 0, .string ⟨#[]⟩, .slice g4 1 c4, .int .u8 3, .int .i64 1, .string ⟨#[]⟩, .slice none 0 0, .int .u8 3, .int .i64 0, .string ⟨#[]⟩, .slice g5 1 c5, .int .u8 4, .int .i64 1, .string ⟨#[]⟩, .slice none 0 0, .int .u8 4, .int .i64 0, .string ⟨#[120]⟩, .slice none 0 0, .int .u8 4, .int .i64 0, .string ⟨#[]⟩, .slice (some ⟨b6, 0, none⟩) 1 1, .int .u8 4, .int .i64 0, .string ⟨#[]⟩, .slice g8 m8 c8, .int .u8 4, .int .i64 0, .string ⟨#[]⟩, .slice g9 m9 c9, .int .u8 3, .int .i64 0, .string s97, .slice none 0 0, .int .u8 4, .int .i64 0, .string ⟨#[]⟩, .slice (some ⟨b12, 0, none⟩) 1 1]) (i : Nat) (hi : i < 16) : Bad W cs i := by
  subst hcs
  have hp : ∀ p ∈ ([(.mk 0 0 Va.em [], .agg #[.int .u8 0, .int .i64 0, .string ⟨#[]⟩, .slice none 0 0]), (.mk 6 0 Va.em [], .agg #[.int .u8 6, .int .i64 0, .string ⟨#[]⟩, .slice none 0 0]), (.mk 2 2 Va.em [], .agg #[.int .u8 2, .int .i64 2, .string ⟨#[]⟩, .slice none 0 0]), (.mk 2 (-1) Va.em [], .agg #[.int .u8 2, .int .i64 (-1), .string ⟨#[]⟩, .slice none 0 0]), (.mk 5 (-1) Va.em [], .agg #[.int .u8 5, .int .i64 (-1), .string ⟨#[]⟩, .slice none 0 0]), (.mk 1 0 ⟨#[120]⟩ [], .agg #[.int .u8 1, .int .i64 0, .string ⟨#[120]⟩, .slice none 0 0]), (.mk 1 0 Va.em (Va.ints 1), .agg #[.int .u8 1, .int .i64 0, .string ⟨#[]⟩, .slice g4 1 c4]), (.mk 3 1 Va.em [], .agg #[.int .u8 3, .int .i64 1, .string ⟨#[]⟩, .slice none 0 0]), (.mk 3 0 Va.em (Va.ints 1), .agg #[.int .u8 3, .int .i64 0, .string ⟨#[]⟩, .slice g5 1 c5]), (.mk 4 1 Va.em [], .agg #[.int .u8 4, .int .i64 1, .string ⟨#[]⟩, .slice none 0 0]), (.mk 4 0 ⟨#[120]⟩ [], .agg #[.int .u8 4, .int .i64 0, .string ⟨#[120]⟩, .slice none 0 0]), (.mk 4 0 Va.em [.mk 2 7 Va.em []], .agg #[.int .u8 4, .int .i64 0, .string ⟨#[]⟩, .slice (some ⟨b6, 0, none⟩) 1 1]), (Va.nest 16, .agg #[.int .u8 4, .int .i64 0, .string ⟨#[]⟩, .slice g8 m8 c8]), (Va.wideV 256, .agg #[.int .u8 4, .int .i64 0, .string ⟨#[]⟩, .slice g9 m9 c9]), (.mk 3 0 (repx 4097) [], .agg #[.int .u8 3, .int .i64 0, .string s97, .slice none 0 0]), (.mk 4 0 Va.em [Va.wideV 255], .agg #[.int .u8 4, .int .i64 0, .string ⟨#[]⟩, .slice (some ⟨b12, 0, none⟩) 1 1])] : List (V × Value)), RV (fun _ => True) W p.1 p.2 :=
    List.forall_mem_cons.2 ⟨rv_leaf _ 0 0 ⟨#[]⟩ (by decide) (by unfold Va.I64; omega) (by decide), List.forall_mem_cons.2 ⟨rv_leaf _ 6 0 ⟨#[]⟩ (by decide) (by unfold Va.I64; omega) (by decide), List.forall_mem_cons.2 ⟨rv_leaf _ 2 2 ⟨#[]⟩ (by decide) (by unfold Va.I64; omega) (by decide), List.forall_mem_cons.2 ⟨rv_leaf _ 2 (-1) ⟨#[]⟩ (by decide) (by unfold Va.I64; omega) (by decide), List.forall_mem_cons.2 ⟨rv_leaf _ 5 (-1) ⟨#[]⟩ (by decide) (by unfold Va.I64; omega) (by decide), List.forall_mem_cons.2 ⟨rv_leaf _ 1 0 ⟨#[120]⟩ (by decide) (by unfold Va.I64; omega) (by decide), List.forall_mem_cons.2 ⟨h.tl.tl.tl.tl.tl.tl.tl.hd, List.forall_mem_cons.2 ⟨rv_leaf _ 3 1 ⟨#[]⟩ (by decide) (by unfold Va.I64; omega) (by decide), List.forall_mem_cons.2 ⟨h.tl.tl.tl.tl.tl.tl.hd, List.forall_mem_cons.2 ⟨rv_leaf _ 4 1 ⟨#[]⟩ (by decide) (by unfold Va.I64; omega) (by decide), List.forall_mem_cons.2 ⟨rv_leaf _ 4 0 ⟨#[120]⟩ (by decide) (by unfold Va.I64; omega) (by decide), List.forall_mem_cons.2 ⟨h.tl.tl.tl.tl.tl.hd, List.forall_mem_cons.2 ⟨h.tl.tl.tl.tl.hd, List.forall_mem_cons.2 ⟨h.tl.tl.tl.hd, List.forall_mem_cons.2 ⟨h.tl.tl.hd, List.forall_mem_cons.2 ⟨h.hd, fun p hp => by cases hp⟩⟩⟩⟩⟩⟩⟩⟩⟩⟩⟩⟩⟩⟩⟩⟩
  obtain ⟨a, b, c, d, h0, h1, h2, h3, hv⟩ := ent_of (cs := #[.int .u8 0, .int .i64 0, .string ⟨#[]⟩, .slice none 0 0, .int .u8 6, .int .i64 0, .string ⟨#[]⟩, .slice none 0 0, .int .u8 2, .int .i64 2, .string ⟨#[]⟩, .slice none 0 0, .int .u8 2, .int .i64 (-1), .string ⟨#[]⟩, .slice none 0 0, .int .u8 5, .int .i64 (-1), .string ⟨#[]⟩, .slice none 0 0, .int .u8 1, .int .i64 0, .string ⟨#[120]⟩, .slice none 0 0, .int .u8 1, .int .i64 0, .string ⟨#[]⟩, .slice g4 1 c4, .int .u8 3, .int .i64 1, .string ⟨#[]⟩, .slice none 0 0, .int .u8 3, .int .i64 0, .string ⟨#[]⟩, .slice g5 1 c5, .int .u8 4, .int .i64 1, .string ⟨#[]⟩, .slice none 0 0, .int .u8 4, .int .i64 0, .string ⟨#[120]⟩, .slice none 0 0, .int .u8 4, .int .i64 0, .string ⟨#[]⟩, .slice (some ⟨b6, 0, none⟩) 1 1, .int .u8 4, .int .i64 0, .string ⟨#[]⟩, .slice g8 m8 c8, .int .u8 4, .int .i64 0, .string ⟨#[]⟩, .slice g9 m9 c9, .int .u8 3, .int .i64 0, .string s97, .slice none 0 0, .int .u8 4, .int .i64 0, .string ⟨#[]⟩, .slice (some ⟨b12, 0, none⟩) 1 1]) rfl hp i hi
  refine ⟨_, a, b, c, d, h0, h1, h2, h3, hv, Va.bads_right _ ?_⟩
  have h5 := List.mem_map_of_mem (f := Prod.fst) (List.getElem_mem (l := ([(.mk 0 0 Va.em [], .agg #[.int .u8 0, .int .i64 0, .string ⟨#[]⟩, .slice none 0 0]), (.mk 6 0 Va.em [], .agg #[.int .u8 6, .int .i64 0, .string ⟨#[]⟩, .slice none 0 0]), (.mk 2 2 Va.em [], .agg #[.int .u8 2, .int .i64 2, .string ⟨#[]⟩, .slice none 0 0]), (.mk 2 (-1) Va.em [], .agg #[.int .u8 2, .int .i64 (-1), .string ⟨#[]⟩, .slice none 0 0]), (.mk 5 (-1) Va.em [], .agg #[.int .u8 5, .int .i64 (-1), .string ⟨#[]⟩, .slice none 0 0]), (.mk 1 0 ⟨#[120]⟩ [], .agg #[.int .u8 1, .int .i64 0, .string ⟨#[120]⟩, .slice none 0 0]), (.mk 1 0 Va.em (Va.ints 1), .agg #[.int .u8 1, .int .i64 0, .string ⟨#[]⟩, .slice g4 1 c4]), (.mk 3 1 Va.em [], .agg #[.int .u8 3, .int .i64 1, .string ⟨#[]⟩, .slice none 0 0]), (.mk 3 0 Va.em (Va.ints 1), .agg #[.int .u8 3, .int .i64 0, .string ⟨#[]⟩, .slice g5 1 c5]), (.mk 4 1 Va.em [], .agg #[.int .u8 4, .int .i64 1, .string ⟨#[]⟩, .slice none 0 0]), (.mk 4 0 ⟨#[120]⟩ [], .agg #[.int .u8 4, .int .i64 0, .string ⟨#[120]⟩, .slice none 0 0]), (.mk 4 0 Va.em [.mk 2 7 Va.em []], .agg #[.int .u8 4, .int .i64 0, .string ⟨#[]⟩, .slice (some ⟨b6, 0, none⟩) 1 1]), (Va.nest 16, .agg #[.int .u8 4, .int .i64 0, .string ⟨#[]⟩, .slice g8 m8 c8]), (Va.wideV 256, .agg #[.int .u8 4, .int .i64 0, .string ⟨#[]⟩, .slice g9 m9 c9]), (.mk 3 0 (repx 4097) [], .agg #[.int .u8 3, .int .i64 0, .string s97, .slice none 0 0]), (.mk 4 0 Va.em [Va.wideV 255], .agg #[.int .u8 4, .int .i64 0, .string ⟨#[]⟩, .slice (some ⟨b12, 0, none⟩) 1 1])] : List (V × Value))) hi)
  exact h5
end Go.Proofs.YtgamhgeiceakeaaDoor
