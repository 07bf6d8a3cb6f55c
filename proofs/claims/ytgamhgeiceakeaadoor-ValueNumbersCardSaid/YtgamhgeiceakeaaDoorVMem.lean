/- Values in memory; blocks. -/
import Derived.Test.YtgamhgeiceakeaaDoorVSpecc
import Derived.Test.YtgamhgeiceakeaaDoorVBytes
import Derived.Test.YtgamhgeiceakeaaDoorBDraw
import Derived.Laws.Rows
import Derived.Lib.BufferMore
import Derived.OneCell
import Derived.Deep.Cut
import Derived.Outline
import Derived.Laws.EntriesVeiled
set_option linter.unusedVariables false
set_option linter.unusedSimpArgs false
namespace Go.Proofs.YtgamhgeiceakeaaDoor
open Go.RowKit
open Va (V)
/-- a block's cells -/
def Blk (w : World) (p : Nat) (cs : Array Value) (T : TypeId) : Prop := w.heap[p]? = some (.cells cs T (0, 0))
theorem Blk.cell {w : World} {p : Nat} {cs : Array Value} {T : TypeId} (h : Blk w p cs T) (o : Nat) : w.cell? ⟨p, o, none⟩ = cs[o]? := by
  unfold Blk at h; unfold World.cell?; simp only [h]; rfl
theorem Blk.free {w : World} {p : Nat} {cs : Array Value} {T : TypeId} (h : Blk w p cs T) (o : Nat) : w.frozen? ⟨p, o, none⟩ = false := by
  unfold Blk at h; unfold World.frozen?; simp only [h]; simp
theorem Blk.lt {w : World} {p : Nat} {cs : Array Value} {T : TypeId} (h : Blk w p cs T) : p < w.heap.size := (Array.getElem?_eq_some_iff.1 h).1
theorem Blk.set {w : World} {p : Nat} {cs : Array Value} {T : TypeId} (h : Blk w p cs T) (i : Nat) (u : Value) : Blk (w.setCell ⟨p, i, none⟩ u) p (cs.setIfInBounds i u) T := Go.Lib.heap_setCell_same h u
theorem Blk.below {w w' : World} {p : Nat} {cs : Array Value} {T : TypeId} (h : Blk w p cs T) (hb : Below w.heap.size w w') : Blk w' p cs T := by
  unfold Blk; rw [hb.block p h.lt]; exact h
theorem Blk.kept {w w' : World} {p : Nat} {cs : Array Value} {T : TypeId} {row : Option Nat} (h : Blk w p cs T) (hg : w.grownBy w' row) (hne : some p ≠ row) : Blk w' p cs T := by
  unfold Blk; rw [hg.block p h.lt hne]; exact h
theorem Blk.new (w : World) (cs : Array Value) (T : TypeId) : Blk (w.alloc (.cells cs T)) w.heap.size cs T := heap_alloc_new _ _
theorem grown_set {w w' : World} {p : Nat} (h : w.grownBy w' (some p)) (i : Nat) (u : Value) : w.grownBy (w'.setCell ⟨p, i, none⟩ u) (some p) :=
  ⟨h.os, h.tape, h.output, by simp; exact h.size, fun k hk hne => by rw [Below.heap_setCell _ _ _ _ (fun e => hne (by rw [e]))]; exact h.block k hk hne⟩
theorem grown_below {w w1 w2 : World} {r : Option Nat} (h : w.grownBy w1 r) (k : Below w1.heap.size w1 w2) : w.grownBy w2 r :=
  ⟨k.os.trans h.os, k.tape.trans h.tape, k.output.trans h.output, Nat.le_trans h.size k.size, fun i hi hne => by rw [k.block i (Nat.lt_of_lt_of_le hi h.size), h.block i hi hne]⟩
theorem grown_trans {w w1 w2 : World} {r : Option Nat} (h : w.grownBy w1 r) (k : w1.grownBy w2 r) : w.grownBy w2 r :=
  ⟨k.os.trans h.os, k.tape.trans h.tape, k.output.trans h.output, Nat.le_trans h.size k.size, fun i hi hne => by rw [k.block i (Nat.lt_of_lt_of_le hi h.size) hne, h.block i hi hne]⟩
theorem below_grown {w w1 w2 : World} {r : Option Nat} (h : Below w.heap.size w w1) (k : w1.grownBy w2 r) : w.grownBy w2 r :=
  ⟨k.os.trans h.os, k.tape.trans h.tape, k.output.trans h.output, Nat.le_trans h.size k.size, fun i hi hne => by rw [k.block i (Nat.lt_of_lt_of_le hi h.size) hne, h.block i hi]⟩
theorem Rd.kept {w w' : World} {ba : Option Addr} {l : List UInt8} {p : Nat} (h : Rd w ba l) (hg : w.grownBy w' (some p)) (hne : ∀ b o, ba = some (⟨b, o, none⟩ : Addr) → b ≠ p) : Rd w' ba l := by
  rcases h with h | ⟨b, o, e, hlt, hc⟩
  · exact Or.inl h
  · refine Or.inr ⟨b, o, e, Nat.lt_of_lt_of_le hlt hg.size, fun i hi => ?_⟩
    rw [World.cell?_of_block (w := w) (hg.block b hlt (fun q => hne b o e (by cases q; rfl)))]; exact hc i hi
/-- append to a slice of the call's own, at the operation -/
theorem op_append_gw {P : Program} (w : World) {o : Oper} {a : Act} {K : Act → World → Prop} {Q : Exit → Act → World → Prop} (s x : Operand) (t : TypeId)
    (ho : o.op = .call { callee := .builtin .append, args := #[s, x], argTypes := #[t, t] })
    (base : Nat) (e : TypeId) (i : TypeInfo) (z : Value) (size bytes : Nat) (ht : P.underlying t = some (.slice e)) (hi : P.info? e = some i) (hz : i.zero = some z)
    (hsize : i.size = size) (hby : i.bytes = bytes) (hzs : z.cells.size = size) (hsz : 0 < size)
    (v : Value) (n : Nat) (xs : List Value) (hs : a.eval s = v) (hown : w.ownsRow base e size v n xs)
    (ad : Addr) (m c : Nat) (news : List Value) (hx : a.eval x = .slice (some ad) m c) (hl : news.length = m * size) (hnews : ∀ j u, news[j]? = some u → w.cell? (ad.add j) = some u) (h1 : ∀ u ∈ news, u.oneCell' = true)
    (h63 : n + m ≤ maxLen) (hbytes : (n + m) * bytes ≤ 140737488355328) (hbase : base ≤ w.heap.size)
    (hK : ∀ v' w', w'.ownsRow base e size v' (n + m) (xs ++ news) → Gw w w' v v' → (v' = .slice none 0 0 ↔ v = .slice none 0 0 ∧ m = 0) → K (a.put o.dst v') w') :
    Oper.wp P o a w K Q := by
  obtain ⟨v', w', hr, h2, h3, h4⟩ := run_append_own (P := P) w base t o.type e i z size bytes ht hi hz hsize hby hzs hsz v n xs hown ad m c news hl hnews h1 h63 hbytes hbase
  have h5 := own_after (P := P) w base t o.type e i z size bytes ht hi hz hsize hby hzs hsz v n xs hown ad m c news hl hnews h1 h63 hbytes hr h4
  unfold Oper.wp execOp
  simp only [ho, resolve, invoke, builtin, Sem.run_bind, Sem.run_pure, Result.andThen_ok, List.map_toArray, List.map_cons, List.map_nil, hs, hx, hr]
  exact hK _ _ h2 ⟨h3, h5⟩ h4
theorem row_below {w w' : World} {B n size : Nat} {T : TypeId} {v : Value} {xs : List Value} (h : w.ownsRow B T size v n xs) (hb : Below w.heap.size w w') : w'.ownsRow B T size v n xs :=
  World.ownsRow.kept (row := none) h ⟨hb.os, hb.tape, hb.output, hb.size, fun k hk _ => hb.block k hk⟩ (by cases v.ownBlock with | none => exact Or.inl rfl | some k => exact Or.inr (by simp))
/-- below a bound that the row lies above, nothing has turned -/
theorem below_row {B : Nat} {a w w' : World} {r : Option Nat} (h : Below B a w) (hg : w.grownBy w' r) (hB : B ≤ w.heap.size) (hr : ∀ k, r = some k → B ≤ k) : Below B a w' := h.grown hg hB hr
theorem Ow.past {w w' : World} {B : Nat} {v : Value} {l : List UInt8} (h : Ow w B v l) (hb : Below w.heap.size w w') : Ow w' B v l := row_below h hb
theorem own_ne {w : World} {v : Value} {B n size p : Nat} {T T' : TypeId} {xs : List Value} {cs : Array Value} (ho : w.ownsRow B T size v n xs) (hp : Blk w p cs T') (hT : T ≠ T') : some p ≠ v.ownBlock := by
  intro e
  rcases ho.2 with ⟨rfl, _⟩ | ⟨g, cap, cur', rfl, _, hg, _⟩
  · simp [Value.ownBlock] at e
  · simp [Value.ownBlock] at e
    subst e
    unfold Blk at hp
    rw [hg] at hp; cases hp; exact hT rfl
/-- four cells that make a value -/
structure At4 (w : World) (b o : Nat) (x : Value) : Prop where
  lt : b < w.heap.size
  ex : ∃ a1 a2 a3 a4, x = .agg #[a1, a2, a3, a4] ∧ w.cell? ⟨b, o, none⟩ = some a1 ∧ w.cell? ⟨b, o + 1, none⟩ = some a2 ∧ w.cell? ⟨b, o + 2, none⟩ = some a3 ∧ w.cell? ⟨b, o + 3, none⟩ = some a4
theorem At4.kept {w w' : World} {b o : Nat} {x : Value} (h : At4 w b o x) (hs : w.heap.size ≤ w'.heap.size) (hb : w'.heap[b]? = w.heap[b]?) : At4 w' b o x := by
  obtain ⟨h1, a1, a2, a3, a4, e, c1, c2, c3, c4⟩ := h
  have hc : ∀ i, w'.cell? ⟨b, i, none⟩ = w.cell? ⟨b, i, none⟩ := fun i => World.cell?_of_block (w := w) hb
  exact ⟨Nat.lt_of_lt_of_le h1 hs, a1, a2, a3, a4, e, by rw [hc]; exact c1, by rw [hc]; exact c2, by rw [hc]; exact c3, by rw [hc]; exact c4⟩
/-- what reads as a value, its rows in blocks of a kind -/
inductive RV (ok : Nat → Prop) (w : World) : V → Value → Prop
  | mk (k : Nat) (n : Int) (s : ByteArray) (l : List V) (ba : Option Addr) (cap : Nat) (xs : Nat → Value) (hk : k < 256) (hn : Va.I64 n) (hs : s.size ≤ maxLen) (hcap : l.length ≤ cap) (hmax : cap ≤ maxLen) (hba : ba = none → l.length = 0)
    (hat : ∀ i, i < l.length → ∃ b o, ba = some (⟨b, o, none⟩ : Addr) ∧ ok b ∧ At4 w b (o + i * 4) (xs i)) (hrec : ∀ i (h : i < l.length), RV ok w l[i] (xs i)) :
    RV ok w (.mk k n s l) (.agg #[.int .u8 k, .int .i64 n, .string s, .slice ba l.length cap])
theorem RV.kept {ok : Nat → Prop} {w w' : World} {v : V} {x : Value} (h : RV ok w v x) (hs : w.heap.size ≤ w'.heap.size) (hk : ∀ b, ok b → b < w.heap.size → w'.heap[b]? = w.heap[b]?) : RV ok w' v x := by
  induction h with
  | mk k n s l ba cap xs a1 a2 a3 a4 a5 a6 hat hrec ih =>
    exact .mk k n s l ba cap xs a1 a2 a3 a4 a5 a6 (fun i hi => by obtain ⟨b, o, e, ho, h4⟩ := hat i hi; exact ⟨b, o, e, ho, h4.kept hs (hk b ho h4.lt)⟩) ih
theorem RV.past {ok : Nat → Prop} {w w' : World} {v : V} {x : Value} (h : RV ok w v x) (hb : Below w.heap.size w w') : RV ok w' v x := h.kept hb.size (fun b _ hlt => hb.block b hlt)
theorem RV.mono {ok ok' : Nat → Prop} {w : World} {v : V} {x : Value} (h : RV ok w v x) (hk : ∀ b, b < w.heap.size → ok b → ok' b) : RV ok' w v x := by
  induction h with
  | mk k n s l ba cap xs a1 a2 a3 a4 a5 a6 hat hrec ih =>
    exact .mk k n s l ba cap xs a1 a2 a3 a4 a5 a6 (fun i hi => by obtain ⟨b, o, e, ho, h4⟩ := hat i hi; exact ⟨b, o, e, hk b h4.lt ho, h4⟩) ih
/-- a list of values in a row -/
structure RL (ok : Nat → Prop) (w : World) (l : List V) (ba : Option Addr) (cap : Nat) : Prop where
  le : l.length ≤ cap
  max : cap ≤ maxLen
  nil : ba = none → l.length = 0
  at_ : ∀ i (h : i < l.length), ∃ b o x, ba = some (⟨b, o, none⟩ : Addr) ∧ ok b ∧ At4 w b (o + i * 4) x ∧ RV ok w l[i] x
theorem RV.inv {ok : Nat → Prop} {w : World} {k : Nat} {n : Int} {s : ByteArray} {l : List V} {x : Value} (h : RV ok w (.mk k n s l) x) :
    ∃ ba cap, x = .agg #[.int .u8 k, .int .i64 n, .string s, .slice ba l.length cap] ∧ k < 256 ∧ Va.I64 n ∧ s.size ≤ maxLen ∧ RL ok w l ba cap := by
  cases h with
  | mk k n s l ba cap xs a1 a2 a3 a4 a5 a6 hat hrec =>
    exact ⟨ba, cap, rfl, a1, a2, a3, a4, a5, a6, fun i hi => by obtain ⟨b, o, e, ho, h4⟩ := hat i hi; exact ⟨b, o, xs i, e, ho, h4, hrec i hi⟩⟩
theorem RV.mk' {ok : Nat → Prop} {w : World} {k : Nat} {n : Int} {s : ByteArray} {l : List V} {ba : Option Addr} {cap : Nat} (hk : k < 256) (hn : Va.I64 n) (hs : s.size ≤ maxLen) (h : RL ok w l ba cap) :
    RV ok w (.mk k n s l) (.agg #[.int .u8 k, .int .i64 n, .string s, .slice ba l.length cap]) := by
  classical
  have hx : ∀ i, ∃ x, ∀ (h : i < l.length), (∃ b o, ba = some (⟨b, o, none⟩ : Addr) ∧ ok b ∧ At4 w b (o + i * 4) x) ∧ RV ok w l[i] x := fun i => by
    by_cases hi : i < l.length
    · obtain ⟨b, o, x, e, ho, h4, hr⟩ := h.at_ i hi
      exact ⟨x, fun _ => ⟨⟨b, o, e, ho, h4⟩, hr⟩⟩
    · exact ⟨.bool true, fun h => absurd h hi⟩
  exact .mk k n s l ba cap (fun i => (hx i).choose) hk hn hs h.le h.max h.nil (fun i hi => ((hx i).choose_spec hi).1) (fun i hi => ((hx i).choose_spec hi).2)
theorem RV.agg {ok : Nat → Prop} {w : World} {v : V} {x : Value} (h : RV ok w v x) : ∃ a b c d, x = .agg #[a, b, c, d] := by
  cases h; exact ⟨_, _, _, _, rfl⟩
end Go.Proofs.YtgamhgeiceakeaaDoor
