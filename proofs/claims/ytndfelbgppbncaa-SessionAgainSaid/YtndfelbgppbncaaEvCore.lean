/- An evaluator for the code of a loaded program, for use by the kernel: definitions alone. It draws nothing from the tape: a new array has the least capacity, a region that draws its order is run in the text's order, with a look at whether another order could tell. -/
import Derived.Calls
import Derived.Orders
set_option linter.unusedVariables false
namespace Go.Proofs.Ytndfelbgppbncaa.Ev
/-! ### Numbers as ways, trees -/
inductive Pos where
  | H
  | O (p : Pos)
  | I (p : Pos)
  deriving DecidableEq

noncomputable def posF : Nat → Nat → Pos :=
  Nat.rec (fun _ => .H) fun _ ih n => Nat.rec .H (fun m _ => Bool.rec (.I (ih (Nat.div m 2))) (.O (ih (Nat.div m 2))) (Nat.beq (Nat.mod m 2) 0)) n
noncomputable def pos (n : Nat) : Pos := posF n n
/-- the same, built to its end -/
noncomputable def posCF : Nat → Nat → Option Pos :=
  Nat.rec (fun _ => some .H) fun _ ih n => Nat.rec (some .H) (fun m _ => Option.rec none (fun p => Bool.rec (some (.I p)) (some (.O p)) (Nat.beq (Nat.mod m 2) 0)) (ih (Nat.div m 2))) n
noncomputable def posC (n : Nat) : Option Pos := posCF n n

inductive Tr (α : Type) where
  | nil
  | node (l : Tr α) (v : Option α) (r : Tr α)

noncomputable def Tr.get {α : Type} : Pos → Tr α → Option α :=
  Pos.rec (fun t => Tr.rec none (fun _ v _ _ _ => v) t)
    (fun _ ih t => Tr.rec none (fun l _ _ _ _ => ih l) t)
    (fun _ ih t => Tr.rec none (fun _ _ r _ _ => ih r) t)
noncomputable def Tr.set {α : Type} (v : α) : Pos → Tr α → Tr α :=
  Pos.rec (fun t => Tr.rec (.node .nil (some v) .nil) (fun l _ r _ _ => .node l (some v) r) t)
    (fun _ ih t => Tr.rec (.node (ih .nil) none .nil) (fun l x r _ _ => .node (ih l) x r) t)
    (fun _ ih t => Tr.rec (.node .nil none (ih .nil)) (fun l x r _ _ => .node l x (ih r)) t)

noncomputable def nth {α : Type} : List α → Nat → Option α :=
  List.rec (fun _ => none) fun a _ ih n => Nat.rec (some a) (fun m _ => ih m) n
noncomputable def len {α : Type} : List α → Nat := List.rec 0 fun _ _ ih => Nat.succ ih
noncomputable def app {α : Type} (l : List α) (r : List α) : List α := List.rec r (fun a _ ih => a :: ih) l
noncomputable def dropL : List Value → Nat → List Value := List.rec (fun _ => []) fun a l ih n => Nat.rec (a :: l) (fun m _ => ih m) n
noncomputable def takeL : List Value → Nat → List Value := List.rec (fun _ => []) fun a _ ih n => Nat.rec [] (fun m _ => a :: ih m) n
noncomputable def setL : List Value → Nat → Value → List Value :=
  List.rec (fun _ _ => []) fun a l ih n v => Nat.rec (v :: l) (fun m _ => a :: ih m v) n
noncomputable def fillL : List Value → Nat → List Value → List Value :=
  List.rec (fun _ cs => cs) fun v _ ih off cs => ih (Nat.succ off) (setL cs off v)

/-! ### The heap -/
inductive Blk where
  | cells (own : Bool) (n : Nat) (pat : List Value) (tr : Tr Value)
  | dead

structure Heap where
  next : Nat
  bs : Tr Blk

abbrev Env := Tr Value

noncomputable def cellAt (n : Nat) (pat : List Value) (tr : Tr Value) (i : Nat) : Option Value :=
  Bool.rec none (Option.rec (nth pat (Nat.mod i (len pat))) (fun v => some v) (tr.get (pos i))) (Nat.blt i n)
noncomputable def Blk.get (b : Blk) (i : Nat) : Option Value :=
  Blk.rec (fun _ n pat tr => cellAt n pat tr i) none b
noncomputable def Heap.blk (h : Heap) (b : Nat) : Option Blk := Heap.rec (fun _ bs => bs.get (pos b)) h

/-- an address without a spot -/
noncomputable def plainA (a : Addr) : Bool := Addr.rec (fun _ _ s => Option.rec true (fun _ => false) s) a

noncomputable def Heap.cell (h : Heap) (a : Addr) : Option Value :=
  Addr.rec (fun b off s => Option.rec (Option.rec none (fun k => Blk.get k off) (h.blk b)) (fun _ => none) s) a

noncomputable def Blk.getN (b : Blk) : Nat → Nat → Option (List Value) :=
  Nat.rec (fun _ => some []) fun _ ih i => Option.rec none (fun v => Option.rec none (fun l => some (v :: l)) (ih (Nat.succ i))) (b.get i)

noncomputable def loadN (h : Heap) (a : Addr) (n : Nat) : Option (List Value) :=
  Addr.rec (fun b off s => Option.rec (Option.rec none (fun k => Blk.getN k n off) (h.blk b)) (fun _ => none) s) a

noncomputable def setN : List Value → Nat → Tr Value → Tr Value :=
  List.rec (fun _ t => t) fun v _ ih off t => ih (Nat.succ off) (t.set v (pos off))

inductive VH where
  | fail
  | ok (v : Value) (h : Heap)
inductive VB where
  | fail
  | ok (v : Value) (b : Blk)

noncomputable def Heap.put (h : Heap) (b : Nat) (k : Blk) : Heap := Heap.rec (fun n bs => ⟨n, bs.set k (pos b)⟩) h
noncomputable def Heap.new (h : Heap) (k : Blk) : Heap := Heap.rec (fun n bs => ⟨Nat.succ n, bs.set k (pos n)⟩) h

/-- Cells are stored into an owned block; the answer is a value beside the heap. -/
noncomputable def storeV (h : Heap) (a : Addr) (vs : List Value) (v : Value) : VH :=
  Addr.rec (fun b off s => Option.rec
    (Option.rec .fail (fun k => Blk.rec (fun own n pat tr =>
        Bool.rec .fail (Bool.rec .fail (.ok v (h.put b (.cells true n pat (setN vs off tr)))) (Nat.ble (Nat.add off (len vs)) n)) own) .fail k) (h.blk b))
    (fun _ => .fail) s) a

def undefV : Value := .tuple #[]
def FZ : Nat := 4611686018427387904

/-! ### Values, case by case -/
noncomputable def vBool (f : Bool → Option Value) (v : Value) : Option Value := (@Value.rec (fun _ => Option Value) (fun _ => Unit) (fun _ => Unit) f (fun _ _ => none) (fun _ _ => none) (fun _ _ _ => none) (fun _ => none) (fun _ => none) (fun _ _ _ => none) (fun _ => none) (fun _ => none) (fun _ _ _ _ _ => none) none (fun _ _ _ => none) none (fun _ _ => none) (fun _ _ => none) (fun _ _ => ()) () (fun _ _ _ _ => ())) v
noncomputable def vInt (f : IntKind → Int → Option Value) (v : Value) : Option Value := (@Value.rec (fun _ => Option Value) (fun _ => Unit) (fun _ => Unit) (fun _ => none) f (fun _ _ => none) (fun _ _ _ => none) (fun _ => none) (fun _ => none) (fun _ _ _ => none) (fun _ => none) (fun _ => none) (fun _ _ _ _ _ => none) none (fun _ _ _ => none) none (fun _ _ => none) (fun _ _ => none) (fun _ _ => ()) () (fun _ _ _ _ => ())) v
noncomputable def vStr (f : ByteArray → Option Value) (v : Value) : Option Value := (@Value.rec (fun _ => Option Value) (fun _ => Unit) (fun _ => Unit) (fun _ => none) (fun _ _ => none) (fun _ _ => none) (fun _ _ _ => none) f (fun _ => none) (fun _ _ _ => none) (fun _ => none) (fun _ => none) (fun _ _ _ _ _ => none) none (fun _ _ _ => none) none (fun _ _ => none) (fun _ _ => none) (fun _ _ => ()) () (fun _ _ _ _ => ())) v
noncomputable def vPtr (f : Addr → Option Value) (v : Value) : Option Value := (@Value.rec (fun _ => Option Value) (fun _ => Unit) (fun _ => Unit) (fun _ => none) (fun _ _ => none) (fun _ _ => none) (fun _ _ _ => none) (fun _ => none) (fun a => Option.rec none f a) (fun _ _ _ => none) (fun _ => none) (fun _ => none) (fun _ _ _ _ _ => none) none (fun _ _ _ => none) none (fun _ _ => none) (fun _ _ => none) (fun _ _ => ()) () (fun _ _ _ _ => ())) v
noncomputable def vSlc (f : Option Addr → Nat → Nat → Option Value) (v : Value) : Option Value := (@Value.rec (fun _ => Option Value) (fun _ => Unit) (fun _ => Unit) (fun _ => none) (fun _ _ => none) (fun _ _ => none) (fun _ _ _ => none) (fun _ => none) (fun _ => none) f (fun _ => none) (fun _ => none) (fun _ _ _ _ _ => none) none (fun _ _ _ => none) none (fun _ _ => none) (fun _ _ => none) (fun _ _ => ()) () (fun _ _ _ _ => ())) v
noncomputable def vAgg (f : Array Value → Option Value) (v : Value) : Option Value := (@Value.rec (fun _ => Option Value) (fun _ => Unit) (fun _ => Unit) (fun _ => none) (fun _ _ => none) (fun _ _ => none) (fun _ _ _ => none) (fun _ => none) (fun _ => none) (fun _ _ _ => none) (fun _ => none) (fun _ => none) (fun _ _ _ _ _ => none) none (fun _ _ _ => none) none (fun x0 _ => f x0) (fun _ _ => none) (fun _ _ => ()) () (fun _ _ _ _ => ())) v
noncomputable def vTup (f : Array Value → Option Value) (v : Value) : Option Value := (@Value.rec (fun _ => Option Value) (fun _ => Unit) (fun _ => Unit) (fun _ => none) (fun _ _ => none) (fun _ _ => none) (fun _ _ _ => none) (fun _ => none) (fun _ => none) (fun _ _ _ => none) (fun _ => none) (fun _ => none) (fun _ _ _ _ _ => none) none (fun _ _ _ => none) none (fun _ _ => none) (fun x0 _ => f x0) (fun _ _ => ()) () (fun _ _ _ _ => ())) v
noncomputable def vPtrH (f : Addr → VH) (v : Value) : VH := (@Value.rec (fun _ => VH) (fun _ => Unit) (fun _ => Unit) (fun _ => .fail) (fun _ _ => .fail) (fun _ _ => .fail) (fun _ _ _ => .fail) (fun _ => .fail) (fun a => Option.rec .fail f a) (fun _ _ _ => .fail) (fun _ => .fail) (fun _ => .fail) (fun _ _ _ _ _ => .fail) .fail (fun _ _ _ => .fail) .fail (fun _ _ => .fail) (fun _ _ => .fail) (fun _ _ => ()) () (fun _ _ _ _ => ())) v
noncomputable def vSlcH (f : Option Addr → Nat → Nat → VH) (v : Value) : VH := (@Value.rec (fun _ => VH) (fun _ => Unit) (fun _ => Unit) (fun _ => .fail) (fun _ _ => .fail) (fun _ _ => .fail) (fun _ _ _ => .fail) (fun _ => .fail) (fun _ => .fail) f (fun _ => .fail) (fun _ => .fail) (fun _ _ _ _ _ => .fail) .fail (fun _ _ _ => .fail) .fail (fun _ _ => .fail) (fun _ _ => .fail) (fun _ _ => ()) () (fun _ _ _ _ => ())) v
noncomputable def vFuncH (f : Fn → Array Value → Array Value → VH) (v : Value) : VH := (@Value.rec (fun _ => VH) (fun _ => Unit) (fun _ => Unit) (fun _ => .fail) (fun _ _ => .fail) (fun _ _ => .fail) (fun _ _ _ => .fail) (fun _ => .fail) (fun _ => .fail) (fun _ _ _ => .fail) (fun _ => .fail) (fun _ => .fail) (fun x0 x1 x2 _ _ => f x0 x1 x2) .fail (fun _ _ _ => .fail) .fail (fun _ _ => .fail) (fun _ _ => .fail) (fun _ _ => ()) () (fun _ _ _ _ => ())) v
noncomputable def vStrB (f : ByteArray → VB) (v : Value) : VB := (@Value.rec (fun _ => VB) (fun _ => Unit) (fun _ => Unit) (fun _ => .fail) (fun _ _ => .fail) (fun _ _ => .fail) (fun _ _ _ => .fail) f (fun _ => .fail) (fun _ _ _ => .fail) (fun _ => .fail) (fun _ => .fail) (fun _ _ _ _ _ => .fail) .fail (fun _ _ _ => .fail) .fail (fun _ _ => .fail) (fun _ _ => .fail) (fun _ _ => ()) () (fun _ _ _ _ => ())) v
/-- the cells of a value that may be stored -/
noncomputable def scells (v : Value) : Option (List Value) := (@Value.rec (fun _ => Option (List Value)) (fun _ => Unit) (fun _ => Unit) (fun _ => (some (v :: []))) (fun _ _ => (some (v :: []))) (fun _ _ => (some (v :: []))) (fun _ _ _ => (some (v :: []))) (fun _ => (some (v :: []))) (fun _ => (some (v :: []))) (fun _ _ _ => (some (v :: []))) (fun _ => (some (v :: []))) (fun _ => (some (v :: []))) (fun _ _ _ _ _ => (some (v :: []))) (some (v :: [])) (fun _ _ _ => (some (v :: []))) (some (v :: [])) (fun x0 _ => (fun a => some a.toList) x0) (fun x0 _ => (fun _ => none) x0) (fun _ _ => ()) () (fun _ _ _ _ => ())) v
noncomputable def natOf (v : Value) : Option Nat := (@Value.rec (fun _ => Option Nat) (fun _ => Unit) (fun _ => Unit) (fun _ => none) (fun _ n => Int.rec (fun m => some m) (fun _ => none) n) (fun _ _ => none) (fun _ _ _ => none) (fun _ => none) (fun _ => none) (fun _ _ _ => none) (fun _ => none) (fun _ => none) (fun _ _ _ _ _ => none) none (fun _ _ _ => none) none (fun _ _ => none) (fun _ _ => none) (fun _ _ => ()) () (fun _ _ _ _ => ())) v
noncomputable def boolOf (v : Value) : Option Bool := (@Value.rec (fun _ => Option Bool) (fun _ => Unit) (fun _ => Unit) (fun b => some b) (fun _ _ => none) (fun _ _ => none) (fun _ _ _ => none) (fun _ => none) (fun _ => none) (fun _ _ _ => none) (fun _ => none) (fun _ => none) (fun _ _ _ _ _ => none) none (fun _ _ _ => none) none (fun _ _ => none) (fun _ _ => none) (fun _ _ => ()) () (fun _ _ _ _ => ())) v
noncomputable def isU8 (k : IntKind) : Bool := IntKind.rec false false false false true false false false k
noncomputable def byteOf (v : Value) : Option UInt8 := (@Value.rec (fun _ => Option UInt8) (fun _ => Unit) (fun _ => Unit) (fun _ => none) (fun k n => Bool.rec none (Int.rec (fun m => some (UInt8.ofNat m)) (fun _ => none) n) (isU8 k)) (fun _ _ => none) (fun _ _ _ => none) (fun _ => none) (fun _ => none) (fun _ _ _ => none) (fun _ => none) (fun _ => none) (fun _ _ _ _ _ => none) none (fun _ _ _ => none) none (fun _ _ => none) (fun _ _ => none) (fun _ _ => ()) () (fun _ _ _ _ => ())) v
/-- is it a value of one cell? -/
noncomputable def isCell (v : Value) : Bool := (@Value.rec (fun _ => Bool) (fun _ => Unit) (fun _ => Unit) (fun _ => true) (fun _ _ => true) (fun _ _ => true) (fun _ _ _ => true) (fun _ => true) (fun _ => true) (fun _ _ _ => true) (fun _ => true) (fun _ => true) (fun _ _ _ _ _ => true) true (fun _ _ _ => true) true (fun x0 _ => (fun _ => false) x0) (fun x0 _ => (fun _ => false) x0) (fun _ _ => ()) () (fun _ _ _ _ => ())) v

/-! ### Operands, pure operations -/
inductive AO where
  | t (p : Pos)
  | c (v : Value)

noncomputable def val (ρ : Env) (x : AO) : Value := AO.rec (fun p => Option.rec undefV (fun v => v) (Tr.get p ρ)) (fun v => v) x
noncomputable def vals (ρ : Env) : List AO → List Value := List.rec [] fun x _ ih => val ρ x :: ih
noncomputable def put (ρ : Env) (d : Option Pos) (v : Value) : Env := Option.rec ρ (fun p => Tr.set v p ρ) d

noncomputable def uw (m : Nat) (n : Int) : Nat := Int.rec (fun a => Nat.mod a m) (fun a => Nat.sub (Nat.sub m 1) (Nat.mod a m)) n
noncomputable def sw (half m r : Nat) : Int := Bool.rec (Int.negSucc (Nat.sub (Nat.sub m r) 1)) (Int.ofNat r) (Nat.blt r half)
noncomputable def i64w (n : Int) : Int :=
  Int.rec (fun m => Bool.rec (sw 9223372036854775808 18446744073709551616 (uw 18446744073709551616 n)) (Int.ofNat m) (Nat.blt m 9223372036854775808))
    (fun m => Bool.rec (sw 9223372036854775808 18446744073709551616 (uw 18446744073709551616 n)) (Int.negSucc m) (Nat.blt m 9223372036854775808)) n
noncomputable def fw (k : IntKind) (n : Int) : Int :=
  IntKind.rec (sw 128 256 (uw 256 n)) (sw 32768 65536 (uw 65536 n)) (sw 2147483648 4294967296 (uw 4294967296 n)) (i64w n)
    (Int.ofNat (uw 256 n)) (Int.ofNat (uw 65536 n)) (Int.ofNat (uw 4294967296 n)) (Int.ofNat (uw 18446744073709551616 n)) k
noncomputable def ieq (a b : Int) : Bool := Int.rec (fun m => Int.rec (fun n => Nat.beq m n) (fun _ => false) b) (fun m => Int.rec (fun _ => false) (fun n => Nat.beq m n) b) a
noncomputable def ilt (a b : Int) : Bool := Int.rec (fun m => Int.rec (fun n => Nat.blt m n) (fun _ => false) b) (fun m => Int.rec (fun _ => true) (fun n => Nat.blt n m) b) a
noncomputable def iadd (a b : Int) : Int := Int.rec (fun m => Int.rec (fun n => Int.ofNat (Nat.add m n)) (fun _ => Int.add a b) b) (fun _ => Int.add a b) a
noncomputable def isub (a b : Int) : Int :=
  Int.rec (fun m => Int.rec (fun n => Bool.rec (Int.negSucc (Nat.sub (Nat.sub n m) 1)) (Int.ofNat (Nat.sub m n)) (Nat.ble n m)) (fun _ => Int.sub a b) b) (fun _ => Int.sub a b) a
noncomputable def imul (a b : Int) : Int := Int.rec (fun m => Int.rec (fun n => Int.ofNat (Nat.mul m n)) (fun _ => Int.mul a b) b) (fun _ => Int.mul a b) a
noncomputable def kmod (k : IntKind) : Nat :=
  IntKind.rec 256 65536 4294967296 18446744073709551616 256 65536 4294967296 18446744073709551616 k
noncomputable def kbits (k : IntKind) : Nat := IntKind.rec 8 16 32 64 8 16 32 64 k
noncomputable def kidx (k : IntKind) : Nat := IntKind.rec 0 1 2 3 4 5 6 7 k
noncomputable def iv (k : IntKind) (n : Int) : Option Value := some (.int k (fw k n))
def bv (b : Bool) : Option Value := some (.bool b)
noncomputable def bnot (b : Bool) : Bool := Bool.rec true false b
noncomputable def band (a b : Bool) : Bool := Bool.rec false b a
noncomputable def bor (a b : Bool) : Bool := Bool.rec b true a
noncomputable def same (k k' : IntKind) (x : Option Value) : Option Value := Bool.rec none x (Nat.beq (kidx k) (kidx k'))

noncomputable def addI (k k' : IntKind) (a b : Int) : Option Value := same k k' (iv k (iadd a b))
noncomputable def subI (k k' : IntKind) (a b : Int) : Option Value := same k k' (iv k (isub a b))
noncomputable def mulI (k k' : IntKind) (a b : Int) : Option Value := same k k' (iv k (imul a b))
noncomputable def quoI (k k' : IntKind) (a b : Int) : Option Value := same k k' (Bool.rec (iv k (Int.tdiv a b)) none (ieq b 0))
noncomputable def remI (k k' : IntKind) (a b : Int) : Option Value := same k k' (Bool.rec (some (.int k (Int.tmod a b))) none (ieq b 0))
noncomputable def andI (k k' : IntKind) (a b : Int) : Option Value := same k k' (iv k (Int.ofNat (Nat.land (uw (kmod k) a) (uw (kmod k) b))))
noncomputable def orI (k k' : IntKind) (a b : Int) : Option Value := same k k' (iv k (Int.ofNat (Nat.lor (uw (kmod k) a) (uw (kmod k) b))))
noncomputable def xorI (k k' : IntKind) (a b : Int) : Option Value := same k k' (iv k (Int.ofNat (Nat.xor (uw (kmod k) a) (uw (kmod k) b))))
noncomputable def andNotI (k k' : IntKind) (a b : Int) : Option Value :=
  same k k' (iv k (Int.ofNat (Nat.land (uw (kmod k) a) (Nat.sub (Nat.sub (kmod k) 1) (uw (kmod k) b)))))
noncomputable def shN (k : IntKind) (y : Nat) : Nat := Bool.rec (kbits k) y (Nat.blt y (kbits k))
noncomputable def shlI (k k' : IntKind) (a b : Int) : Option Value := Int.rec (fun n => iv k (imul a (Int.ofNat (Nat.pow 2 (shN k n))))) (fun _ => none) b
noncomputable def shrI (k k' : IntKind) (a b : Int) : Option Value :=
  Int.rec (fun n => some (.int k (Int.rec (fun m => Int.ofNat (Nat.div m (Nat.pow 2 (shN k n)))) (fun m => Int.negSucc (Nat.div m (Nat.pow 2 (shN k n)))) a))) (fun _ => none) b
noncomputable def eqI (k k' : IntKind) (a b : Int) : Option Value := same k k' (bv (ieq a b))
noncomputable def neI (k k' : IntKind) (a b : Int) : Option Value := same k k' (bv (bnot (ieq a b)))
noncomputable def ltI (k k' : IntKind) (a b : Int) : Option Value := same k k' (bv (ilt a b))
noncomputable def leI (k k' : IntKind) (a b : Int) : Option Value := same k k' (bv (bnot (ilt b a)))
noncomputable def gtI (k k' : IntKind) (a b : Int) : Option Value := same k k' (bv (ilt b a))
noncomputable def geI (k k' : IntKind) (a b : Int) : Option Value := same k k' (bv (bnot (ilt a b)))

noncomputable def beqL : List UInt8 → List UInt8 → Bool :=
  List.rec (fun l => List.rec true (fun _ _ _ => false) l) fun a _ ih l => List.rec false (fun b r _ => Bool.rec false (ih r) (Nat.beq a.toNat b.toNat)) l
noncomputable def ltL : List UInt8 → List UInt8 → Bool :=
  List.rec (fun l => List.rec false (fun _ _ _ => true) l) fun a _ ih l => List.rec false (fun b r _ => Bool.rec (Bool.rec false (ih r) (Nat.beq a.toNat b.toNat)) true (Nat.blt a.toNat b.toNat)) l
noncomputable def strL (s : ByteArray) : List UInt8 := ByteArray.rec (fun a => Array.rec (fun l => l) a) s
noncomputable def catS (x y : ByteArray) : Option Value :=
  Bool.rec none (some (.string ⟨⟨app (strL x) (strL y)⟩⟩)) (Nat.blt (Nat.add (len (strL x)) (len (strL y))) 9223372036854775807)
noncomputable def eqS (x y : ByteArray) : Option Value := bv (beqL (strL x) (strL y))
noncomputable def neS (x y : ByteArray) : Option Value := bv (bnot (beqL (strL x) (strL y)))
noncomputable def ltS (x y : ByteArray) : Option Value := bv (ltL (strL x) (strL y))
noncomputable def leS (x y : ByteArray) : Option Value := bv (bnot (ltL (strL y) (strL x)))
noncomputable def gtS (x y : ByteArray) : Option Value := bv (ltL (strL y) (strL x))
noncomputable def geS (x y : ByteArray) : Option Value := bv (bnot (ltL (strL x) (strL y)))

noncomputable def isN {α : Type} (o : Option α) : Bool := Option.rec true (fun _ => false) o
/-! equality: of two bools; of two pointers, slices, functions of which one is nil -/
noncomputable def eqB (x y : Value) : Option Bool :=
  match x, y with
  | .bool a, .bool b => some (Bool.rec (bnot b) b a)
  | _, _ => none
noncomputable def eqP (x y : Value) : Option Bool :=
  match x, y with
  | .pointer none, .pointer b => some (isN b)
  | .pointer (some _), .pointer none => some false
  | _, _ => none
noncomputable def eqSl (x y : Value) : Option Bool :=
  match x, y with
  | .slice none _ _, .slice b _ _ => some (isN b)
  | .slice (some _) _ _, .slice none _ _ => some false
  | _, _ => none
noncomputable def eqF (x y : Value) : Option Bool :=
  match x, y with
  | .nilFunc, .nilFunc => some true
  | .nilFunc, .func .. => some false
  | .func .., .nilFunc => some false
  | _, _ => none

noncomputable def pMv (x : AO) (ρ : Env) : Option Value := some (val ρ x)
noncomputable def pStrId (x : AO) (ρ : Env) : Option Value := vStr (fun s => some (.string s)) (val ρ x)
noncomputable def pPick (c a b : AO) (ρ : Env) : Option Value := vBool (fun t => Bool.rec (some (val ρ b)) (some (val ρ a)) t) (val ρ c)
noncomputable def pInt (g : IntKind → IntKind → Int → Int → Option Value) (x y : AO) (ρ : Env) : Option Value :=
  vInt (fun k a => vInt (fun k' b => g k k' a b) (val ρ y)) (val ρ x)
noncomputable def pStr (g : ByteArray → ByteArray → Option Value) (x y : AO) (ρ : Env) : Option Value :=
  vStr (fun a => vStr (fun b => g a b) (val ρ y)) (val ρ x)
noncomputable def pEq (g : Value → Value → Option Bool) (x y : AO) (ρ : Env) : Option Value := Option.rec none (fun b => bv b) (g (val ρ x) (val ρ y))
noncomputable def pNe (g : Value → Value → Option Bool) (x y : AO) (ρ : Env) : Option Value := Option.rec none (fun b => bv (bnot b)) (g (val ρ x) (val ρ y))
noncomputable def pNot (x : AO) (ρ : Env) : Option Value := vBool (fun b => bv (bnot b)) (val ρ x)
noncomputable def pNeg (x : AO) (ρ : Env) : Option Value := vInt (fun k n => iv k (isub 0 n)) (val ρ x)
noncomputable def pCom (x : AO) (ρ : Env) : Option Value := vInt (fun k n => iv k (Int.ofNat (Nat.sub (Nat.sub (kmod k) 1) (uw (kmod k) n)))) (val ρ x)
noncomputable def pConv (k : IntKind) (x : AO) (ρ : Env) : Option Value := vInt (fun _ n => iv k n) (val ρ x)

inductive Parts where
  | nil
  | cons (off size : Nat) (x : AO) (rest : Parts)
noncomputable def evBuild (ρ : Env) : Parts → List Value → Option (List Value) :=
  Parts.rec (fun cs => some cs) fun off size x _ ih cs =>
    Option.rec none (fun l => Bool.rec none (Bool.rec none (ih (fillL l off cs)) (Nat.ble (Nat.add off size) (len cs))) (Nat.beq (len l) size)) (scells (val ρ x))
noncomputable def pBuild (zero : List Value) (ps : Parts) (ρ : Env) : Option Value := Option.rec none (fun cs => some (.agg ⟨cs⟩)) (evBuild ρ ps zero)
noncomputable def addA (a : Addr) (n : Nat) : Addr := Addr.rec (fun b off s => Bool.rec ⟨b, Nat.add off n, none⟩ ⟨b, off, s⟩ (Nat.beq n 0)) a
noncomputable def pNilck (x : AO) (ρ : Env) : Option Value := vPtr (fun a => some (.pointer (some a))) (val ρ x)
noncomputable def pFaddr (off : Nat) (x : AO) (ρ : Env) : Option Value := vPtr (fun a => some (.pointer (some (addA a off)))) (val ρ x)
noncomputable def pFld (off : Nat) (x : AO) (ρ : Env) : Option Value := vAgg (fun cs => nth cs.toList off) (val ρ x)
noncomputable def pFldA (off n : Nat) (x : AO) (ρ : Env) : Option Value := vAgg (fun cs => some (.agg ⟨takeL (dropL cs.toList off) n⟩)) (val ρ x)
noncomputable def pIdxS (size : Nat) (x i : AO) (ρ : Env) : Option Value :=
  Option.rec none (fun i => vSlc (fun a n _ => Option.rec none (fun a => Bool.rec none (some (.pointer (some (addA a (Nat.mul i size))))) (Nat.blt i n)) a) (val ρ x)) (natOf (val ρ i))
noncomputable def pIdxA (n size : Nat) (x i : AO) (ρ : Env) : Option Value :=
  Option.rec none (fun i => vPtr (fun a => Bool.rec none (some (.pointer (some (addA a (Nat.mul i size))))) (Nat.blt i n)) (val ρ x)) (natOf (val ρ i))
noncomputable def pIdxStr (x i : AO) (ρ : Env) : Option Value :=
  Option.rec none (fun i => vStr (fun s => Option.rec none (fun b => some (.int .u8 (Int.ofNat b.toNat))) (nth (strL s) i)) (val ρ x)) (natOf (val ρ i))
noncomputable def pIdxV (n size : Nat) (x i : AO) (ρ : Env) : Option Value :=
  Option.rec none (fun i => vAgg (fun cs => Bool.rec none (nth cs.toList (Nat.mul i size)) (Nat.blt i n)) (val ρ x)) (natOf (val ρ i))
noncomputable def pIdxVA (n size : Nat) (x i : AO) (ρ : Env) : Option Value :=
  Option.rec none (fun i => vAgg (fun cs => Bool.rec none (some (.agg ⟨takeL (dropL cs.toList (Nat.mul i size)) size⟩)) (Nat.blt i n)) (val ρ x)) (natOf (val ρ i))
noncomputable def bound (x : Value) (y : Nat) : Option Nat := Option.rec none (fun n => Bool.rec none (some n) (Nat.ble n y)) (natOf x)
noncomputable def boundO (ρ : Env) (x : Option AO) (d y : Nat) : Option Nat := Option.rec (some d) (fun x => bound (val ρ x) y) x
noncomputable def capLow (c : Nat) : Nat := Nat.mod c FZ
noncomputable def addO (a : Option Addr) (n : Nat) : Option Addr := Option.rec none (fun a => some (addA a n)) a
/-- x[lo:hi] of a slice -/
noncomputable def pSlc (size : Nat) (x : AO) (lo hi : Option AO) (ρ : Env) : Option Value :=
  vSlc (fun a n c =>
    Option.rec none (fun h => Option.rec none (fun l =>
      Bool.rec (Bool.rec none (some (.slice (addO a (Nat.mul l size)) (Nat.sub h l) (Nat.sub c l))) (Nat.beq (Nat.div c FZ) size))
        (some (.slice (Bool.rec (addO a (Nat.mul l size)) a (Nat.beq c l)) (Nat.sub h l) (Nat.sub c l)))
        (Nat.blt c FZ)) (boundO ρ lo 0 h)) (boundO ρ hi n (capLow c))) (val ρ x)
/-- x[lo:hi:mx] of a slice -/
noncomputable def pSlc3 (size : Nat) (x : AO) (lo hi : Option AO) (mx : AO) (ρ : Env) : Option Value :=
  vSlc (fun a n c =>
    Option.rec none (fun m => Option.rec none (fun h => Option.rec none (fun l =>
      Bool.rec none (some (.slice (Bool.rec (addO a (Nat.mul l size)) a (Nat.beq m l)) (Nat.sub h l) (Nat.sub m l))) (Nat.blt m FZ))
      (boundO ρ lo 0 h)) (Option.rec none (fun hi => bound (val ρ hi) m) hi)) (bound (val ρ mx) (capLow c))) (val ρ x)
noncomputable def pSlcStr (x : AO) (lo hi : Option AO) (ρ : Env) : Option Value :=
  vStr (fun s => Option.rec none (fun h => Option.rec none (fun l => some (.string (s.extract l h))) (boundO ρ lo 0 h)) (boundO ρ hi (len (strL s)) (len (strL s)))) (val ρ x)
noncomputable def pSlcA (n size : Nat) (x : AO) (lo hi : Option AO) (ρ : Env) : Option Value :=
  vPtr (fun a => Option.rec none (fun h => Option.rec none (fun l =>
    some (.slice (some (Bool.rec (addA a (Nat.mul l size)) a (Nat.beq n l))) (Nat.sub h l) (Nat.sub n l))) (boundO ρ lo 0 h)) (boundO ρ hi n n)) (val ρ x)
noncomputable def pExt (i : Nat) (x : AO) (ρ : Env) : Option Value := vTup (fun vs => nth vs.toList i) (val ρ x)
noncomputable def pFunc (f : FuncId) (first captured : List AO) (ρ : Env) : Option Value := some (.func (.func f) ⟨vals ρ first⟩ ⟨vals ρ captured⟩)
noncomputable def pIface (t : TypeId) (x : AO) (ρ : Env) : Option Value := some (.iface t (val ρ x))
noncomputable def pLenS (x : AO) (ρ : Env) : Option Value := vStr (fun s => some (.int .i64 (Int.ofNat (len (strL s))))) (val ρ x)
noncomputable def pLen (x : AO) (ρ : Env) : Option Value := vSlc (fun _ n _ => some (.int .i64 (Int.ofNat n))) (val ρ x)
noncomputable def evMax (k : IntKind) : List Value → Int → Option Value :=
  List.rec (fun a => some (.int k a)) fun v _ ih a => vInt (fun _ b => ih (Bool.rec a b (ilt a b))) v
noncomputable def evMin (k : IntKind) : List Value → Int → Option Value :=
  List.rec (fun a => some (.int k a)) fun v _ ih a => vInt (fun _ b => ih (Bool.rec a b (ilt b a))) v
noncomputable def pMax (x : AO) (xs : List AO) (ρ : Env) : Option Value := vInt (fun k a => evMax k (vals ρ xs) a) (val ρ x)
noncomputable def pMin (x : AO) (xs : List AO) (ρ : Env) : Option Value := vInt (fun k a => evMin k (vals ρ xs) a) (val ρ x)

/-! ### What reads -/
noncomputable def bytesOf : List Value → Option (List UInt8) :=
  List.rec (some []) fun v _ ih => Option.rec none (fun b => Option.rec none (fun r => some (b :: r)) ih) (byteOf v)
noncomputable def lLoad (x : AO) (h : Heap) (ρ : Env) : Option Value := vPtr (fun a => h.cell a) (val ρ x)
noncomputable def lLoads (n : Nat) (x : AO) (h : Heap) (ρ : Env) : Option Value := vPtr (fun a => Option.rec none (fun l => some (.agg ⟨l⟩)) (loadN h a n)) (val ρ x)
noncomputable def lB2s (x : AO) (h : Heap) (ρ : Env) : Option Value :=
  vSlc (fun a n _ => Option.rec (some (.string ⟨⟨[]⟩⟩)) (fun a => Option.rec none (fun l => Option.rec none (fun bs => some (.string ⟨⟨bs⟩⟩)) (bytesOf l)) (loadN h a n)) a) (val ρ x)
noncomputable def ownB (k : Option Blk) : Bool := Option.rec false (fun k => Blk.rec (fun own _ _ _ => own) false k) k
noncomputable def lMark (x : AO) (h : Heap) (ρ : Env) : Option Value :=
  vSlc (fun a n c => Option.rec none (fun a => Bool.rec none (some (.slice (some a) n c)) (ownB (h.blk a.block))) a) (val ρ x)

/-! ### What makes a block -/
noncomputable def nAlloc (cells : List Value) (ρ : Env) (id : Nat) : VB := .ok (.pointer (some ⟨id, 0, none⟩)) (.cells true (len cells) cells .nil)
noncomputable def nBox (x : AO) (ρ : Env) (id : Nat) : VB := Option.rec .fail (fun l => .ok (.pointer (some ⟨id, 0, none⟩)) (.cells true (len l) l .nil)) (scells (val ρ x))
noncomputable def evSlots (ρ : Env) (size n : Nat) : Parts → Tr Value → Option (Tr Value) :=
  Parts.rec (fun t => some t) fun i _ x _ ih t =>
    Option.rec none (fun l => Bool.rec none (Bool.rec none (ih (setN l (Nat.mul i size) t)) (Nat.blt i n)) (Nat.beq (len l) size)) (scells (val ρ x))
noncomputable def nSlice (n size : Nat) (zero : List Value) (ps : Parts) (ρ : Env) (id : Nat) : VB :=
  Option.rec .fail (fun t => .ok (.slice (some ⟨id, 0, none⟩) n n) (.cells true (Nat.mul n size) zero t)) (evSlots ρ size n ps .nil)
noncomputable def nMake (size bytes : Nat) (zero : List Value) (l c : AO) (ρ : Env) (id : Nat) : VB :=
  Option.rec .fail (fun l => Option.rec .fail (fun c =>
    Bool.rec .fail (.ok (.slice (some ⟨id, 0, none⟩) l c) (.cells true (Nat.mul c size) zero .nil))
      (band (Nat.ble l c) (band (Nat.ble (Nat.mul c bytes) 140737488355328) (Nat.blt c FZ)))) (natOf (val ρ c))) (natOf (val ρ l))
noncomputable def byteVals : List UInt8 → List Value := List.rec [] fun b _ ih => .int .u8 (Int.ofNat b.toNat) :: ih
noncomputable def nS2b (x : AO) (ρ : Env) (id : Nat) : VB :=
  vStrB (fun s => Bool.rec .fail (.ok (.slice (some ⟨id, 0, none⟩) (len (strL s)) (Nat.add FZ (len (strL s)))) (.cells true (len (strL s)) (byteVals (strL s)) .nil)) (Nat.blt (len (strL s)) FZ)) (val ρ x)

/-! ### What writes -/
inductive SC where
  | fail
  | ok (n : Nat) (l : List Value)
noncomputable def srcCells (h : Heap) (size : Nat) (x : Value) : SC :=
  (@Value.rec (fun _ => SC) (fun _ => Unit) (fun _ => Unit) (fun _ => .fail) (fun _ _ => .fail) (fun _ _ => .fail) (fun _ _ _ => .fail) (fun s => Bool.rec .fail (.ok (len (strL s)) (byteVals (strL s))) (Nat.beq size 1)) (fun _ => .fail) (fun a n _ => Option.rec (.ok 0 []) (fun a => Option.rec .fail (fun l => .ok n l) (loadN h a (Nat.mul n size))) a) (fun _ => .fail) (fun _ => .fail) (fun _ _ _ _ _ => .fail) .fail (fun _ _ _ => .fail) .fail (fun _ _ => .fail) (fun _ _ => .fail) (fun _ _ => ()) () (fun _ _ _ _ => ())) x
noncomputable def eStore (n : Nat) (a x : AO) (h : Heap) (ρ : Env) : VH :=
  vPtrH (fun a => Option.rec .fail (fun l => Bool.rec .fail (storeV h a l undefV) (Nat.beq (len l) n)) (scells (val ρ x))) (val ρ a)
/-- the block behind an append that finds no room: n cells in all, the first m of an elder block from an offset on -/
noncomputable def grown (own : Bool) (k : Nat) (pat : List Value) (tr : Tr Value) (off m n : Nat) (new : List Value) : Option Blk :=
  Bool.rec none (Nat.rec (some (.cells true n pat (setN new m tr)))
    (fun o _ => Option.rec none (fun old => some (.cells true n (app old new) .nil)) ((Blk.cells own k pat tr).getN m off)) off) (Nat.ble (Nat.add off m) k)
noncomputable def evGrow (h : Heap) (size : Nat) (base : Option Addr) (n c m : Nat) (new : List Value) : VH :=
  Option.rec (.ok (.slice (some ⟨h.next, 0, none⟩) m (Nat.add (Nat.mul FZ size) m)) (h.new (.cells true (len new) new .nil)))
    (fun a => Addr.rec (fun b off s => Option.rec
      (Option.rec .fail (fun k => Blk.rec (fun own k pat tr =>
        Option.rec .fail (fun nb =>
          Bool.rec (Bool.rec .fail (.ok (.slice (some ⟨h.next, 0, none⟩) (Nat.add n m) (Nat.add (Nat.mul FZ size) (Nat.add n m))) ((h.put b .dead).new nb)) (band own (Nat.beq (Nat.div c FZ) size)))
            (.ok (.slice (some ⟨h.next, 0, none⟩) (Nat.add n m) (Nat.add (Nat.mul FZ size) (Nat.add n m))) (h.new nb)) (Nat.blt c FZ))
          (grown own k pat tr off (Nat.mul n size) (Nat.mul (Nat.add n m) size) new)) .fail k) (h.blk b))
      (fun _ => .fail) s) a) base
noncomputable def eAppend (size bytes : Nat) (s x : AO) (h : Heap) (ρ : Env) : VH :=
  vSlcH (fun base n c => SC.rec .fail (fun m new =>
    Bool.rec
      (Bool.rec .fail (evGrow h size base n c m new) (band (Nat.ble (Nat.mul (Nat.add n m) bytes) 35184372088832) (Nat.ble (Nat.add n m) 35184372088832)))
      (Option.rec (.ok (.slice none (Nat.add n m) c) h) (fun a => Bool.rec (storeV h (addA a (Nat.mul n size)) new (.slice (some a) (Nat.add n m) c)) (.ok (.slice (some a) n c) h) (Nat.beq m 0)) base)
      (Nat.ble (Nat.add n m) (capLow c))) (srcCells h size (val ρ x))) (val ρ s)
noncomputable def repL (zero : List Value) : Nat → List Value := Nat.rec [] fun _ ih => app zero ih
noncomputable def eClear (zero : List Value) (x : AO) (h : Heap) (ρ : Env) : VH :=
  vSlcH (fun a n _ => Option.rec (.ok undefV h) (fun a => Bool.rec (storeV h a (repL zero n) undefV) (.ok undefV h) (Nat.beq n 0)) a) (val ρ x)
noncomputable def mnN (a b : Nat) : Nat := Bool.rec b a (Nat.ble a b)
noncomputable def eCopy (size : Nat) (d x : AO) (h : Heap) (ρ : Env) : VH :=
  vSlcH (fun base dn _ => SC.rec .fail (fun m l =>
    Option.rec (.ok (.int .i64 0) h) (fun a => storeV h a (takeL l (Nat.mul (mnN m dn) size)) (.int .i64 (Int.ofNat (mnN m dn)))) base) (srcCells h size (val ρ x))) (val ρ d)

/-! ### Code -/
abbrev CallT := FuncId → List Value → Heap → VH

inductive AOp where
  | p (f : Env → Option Value)
  | l (looks : Option (AO × Nat)) (f : Heap → Env → Option Value)
  | n (f : Env → Nat → VB)
  | e (f : Heap → Env → VH)
  | call (f : FuncId) (args : List AO)
  | callv (x : AO) (args : List AO)

inductive OpL where
  | nil
  | cons (dst : Option Pos) (op : AOp) (rest : OpL)
  | consG (g : Pos) (w : Bool) (dst : Option Pos) (op : AOp) (rest : OpL)

inductive Checks where
  | nil
  | cons (e : Nat) (x : AO) (n : Nat) (rest : Checks)

inductive ACode where
  | skip
  | reg (ops : OpL)
  | dreg (ops : OpL) (checks : Checks)
  | seq (a b : ACode)
  | cond (c : AO) (a b : ACode)
  | block (id : Nat) (a : ACode)
  | loop (a : ACode)
  | exit (id : Nat)
  | ret

inductive Ress where
  | nil
  | tmp (p : Pos) (rest : Ress)
  | cell (f : Heap → Env → Option Value) (rest : Ress)

inductive AFunc where
  | mk (ntmps : Nat) (body : ACode) (results : Ress)

noncomputable def pv (h : Heap) (o : Option Value) : VH := Option.rec .fail (fun v => .ok v h) o
noncomputable def evCallv (call : CallT) (h : Heap) (x : Value) (args : List Value) : VH :=
  vFuncH (fun fn first captured => Fn.rec (fun f => call f (app first.toList (app args captured.toList)) h) (fun _ => .fail) (fun _ _ => .fail) (fun _ _ _ _ => .fail) (fun _ => .fail) fn) x
noncomputable def opE (call : CallT) (ρ : Env) (h : Heap) (o : AOp) : VH :=
  AOp.rec (fun f => pv h (f ρ)) (fun _ f => pv h (f h ρ)) (fun f => VB.rec .fail (fun v b => .ok v (h.new b)) (f ρ h.next)) (fun f => f h ρ)
    (fun f args => call f (vals ρ args) h) (fun x args => evCallv call h (val ρ x) (vals ρ args)) o

noncomputable def isB (w : Bool) (v : Option Value) : Bool :=
  Option.rec false (fun v => Option.rec false (fun b => Bool.rec (bnot b) b w) (boolOf v)) v

inductive R where
  | fail
  | norm (ρ : Env) (h : Heap)
  | exit (id : Nat) (ρ : Env) (h : Heap)
  | ret (ρ : Env) (h : Heap)

noncomputable def opsE (call : CallT) : OpL → Env → Heap → R :=
  OpL.rec (fun ρ h => .norm ρ h)
    (fun dst op _ ih ρ h => VH.rec .fail (fun v h' => ih (put ρ dst v) h') (opE call ρ h op))
    (fun g w dst op _ ih ρ h => Bool.rec (ih (put ρ dst undefV) h) (VH.rec .fail (fun v h' => ih (put ρ dst v) h') (opE call ρ h op)) (isB w (Tr.get g ρ)))

inductive Hs where
  | nil (h : Heap)
  | cons (h : Heap) (rest : Hs)
inductive RD where
  | fail
  | ok (ρ : Env) (hs : Hs)
noncomputable def isNop (o : AOp) : Bool := AOp.rec (fun _ => false) (fun _ _ => false) (fun _ => true) (fun _ => false) (fun _ _ => false) (fun _ _ => false) o
noncomputable def countN : OpL → Nat := OpL.rec 0 (fun _ o _ ih => Bool.rec ih (Nat.succ ih) (isNop o)) (fun _ _ _ o _ ih => Bool.rec ih (Nat.succ ih) (isNop o))
/-- one operation of a region that draws its order: a new block has the number that was kept for it -/
noncomputable def opD (call : CallT) (ρ : Env) (h : Heap) (id : Nat) (o : AOp) : VH :=
  AOp.rec (fun f => pv h (f ρ)) (fun _ f => pv h (f h ρ)) (fun f => VB.rec .fail (fun v b => .ok v (h.put id b)) (f ρ id)) (fun f => f h ρ)
    (fun f args => call f (vals ρ args) h) (fun x args => evCallv call h (val ρ x) (vals ρ args)) o
/-- run, keeping the heap ahead of each operation, and the last one -/
noncomputable def opsD (call : CallT) : OpL → Env → Heap → Nat → RD :=
  OpL.rec (fun ρ h _ => .ok ρ (.nil h))
    (fun dst op _ ih ρ h id => VH.rec .fail (fun v h' => RD.rec .fail (fun ρ' hs => .ok ρ' (.cons h hs)) (ih (put ρ dst v) h' (Bool.rec id (Nat.succ id) (isNop op)))) (opD call ρ h id op))
    (fun g w dst op _ ih ρ h id =>
      Bool.rec (RD.rec .fail (fun ρ' hs => .ok ρ' (.cons h hs)) (ih (put ρ dst undefV) h (Bool.rec id (Nat.succ id) (isNop op))))
        (VH.rec .fail (fun v h' => RD.rec .fail (fun ρ' hs => .ok ρ' (.cons h hs)) (ih (put ρ dst v) h' (Bool.rec id (Nat.succ id) (isNop op)))) (opD call ρ h id op)) (isB w (Tr.get g ρ)))
noncomputable def Heap.keep (h : Heap) (n : Nat) : Heap := Heap.rec (fun nx bs => ⟨Nat.add nx n, bs⟩) h
noncomputable def Hs.head (hs : Hs) : Heap := Hs.rec (fun h => h) (fun h _ _ => h) hs
noncomputable def Hs.last (hs : Hs) : Heap := Hs.rec (fun h => h) (fun _ _ ih => ih) hs
noncomputable def Hs.drop : Nat → Hs → Hs := Nat.rec (fun hs => hs) fun _ ih hs => Hs.rec (fun h => .nil h) (fun _ r _ => ih r) hs
noncomputable def Hs.tail (hs : Hs) : Hs := Hs.rec (fun h => .nil h) (fun _ r _ => r) hs

noncomputable def addrEq (a b : Addr) : Bool :=
  Addr.rec (fun x i s => Addr.rec (fun y j u => band (band (isN s) (isN u)) (band (Nat.beq x y) (Nat.beq i j))) b) a
noncomputable def cellEq (x y : Option Value) : Bool :=
  match x, y with
  | none, none => true
  | some (.int k a), some (.int k' b) => band (Nat.beq (kidx k) (kidx k')) (ieq a b)
  | some (.bool a), some (.bool b) => Bool.rec (bnot b) b a
  | some (.string a), some (.string b) => beqL (strL a) (strL b)
  | some (.pointer none), some (.pointer none) => true
  | some (.pointer (some a)), some (.pointer (some b)) => addrEq a b
  | some (.slice none n c), some (.slice none m d) => band (Nat.beq n m) (Nat.beq c d)
  | some (.slice (some a) n c), some (.slice (some b) m d) => band (addrEq a b) (band (Nat.beq n m) (Nat.beq c d))
  | some .nilIface, some .nilIface => true
  | some .nilFunc, some .nilFunc => true
  | _, _ => false
noncomputable def cellsEq (h h' : Heap) (a : Addr) : Nat → Bool :=
  Nat.rec true fun n ih => band (cellEq (h.cell ⟨a.block, Nat.add a.off n, a.spot⟩) (h'.cell ⟨a.block, Nat.add a.off n, a.spot⟩)) ih
noncomputable def beqB (a b : Bool) : Bool := Bool.rec (bnot b) b a
noncomputable def chk1 (h h' : Heap) (n : Nat) (x : Value) : Bool :=
  (@Value.rec (fun _ => Bool) (fun _ => Unit) (fun _ => Unit) (fun _ => false) (fun _ _ => false) (fun _ _ => false) (fun _ _ _ => false) (fun _ => false) (fun a => Option.rec false (fun a => cellsEq h h' a n) a) (fun a _ _ => Option.rec false (fun a => bor (band (isN (h.blk a.block)) (isN (h'.blk a.block))) (band (ownB (h.blk a.block)) (ownB (h'.blk a.block)))) a) (fun _ => false) (fun _ => false) (fun _ _ _ _ _ => false) false (fun _ _ _ => false) false (fun _ _ => false) (fun x0 _ => (fun _ => true) x0) (fun _ _ => ()) () (fun _ _ _ _ => ())) x
noncomputable def drawOk (ρ : Env) (hs : Hs) : Checks → Bool :=
  Checks.rec true fun e x n _ ih => band (chk1 (Hs.drop e hs).head (Hs.drop e hs).tail.head n (val ρ x)) ih
noncomputable def dregE (call : CallT) (ops : OpL) (checks : Checks) (ρ : Env) (h : Heap) : R :=
  RD.rec .fail (fun ρ' hs => Bool.rec .fail (.norm ρ' hs.last) (drawOk ρ' hs checks)) (opsD call ops ρ (h.keep (countN ops)) h.next)

noncomputable def loopE (body : Env → Heap → R) : Nat → Env → Heap → R :=
  Nat.rec (fun _ _ => .fail) fun _ ih ρ h => R.rec .fail (fun ρ h => ih ρ h) (fun id ρ h => .exit id ρ h) (fun ρ h => .ret ρ h) (body ρ h)

noncomputable def exec (call : CallT) (K : Nat) : ACode → Env → Heap → R :=
  ACode.rec (fun ρ h => .norm ρ h)
    (fun ops ρ h => opsE call ops ρ h)
    (fun ops checks ρ h => dregE call ops checks ρ h)
    (fun _ _ ia ib ρ h => R.rec .fail (fun ρ h => ib ρ h) (fun id ρ h => .exit id ρ h) (fun ρ h => .ret ρ h) (ia ρ h))
    (fun c _ _ ia ib ρ h => Option.rec .fail (fun b => Bool.rec (ib ρ h) (ia ρ h) b) (boolOf (val ρ c)))
    (fun id _ ia ρ h => R.rec .fail (fun ρ h => .norm ρ h) (fun id' ρ h => Bool.rec (.exit id' ρ h) (.norm ρ h) (Nat.beq id' id)) (fun ρ h => .ret ρ h) (ia ρ h))
    (fun _ ia ρ h => loopE ia K ρ h)
    (fun id ρ h => .exit id ρ h)
    (fun ρ h => .ret ρ h)

noncomputable def initEnv : List Value → Nat → Env → Env := List.rec (fun _ ρ => ρ) fun v _ ih n ρ => ih (Nat.succ n) (Tr.set v (pos n) ρ)
noncomputable def resOf (h : Heap) (ρ : Env) : Ress → Option (List Value) :=
  Ress.rec (some []) (fun p _ ih => Option.rec none (fun r => some (val ρ (.t p) :: r)) ih)
    (fun f _ ih => Option.rec none (fun v => Option.rec none (fun r => some (v :: r)) ih) (f h ρ))
noncomputable def resV (l : List Value) : Value := List.rec (.tuple #[]) (fun v r _ => List.rec v (fun _ _ _ => .tuple ⟨l⟩) r) l
noncomputable def finish (ρ : Env) (h : Heap) (rs : Ress) : VH := Option.rec .fail (fun l => .ok (resV l) h) (resOf h ρ rs)

noncomputable def callF (T : FuncId → Option AFunc) (K : Nat) : Nat → CallT :=
  Nat.rec (fun _ _ _ => .fail) fun _ ih f args h =>
    Option.rec .fail (fun af => AFunc.rec (fun ntmps body results =>
      Bool.rec .fail (R.rec .fail (fun ρ h => finish ρ h results) (fun _ _ _ => .fail) (fun ρ h => finish ρ h results) (exec ih K body (initEnv args 0 .nil) h)) (Nat.ble (len args) ntmps)) af) (T f)
end Go.Proofs.Ytndfelbgppbncaa.Ev
