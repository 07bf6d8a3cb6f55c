/- The evaluator's soundness, first part: trees, lists, and what a value of the evaluator says of a value of the machine. -/
import Derived.Test.YtndfelbgppbncaaEvComp
set_option linter.unusedVariables false
namespace Go.Proofs.Ytndfelbgppbncaa.Ev
/-! ### ways -/
def Pos.num : Pos → Nat
  | .H => 0
  | .O p => 2 * p.num + 1
  | .I p => 2 * p.num + 2

theorem posF_zero (f : Nat) : posF (f + 1) 0 = .H := rfl
theorem posF_succ (f m : Nat) : posF (f + 1) (m + 1) = if m % 2 = 0 then .O (posF f (m / 2)) else .I (posF f (m / 2)) := by
  show (@Bool.rec (fun _ => Pos) (.I (posF f (m / 2))) (.O (posF f (m / 2))) (Nat.beq (Nat.mod m 2) 0)) = _
  by_cases h : m % 2 = 0
  · have : Nat.beq (Nat.mod m 2) 0 = true := by show Nat.beq (m % 2) 0 = true; rw [h]; rfl
    rw [this, if_pos h]
  · have : Nat.beq (Nat.mod m 2) 0 = false := by
      show Nat.beq (m % 2) 0 = false
      rcases Nat.mod_two_eq_zero_or_one m with h0 | h1
      · exact absurd h0 h
      · rw [h1]; rfl
    rw [this, if_neg h]
theorem num_posF : ∀ (f n : Nat), n ≤ f → (posF f n).num = n := by
  intro f
  induction f with
  | zero => intro n h; obtain rfl : n = 0 := by omega
            rfl
  | succ f ih =>
    intro n h
    cases n with
    | zero => rfl
    | succ m =>
      rw [posF_succ]
      split
      · simp only [Pos.num]; rw [ih _ (by omega)]; omega
      · simp only [Pos.num]; rw [ih _ (by omega)]; omega
theorem num_pos (n : Nat) : (pos n).num = n := num_posF n n (Nat.le_refl n)
theorem pos_inj {m n : Nat} (h : pos m = pos n) : m = n := by
  have := congrArg Pos.num h
  simpa [num_pos] using this
theorem posCF_eq : ∀ (f n : Nat), posCF f n = some (posF f n) := by
  intro f
  induction f with
  | zero => intro n; rfl
  | succ f ih =>
    intro n
    cases n with
    | zero => rfl
    | succ m =>
      show (@Option.rec Pos (fun _ => Option Pos) none (fun p => @Bool.rec (fun _ => Option Pos) (some (.I p)) (some (.O p)) (Nat.beq (Nat.mod m 2) 0)) (posCF f (m / 2))) = some (@Bool.rec (fun _ => Pos) (.I (posF f (m / 2))) (.O (posF f (m / 2))) (Nat.beq (Nat.mod m 2) 0))
      rw [ih]
      cases Nat.beq (Nat.mod m 2) 0 <;> rfl
theorem posC_eq (n : Nat) : posC n = some (pos n) := posCF_eq n n

/-! ### trees -/
section
variable {α : Type}
@[simp] theorem get_nil (p : Pos) : Tr.get p (.nil : Tr α) = none := by cases p <;> rfl
@[simp] theorem get_H (l : Tr α) (v : Option α) (r : Tr α) : Tr.get .H (.node l v r) = v := rfl
@[simp] theorem get_O (p : Pos) (l : Tr α) (v : Option α) (r : Tr α) : Tr.get (.O p) (.node l v r) = Tr.get p l := rfl
@[simp] theorem get_I (p : Pos) (l : Tr α) (v : Option α) (r : Tr α) : Tr.get (.I p) (.node l v r) = Tr.get p r := rfl
theorem set_H_nil (v : α) : Tr.set v .H .nil = .node .nil (some v) .nil := rfl
theorem set_O_nil (v : α) (p : Pos) : Tr.set v (.O p) .nil = .node (Tr.set v p .nil) none .nil := rfl
theorem set_I_nil (v : α) (p : Pos) : Tr.set v (.I p) .nil = .node .nil none (Tr.set v p .nil) := rfl
theorem set_H (v : α) (l : Tr α) (x : Option α) (r : Tr α) : Tr.set v .H (.node l x r) = .node l (some v) r := rfl
theorem set_O (v : α) (p : Pos) (l : Tr α) (x : Option α) (r : Tr α) : Tr.set v (.O p) (.node l x r) = .node (Tr.set v p l) x r := rfl
theorem set_I (v : α) (p : Pos) (l : Tr α) (x : Option α) (r : Tr α) : Tr.set v (.I p) (.node l x r) = .node l x (Tr.set v p r) := rfl
theorem get_set (v : α) : ∀ (p q : Pos) (t : Tr α), Tr.get q (Tr.set v p t) = if q = p then some v else Tr.get q t := by
  intro p
  induction p with
  | H =>
    intro q t
    cases t with
    | nil => rw [set_H_nil]; cases q <;> simp
    | node l x r => rw [set_H]; cases q <;> simp
  | O p ih =>
    intro q t
    cases t with
    | nil => rw [set_O_nil]; cases q <;> simp [ih]
    | node l x r => rw [set_O]; cases q <;> simp [ih]
  | I p ih =>
    intro q t
    cases t with
    | nil => rw [set_I_nil]; cases q <;> simp [ih]
    | node l x r => rw [set_I]; cases q <;> simp [ih]
theorem get_set_self (v : α) (p : Pos) (t : Tr α) : Tr.get p (Tr.set v p t) = some v := by rw [get_set, if_pos rfl]
theorem get_set_ne (v : α) {p q : Pos} (t : Tr α) (h : q ≠ p) : Tr.get q (Tr.set v p t) = Tr.get q t := by rw [get_set, if_neg h]

/-! ### lists -/
@[simp] theorem nth_nil (n : Nat) : nth ([] : List α) n = none := rfl
@[simp] theorem nth_zero (a : α) (l : List α) : nth (a :: l) 0 = some a := rfl
@[simp] theorem nth_succ (a : α) (l : List α) (n : Nat) : nth (a :: l) (n + 1) = nth l n := rfl
theorem nth_eq : ∀ (l : List α) (n : Nat), nth l n = l[n]? := by
  intro l
  induction l with
  | nil => intro n; rfl
  | cons a l ih => intro n; cases n with
    | zero => rfl
    | succ n => simpa using ih n
@[simp] theorem len_nil : len ([] : List α) = 0 := rfl
@[simp] theorem len_cons (a : α) (l : List α) : len (a :: l) = len l + 1 := rfl
theorem len_eq : ∀ (l : List α), len l = l.length := by
  intro l
  induction l with
  | nil => rfl
  | cons a l ih => simp [ih]
theorem app_eq : ∀ (l r : List α), app l r = l ++ r := by
  intro l r
  induction l with
  | nil => rfl
  | cons a l ih => show a :: app l r = _; rw [ih]; rfl
end
theorem dropL_eq : ∀ (l : List Value) (n : Nat), dropL l n = l.drop n := by
  intro l
  induction l with
  | nil => intro n; cases n <;> rfl
  | cons a l ih => intro n; cases n with
    | zero => rfl
    | succ n => show dropL l n = _; rw [ih]; rfl
theorem takeL_eq : ∀ (l : List Value) (n : Nat), takeL l n = l.take n := by
  intro l
  induction l with
  | nil => intro n; cases n <;> rfl
  | cons a l ih => intro n; cases n with
    | zero => rfl
    | succ n => show a :: takeL l n = _; rw [ih]; rfl
theorem setL_eq : ∀ (l : List Value) (n : Nat) (v : Value), setL l n v = l.set n v := by
  intro l
  induction l with
  | nil => intro n v; rfl
  | cons a l ih => intro n v; cases n with
    | zero => rfl
    | succ n => show a :: setL l n v = _; rw [ih]; rfl
@[simp] theorem fillL_nil (n : Nat) (cs : List Value) : fillL [] n cs = cs := rfl
@[simp] theorem fillL_cons (v : Value) (l : List Value) (n : Nat) (cs : List Value) : fillL (v :: l) n cs = fillL l (n + 1) (cs.set n v) := by
  show fillL l (n + 1) (setL cs n v) = _; rw [setL_eq]

/-! ### values -/
/-- Where a block lies: the machine's block, the place in it, how many cells that has. -/
abbrev Inj := Nat → Option (Nat × Nat × Nat)
/-- A capacity: below FZ it is the machine's; from there on, c % FZ is the least that it may be, c / FZ an element's size. -/
def CapR (c c' : Nat) : Prop := if c < FZ then c' = c else c % FZ ≤ c'
mutual
inductive VR (ι : Inj) : Value → Value → Prop where
  | bool (b : Bool) : VR ι (.bool b) (.bool b)
  | int (k : IntKind) (n : Int) : VR ι (.int k n) (.int k n)
  | string (s : ByteArray) : VR ι (.string s) (.string s)
  | ptrN : VR ι (.pointer none) (.pointer none)
  | ptr {b B o S i : Nat} : ι b = some (B, o, S) → VR ι (.pointer (some ⟨b, i, none⟩)) (.pointer (some ⟨B, o + i, none⟩))
  | slcN : VR ι (.slice none 0 0) (.slice none 0 0)
  | slc {b B o S i j l c c' : Nat} : ι b = some (B, o, S) → CapR c c' → l ≤ capLow c → (j = o + i ∨ (l = 0 ∧ c' = 0)) → (FZ ≤ c → j + c' * (c / FZ) ≤ S) → VR ι (.slice (some ⟨b, i, none⟩) l c) (.slice (some ⟨B, j, none⟩) l c')
  | mapN : VR ι (.map none) (.map none)
  | tok (n : Option Nat) (a : Option Addr) (l c : Nat) : VR ι (.chan n) (.slice a l c)
  | func (f : FuncId) {xs xs' ys ys' : List Value} : VRL ι xs xs' → VRL ι ys ys' → VR ι (.func (.func f) ⟨xs⟩ ⟨ys⟩) (.func (.func f) ⟨xs'⟩ ⟨ys'⟩)
  | nilFunc : VR ι .nilFunc .nilFunc
  | nilIface : VR ι .nilIface .nilIface
  | iface (t : TypeId) {v v' : Value} : VR ι v v' → VR ι (.iface t v) (.iface t v')
  | agg {xs xs' : List Value} : VRL ι xs xs' → xs.all isCell = true → VR ι (.agg ⟨xs⟩) (.agg ⟨xs'⟩)
  | tuple {xs xs' : List Value} : VRL ι xs xs' → VR ι (.tuple ⟨xs⟩) (.tuple ⟨xs'⟩)
inductive VRL (ι : Inj) : List Value → List Value → Prop where
  | nil : VRL ι [] []
  | cons {v v' : Value} {l l' : List Value} : VR ι v v' → VRL ι l l' → VRL ι (v :: l) (v' :: l')
end

def Inj.le (ι κ : Inj) : Prop := ∀ b x, ι b = some x → κ b = some x
theorem Inj.le_refl (ι : Inj) : ι.le ι := fun _ _ h => h
theorem Inj.le_trans {ι κ μ : Inj} (h : ι.le κ) (h' : κ.le μ) : ι.le μ := fun b x e => h' b x (h b x e)

mutual
theorem VR.mono {ι κ : Inj} (h : ι.le κ) : ∀ {v v' : Value}, VR ι v v' → VR κ v v'
  | _, _, .bool b => .bool b
  | _, _, .int k n => .int k n
  | _, _, .string s => .string s
  | _, _, .ptrN => .ptrN
  | _, _, .ptr e => .ptr (h _ _ e)
  | _, _, .slcN => .slcN
  | _, _, .slc e hc hl hj hs => .slc (h _ _ e) hc hl hj hs
  | _, _, .mapN => .mapN
  | _, _, .tok n a l c => .tok n a l c
  | _, _, .func f hx hy => .func f (VRL.mono h hx) (VRL.mono h hy)
  | _, _, .nilFunc => .nilFunc
  | _, _, .nilIface => .nilIface
  | _, _, .iface t e => .iface t (VR.mono h e)
  | _, _, .agg e hc => .agg (VRL.mono h e) hc
  | _, _, .tuple e => .tuple (VRL.mono h e)
theorem VRL.mono {ι κ : Inj} (h : ι.le κ) : ∀ {l l' : List Value}, VRL ι l l' → VRL κ l l'
  | _, _, .nil => .nil
  | _, _, .cons e r => .cons (VR.mono h e) (VRL.mono h r)
end

theorem VRL.length {ι : Inj} : ∀ {l l' : List Value}, VRL ι l l' → l.length = l'.length
  | _, _, .nil => rfl
  | _, _, .cons _ r => by simp [VRL.length r]
theorem VRL.get {ι : Inj} : ∀ {l l' : List Value}, VRL ι l l' → ∀ (i : Nat) (v : Value), l[i]? = some v → ∃ v', l'[i]? = some v' ∧ VR ι v v'
  | _, _, .nil, i, v, h => by simp at h
  | _, _, .cons e r, 0, v, h => by simp at h; subst h; exact ⟨_, rfl, e⟩
  | _, _, .cons e r, i + 1, v, h => by simpa using VRL.get r i v (by simpa using h)
theorem VRL.app {ι : Inj} : ∀ {l l' r r' : List Value}, VRL ι l l' → VRL ι r r' → VRL ι (l ++ r) (l' ++ r')
  | _, _, _, _, .nil, h => h
  | _, _, _, _, .cons e q, h => .cons e (VRL.app q h)
theorem VRL.of_get {ι : Inj} : ∀ {l l' : List Value}, l.length = l'.length → (∀ (i : Nat) (v v' : Value), l[i]? = some v → l'[i]? = some v' → VR ι v v') → VRL ι l l'
  | [], [], _, _ => .nil
  | [], _ :: _, h, _ => by simp at h
  | _ :: _, [], h, _ => by simp at h
  | v :: l, v' :: l', h, hg => .cons (hg 0 v v' rfl rfl) (VRL.of_get (by simpa using h) fun i a b ha hb => hg (i + 1) a b (by simpa using ha) (by simpa using hb))
theorem VRL.take {ι : Inj} (n : Nat) {l l' : List Value} (h : VRL ι l l') : VRL ι (l.take n) (l'.take n) := by
  induction n generalizing l l' with
  | zero => simpa using VRL.nil
  | succ n ih => cases h with
    | nil => simpa using VRL.nil
    | cons e r => simpa using VRL.cons e (ih r)
theorem VRL.drop {ι : Inj} (n : Nat) {l l' : List Value} (h : VRL ι l l') : VRL ι (l.drop n) (l'.drop n) := by
  induction n generalizing l l' with
  | zero => simpa using h
  | succ n ih => cases h with
    | nil => simpa using VRL.nil
    | cons e r => simpa using ih r
theorem VRL.set {ι : Inj} (n : Nat) {v v' : Value} {l l' : List Value} (hv : VR ι v v') (h : VRL ι l l') : VRL ι (l.set n v) (l'.set n v') := by
  induction n generalizing l l' with
  | zero => cases h with
    | nil => exact .nil
    | cons e r => exact .cons hv r
  | succ n ih => cases h with
    | nil => exact .nil
    | cons e r => exact .cons e (ih r)

mutual
theorem VR.ground {ι : Inj} : ∀ (v : Value), groundV v = true → VR ι v v
  | .bool b, _ => .bool b
  | .int k n, _ => .int k n
  | .string s, _ => .string s
  | .pointer none, _ => .ptrN
  | .pointer (some a), h => by simp [groundV] at h
  | .slice none l c, h => by simp [groundV] at h; obtain ⟨rfl, rfl⟩ := h; exact .slcN
  | .slice (some a) l c, h => by simp [groundV] at h
  | .map none, _ => .mapN
  | .map (some r), h => by simp [groundV] at h
  | .nilFunc, _ => .nilFunc
  | .nilIface, _ => .nilIface
  | .iface t v, h => .iface t (VR.ground v (by simpa [groundV] using h))
  | .agg ⟨l⟩, h => .agg (VRL.ground l (by simp [groundV, groundA] at h; exact h.1)) (by simp [groundV, groundA] at h; simpa using h.2)
  | .tuple ⟨l⟩, h => .tuple (VRL.ground l (by simpa [groundV, groundA] using h))
  | .float .., h => by simp [groundV] at h
  | .complex .., h => by simp [groundV] at h
  | .chan .., h => by simp [groundV] at h
  | .func .., h => by simp [groundV] at h
theorem VRL.ground {ι : Inj} : ∀ (l : List Value), groundL l = true → VRL ι l l
  | [], _ => .nil
  | v :: l, h => .cons (VR.ground v (by simp [groundL] at h; exact h.1)) (VRL.ground l (by simp [groundL] at h; exact h.2))
end
end Go.Proofs.Ytndfelbgppbncaa.Ev
