/- The tokens of a text, as plain functions on lists of bytes: what package words comes to. No program stands here. -/
import Derived.Lib.Bytealg
import Derived.Lib.Strings
set_option linter.unusedVariables false
namespace Go.Proofs.YthbdnbeiafpkcaaDoor
namespace Wo
abbrev Bs := List UInt8
def isDigit (c : UInt8) : Bool := decide (48 ≤ c.toNat) && decide (c.toNat ≤ 57)
def isLetter (c : UInt8) : Bool := (decide (97 ≤ c.toNat) && decide (c.toNat ≤ 122)) || ((decide (65 ≤ c.toNat) && decide (c.toNat ≤ 90)) || c.toNat == 95)
def isBlank (c : UInt8) : Bool := c.toNat == 32 || (c.toNat == 9 || (c.toNat == 10 || c.toNat == 13))
def notNl (c : UInt8) : Bool := !(c.toNat == 10)
def alnum (c : UInt8) : Bool := isLetter c || isDigit c
/-- how many bytes of a kind a text begins with -/
def runL (p : UInt8 → Bool) : Bs → Nat
  | [] => 0
  | c :: l => if p c then runL p l + 1 else 0
theorem runL_at (p : UInt8 → Bool) (l : Bs) (j : Nat) (h : j < l.length) : runL p (l.drop j) = if p l[j] then runL p (l.drop (j + 1)) + 1 else 0 := by
  rw [List.drop_eq_getElem_cons h]; rfl
theorem runL_le (p : UInt8 → Bool) : ∀ l : Bs, runL p l ≤ l.length
  | [] => Nat.le_refl _
  | c :: l => by
    have := runL_le p l
    unfold runL; split <;> simp; omega
/-- one round of pass -/
def stepL (l : Bs) : Nat := runL isBlank l + (if (l.drop (runL isBlank l)).head? = some 35 then runL notNl (l.drop (runL isBlank l)) else 0)
def passF : Nat → Bs → Nat
  | 0, _ => 0
  | f + 1, l => if stepL l = 0 then 0 else stepL l + passF f (l.drop (stepL l))
def passL (l : Bs) : Nat := passF l.length l
theorem stepL_le (l : Bs) : stepL l ≤ l.length := by
  unfold stepL
  have h1 := runL_le isBlank l
  have h2 := runL_le notNl (l.drop (runL isBlank l))
  rw [List.length_drop] at h2
  split <;> omega
theorem passF_stop (f : Nat) (l : Bs) (h : stepL l = 0) : passF f l = 0 := by
  cases f with
  | zero => rfl
  | succ f => unfold passF; rw [if_pos h]
theorem passF_enough : ∀ (f g : Nat) (l : Bs), l.length ≤ f → l.length ≤ g → passF f l = passF g l
  | f, g, l => by
    induction f generalizing g l with
    | zero =>
      intro h _
      obtain rfl : l = [] := List.eq_nil_of_length_eq_zero (by omega)
      rw [passF_stop _ _ rfl, passF_stop _ _ rfl]
    | succ f ih =>
      intro h h'
      by_cases h0 : stepL l = 0
      · rw [passF_stop _ _ h0, passF_stop _ _ h0]
      · have hl := stepL_le l
        cases g with
        | zero => omega
        | succ g => unfold passF; rw [if_neg h0, if_neg h0, ih g _ (by rw [List.length_drop]; omega) (by rw [List.length_drop]; omega)]
theorem passL_step (l : Bs) (h : stepL l ≠ 0) : passL l = stepL l + passL (l.drop (stepL l)) := by
  have hl := stepL_le l
  unfold passL
  cases hn : l.length with
  | zero => omega
  | succ f =>
    conv => lhs; unfold passF
    rw [if_neg h, passF_enough f (l.drop (stepL l)).length _ (by rw [List.length_drop]; omega) (Nat.le_refl _)]
theorem passL_stop (l : Bs) (h : stepL l = 0) : passL l = 0 := passF_stop _ _ h
theorem passF_le : ∀ (f : Nat) (l : Bs), passF f l ≤ l.length
  | 0, l => Nat.zero_le _
  | f + 1, l => by
    have h := stepL_le l
    have h2 := passF_le f (l.drop (stepL l))
    rw [List.length_drop] at h2
    unfold passF
    split <;> omega
theorem passL_le (l : Bs) : passL l ≤ l.length := passF_le _ _
/-- what a hexadecimal digit says -/
def hexv (c : UInt8) : Option Nat := if 48 ≤ c.toNat ∧ c.toNat ≤ 57 then some (c.toNat - 48) else if 97 ≤ c.toNat ∧ c.toNat ≤ 102 then some (c.toNat - 87) else none
def escX (l : Bs) : UInt8 × Nat := match l with
  | a :: b :: _ => (match hexv a, hexv b with
    | some x, some y => (UInt8.ofNat (16 * x + y), 3)
    | _, _ => (0, 0))
  | _ => (0, 0)
def esc : Bs → UInt8 × Nat
  | [] => (0, 0)
  | c :: l => if c.toNat = 34 ∨ c.toNat = 92 then (c, 1) else if c.toNat = 110 then (10, 1) else if c.toNat = 120 then escX l else (0, 0)
/-- what is said behind an opening quote: the bytes, and how many say it, the closing one too -/
def txF : Nat → Bs → Option (Bs × Nat)
  | 0, _ => none
  | _ + 1, [] => none
  | f + 1, c :: l => if c.toNat = 34 then some ([], 1) else if c.toNat < 32 then none else if c.toNat = 92 then
      (if (esc l).2 = 0 then none else (txF f (l.drop (esc l).2)).map fun r => ((esc l).1 :: r.1, r.2 + (esc l).2 + 1))
    else (txF f l).map fun r => (c :: r.1, r.2 + 1)
def tx (l : Bs) : Option (Bs × Nat) := txF (l.length + 1) l
theorem escX_le (l : Bs) : (escX l).2 ≤ l.length + 1 := by
  match l with
  | [] => exact Nat.zero_le _
  | [x] => exact Nat.zero_le _
  | x :: y :: q =>
    show (match hexv x, hexv y with
      | some x, some y => (UInt8.ofNat (16 * x + y), 3)
      | _, _ => ((0 : UInt8), 0)).2 ≤ _
    split <;> simp
theorem esc_le (l : Bs) : (esc l).2 ≤ l.length := by
  match l with
  | [] => exact Nat.le_refl _
  | c :: r =>
    show (if c.toNat = 34 ∨ c.toNat = 92 then (c, 1) else if c.toNat = 110 then (10, 1) else if c.toNat = 120 then escX r else (0, 0)).2 ≤ _
    have := escX_le r
    split
    · simp
    · split
      · simp
      · split
        · exact this
        · exact Nat.zero_le _
theorem txF_enough : ∀ (f g : Nat) (l : Bs), l.length + 1 ≤ f → l.length + 1 ≤ g → txF f l = txF g l := by
  intro f
  induction f with
  | zero => intro g l h; omega
  | succ f ih =>
    intro g l h h'
    cases g with
    | zero => omega
    | succ g =>
      cases l with
      | nil => rfl
      | cons c l =>
        simp only [List.length_cons] at h h'
        unfold txF
        rw [ih g (l.drop (esc l).2) (by rw [List.length_drop]; omega) (by rw [List.length_drop]; omega), ih g l (by omega) (by omega)]
theorem tx_nil : tx [] = none := rfl
theorem tx_cons (c : UInt8) (l : Bs) : tx (c :: l) = if c.toNat = 34 then some ([], 1) else if c.toNat < 32 then none else if c.toNat = 92 then
      (if (esc l).2 = 0 then none else (tx (l.drop (esc l).2)).map fun r => ((esc l).1 :: r.1, r.2 + (esc l).2 + 1))
    else (tx l).map fun r => (c :: r.1, r.2 + 1) := by
  conv => lhs; unfold tx txF
  rw [txF_enough _ ((l.drop (esc l).2).length + 1) (l.drop (esc l).2) (by rw [List.length_drop, List.length_cons]; omega) (Nat.le_refl _), List.length_cons]
  rfl
/-- what is told so far, and what is left -/
def txAt (l out : Bs) (j : Nat) : Option (Bs × Nat) := (tx (l.drop j)).map fun r => (out ++ r.1, r.2 + (j - 1))
theorem txAt_start (l : Bs) : tx (l.drop 1) = txAt l [] 1 := by
  unfold txAt
  cases tx (l.drop 1) with
  | none => rfl
  | some r => simp
theorem txAt_end (l out : Bs) (j : Nat) (h : l.length ≤ j) : txAt l out j = none := by
  unfold txAt; rw [List.drop_of_length_le h]; rfl
theorem txAt_at (l out : Bs) (j : Nat) (h : j < l.length) (h1 : 1 ≤ j) : txAt l out j = if l[j].toNat = 34 then some (out, j) else if l[j].toNat < 32 then none else if l[j].toNat = 92 then
      (if (esc (l.drop (j + 1))).2 = 0 then none else txAt l (out ++ [(esc (l.drop (j + 1))).1]) (j + (esc (l.drop (j + 1))).2 + 1))
    else txAt l (out ++ [l[j]]) (j + 1) := by
  unfold txAt
  rw [List.drop_eq_getElem_cons h, tx_cons]
  by_cases p1 : l[j].toNat = 34
  · simp only [if_pos p1, Option.map_some, List.append_nil]; congr 2; omega
  · simp only [if_neg p1]
    by_cases p2 : l[j].toNat < 32
    · simp only [if_pos p2]; rfl
    · simp only [if_neg p2]
      by_cases p3 : l[j].toNat = 92
      · simp only [if_pos p3]
        by_cases p4 : (esc (l.drop (j + 1))).2 = 0
        · simp only [if_pos p4]; rfl
        · simp only [if_neg p4]
          rw [List.drop_drop, show j + 1 + (esc (l.drop (j + 1))).2 = j + (esc (l.drop (j + 1))).2 + 1 by omega]
          cases tx (l.drop (j + (esc (l.drop (j + 1))).2 + 1)) with
          | none => rfl
          | some r => simp only [Option.map_some, List.append_assoc, List.singleton_append]; congr 2; omega
      · simp only [if_neg p3]
        cases tx (l.drop (j + 1)) with
        | none => rfl
        | some r => simp only [Option.map_some, List.append_assoc, List.singleton_append]; congr 2; omega
def textL (s : Bs) : Bs × Nat := match tx (s.drop 1) with
  | some r => (r.1, r.2 + 1)
  | none => ([], 0)
def decL (l : Bs) : Nat := l.foldl (fun n c => 10 * n + (c.toNat - 48)) 0
def keysText : Bs := [97, 99, 116, 111, 114, 32, 98, 101, 99, 111, 109, 101, 32, 99, 97, 108, 108, 32, 101, 108, 115, 101, 32, 102, 97, 108, 115, 101, 32, 102, 117, 110, 99, 32, 105, 102, 32, 108, 101, 110, 32, 108, 101, 116, 32, 111, 110, 32, 114, 101, 116, 117, 114, 110, 32, 115, 101, 108, 102, 32, 115, 101, 110, 100, 32, 115, 101, 116, 32, 115, 112, 97, 119, 110, 32, 115, 116, 111, 112, 32, 116, 114, 117, 101, 32, 119, 104, 105, 108, 101]
def keys : List Bs := [[97, 99, 116, 111, 114], [98, 101, 99, 111, 109, 101], [99, 97, 108, 108], [101, 108, 115, 101], [102, 97, 108, 115, 101], [102, 117, 110, 99], [105, 102], [108, 101, 110], [108, 101, 116], [111, 110], [114, 101, 116, 117, 114, 110], [115, 101, 108, 102], [115, 101, 110, 100], [115, 101, 116], [115, 112, 97, 119, 110], [115, 116, 111, 112], [116, 114, 117, 101], [119, 104, 105, 108, 101]]
def signs : List Bs := [[38, 38], [124, 124], [61, 61], [33, 61], [60, 61], [62, 61], [43, 43], [60], [62], [43], [45], [42], [47], [37], [33], [40], [41], [91], [93], [123], [125], [44], [59], [61]]
/-- a token without its place -/
structure Tok where
  kind : Nat
  s : Bs
  n : Nat
  len : Nat
def noTok : Tok := ⟨0, [], 0, 0⟩
def signL (s : Bs) : Tok := match signs.find? (fun x => x.isPrefixOf s) with
  | some x => ⟨5, x, 0, x.length⟩
  | none => noTok
def foundL (s : Bs) : Tok := match s with
  | [] => noTok
  | c :: _ => if isDigit c then (if decL (s.take (runL isDigit s)) < 9223372036854775808 then ⟨1, [], decL (s.take (runL isDigit s)), runL isDigit s⟩ else noTok)
    else if c.toNat = 34 then ⟨2, (textL s).1, 0, (textL s).2⟩
    else if isLetter c then ⟨if keys.contains (s.take (runL alnum s)) then 4 else 3, s.take (runL alnum s), 0, runL alnum s⟩
    else signL s
theorem txF_len : ∀ (f : Nat) (l : Bs) (r : Bs × Nat), txF f l = some r → r.2 ≤ l.length ∧ 1 ≤ r.2
  | 0, l, r, h => by cases h
  | f + 1, [], r, h => by cases h
  | f + 1, c :: l, r, h => by
    have he := esc_le l
    unfold txF at h
    split at h
    · cases h; simp
    · split at h
      · cases h
      · split at h
        · split at h
          · cases h
          · obtain ⟨q, hq, rfl⟩ := Option.map_eq_some_iff.1 h
            have := txF_len f _ q hq
            rw [List.length_drop] at this
            simp only [List.length_cons]; omega
        · obtain ⟨q, hq, rfl⟩ := Option.map_eq_some_iff.1 h
          have := txF_len f _ q hq
          simp only [List.length_cons]; omega
theorem tx_len (l : Bs) (r : Bs × Nat) (h : tx l = some r) : r.2 ≤ l.length ∧ 1 ≤ r.2 := txF_len _ _ _ h
theorem textL_len (c : UInt8) (l : Bs) : (textL (c :: l)).2 ≤ l.length + 1 := by
  unfold textL
  split
  · rename_i r hr
    have := tx_len _ r hr
    simp only [List.drop_succ_cons, List.drop_zero] at this
    show r.2 + 1 ≤ _
    omega
  · exact Nat.zero_le _
theorem prefix_len (x l : Bs) (h : x.isPrefixOf l = true) : x.length ≤ l.length := by
  rw [List.isPrefixOf_iff_prefix] at h
  exact h.length_le
theorem signL_len (l : Bs) : (signL l).len ≤ l.length := by
  unfold signL
  split
  · rename_i x hx
    have := List.find?_some hx
    exact prefix_len x l this
  · exact Nat.zero_le _
theorem foundL_len (l : Bs) : (foundL l).len ≤ l.length := by
  cases l with
  | nil => exact Nat.le_refl _
  | cons c r =>
    unfold foundL
    have h1 := runL_le isDigit (c :: r)
    have h2 := runL_le alnum (c :: r)
    have h3 := textL_len c r
    have h4 := signL_len (c :: r)
    simp only
    split
    · split
      · exact h1
      · exact Nat.zero_le _
    · split
      · simpa using h3
      · split
        · exact h2
        · exact h4
structure Wd where
  kind : Nat
  s : Bs
  n : Nat
  line : Nat
  at' : Nat
  end' : Nat
  err : Nat
  fline : Nat
def lineL (t : Bs) (n : Nat) : Nat := 1 + (t.take n).count 10
def nextL (t : Bs) (at0 : Int) : Wd :=
  if 32768 < t.length then ⟨0, [], 0, 0, 0, 0, 3, 0⟩ else if at0 < 0 ∨ (t.length : Int) < at0 then ⟨0, [], 0, 0, 0, 0, 2, 0⟩ else
  let at1 := at0.toNat + passL (t.drop at0.toNat)
  if at1 = t.length then ⟨6, [], 0, lineL t at1, at1, at1, 0, 0⟩ else
  let f := foundL (t.drop at1)
  if f.len = 0 then ⟨0, [], 0, 0, 0, 0, 100, lineL t at1⟩ else ⟨f.kind, f.s, f.n, lineL t at1, at1, at1 + f.len, 0, 0⟩
def hexd (n : Nat) : UInt8 := if n < 10 then UInt8.ofNat (48 + n) else UInt8.ofNat (87 + n)
def quote1 (c : UInt8) : Bs := if c.toNat = 34 ∨ c.toNat = 92 then [92, c] else if c.toNat = 10 then [92, 110] else if 32 ≤ c.toNat ∧ c.toNat ≤ 126 then [c] else [92, 120, hexd (c.toNat / 16), hexd (c.toNat % 16)]
def quoteB (l : Bs) : Bs := l.flatMap quote1
def quoteL (l : Bs) : Bs := 34 :: (quoteB l ++ [34])
end Wo
end Go.Proofs.YthbdnbeiafpkcaaDoor
