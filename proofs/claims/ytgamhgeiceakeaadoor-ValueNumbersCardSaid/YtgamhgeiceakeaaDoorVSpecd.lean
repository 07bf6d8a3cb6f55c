/- Values as plain data: small ones, ones that are alike. No program stands here. -/
import Derived.Test.YtgamhgeiceakeaaDoorVSpecc
set_option linter.unusedVariables false
set_option linter.unusedSimpArgs false
namespace Go.Proofs.YtgamhgeiceakeaaDoor
namespace Va
open By (Bs)
mutual
def smallV : V → Int → Int → Bool
  | .mk k n s l, lv, many => decide (1 ≤ lv) && decide ((l.length : Int) ≤ many) && decide (s.size ≤ 5000) && smallL l (lv - 1) many
termination_by structural v => v
def smallL : List V → Int → Int → Bool
  | [], _, _ => true
  | v :: l, lv, many => smallV v lv many && smallL l lv many
termination_by structural l => l
end
theorem smallL_iff (l : List V) (lv many : Int) : smallL l lv many = true ↔ ∀ v ∈ l, smallV v lv many = true := by
  induction l with
  | nil => unfold smallL; simp
  | cons v l ih => unfold smallL; rw [Bool.and_eq_true, ih]; simp
/-- a list that is small as far as it has been looked at -/
theorem smallL_at (l : List V) (lv many : Int) (i : Nat) (h : i < l.length) (hs : smallV l[i] lv many = false) : smallL l lv many = false := by
  cases hc : smallL l lv many with
  | false => rfl
  | true => exact absurd ((smallL_iff l lv many).1 hc _ (List.getElem_mem h)) (by rw [hs]; decide)
theorem smallL_all (l : List V) (lv many : Int) (h : ∀ i (h : i < l.length), smallV l[i] lv many = true) : smallL l lv many = true :=
  (smallL_iff l lv many).2 fun v hv => by obtain ⟨i, hi, rfl⟩ := List.getElem_of_mem hv; exact h i hi
mutual
def alkV : V → V → Bool
  | .mk k n s l, u => match u with
    | .mk k' n' s' l' => (k == k') && (n == n') && (s.data.toList == s'.data.toList) && (l.length == l'.length) && alkL l l'
termination_by structural v => v
def alkL : List V → List V → Bool
  | [], _ => true
  | v :: l, r => match r with
    | [] => false
    | u :: r => alkV v u && alkL l r
termination_by structural l => l
end
theorem alkL_at (l r : List V) (hlen : l.length = r.length) (i : Nat) (h : i < l.length) (hs : alkV l[i] (r[i]'(hlen ▸ h)) = false) : alkL l r = false := by
  induction l generalizing r i with
  | nil => simp at h
  | cons v l ih =>
    match r, hlen with
    | u :: r, hlen =>
      show (alkV v u && alkL l r) = false
      match i, h with
      | 0, _ => rw [show alkV v u = false from hs]; rfl
      | i + 1, h => rw [ih r (by simpa using hlen) i (by simpa using h) hs, Bool.and_false]
theorem alkL_all (l r : List V) (hlen : l.length = r.length) (h : ∀ i (h : i < l.length), alkV l[i] (r[i]'(hlen ▸ h)) = true) : alkL l r = true := by
  induction l generalizing r with
  | nil => rfl
  | cons v l ih =>
    match r, hlen with
    | u :: r, hlen =>
      show (alkV v u && alkL l r) = true
      rw [show alkV v u = true from h 0 (by simp), ih r (by simpa using hlen) (fun i hi => h (i + 1) (by simpa using hi))]; rfl
theorem ba_ext {s t : ByteArray} (h : s.data.toList = t.data.toList) : s = t := by
  obtain ⟨⟨l⟩⟩ := s; obtain ⟨⟨r⟩⟩ := t
  simp only at h
  subst h; rfl
theorem alk_eq : ∀ v u : V, alkV v u = true ↔ v = u := V.ind fun k n s l ih => by
  intro u
  obtain ⟨k', n', s', l'⟩ := u
  have hL : ∀ (l r : List V), (∀ v ∈ l, ∀ u, alkV v u = true ↔ v = u) → l.length = r.length → (alkL l r = true ↔ l = r) := by
    intro l
    induction l with
    | nil => intro r _ h; cases r with | nil => simp [alkL] | cons _ _ => simp at h
    | cons v l ih2 =>
      intro r hP h
      match r, h with
      | u :: r, h =>
        show (alkV v u && alkL l r) = true ↔ _
        rw [Bool.and_eq_true, hP v (List.mem_cons_self ..), ih2 r (fun x hx => hP x (List.mem_cons_of_mem _ hx)) (by simpa using h)]
        simp
  show ((k == k') && (n == n') && (s.data.toList == s'.data.toList) && (l.length == l'.length) && alkL l l') = true ↔ _
  constructor
  · intro h
    simp only [Bool.and_eq_true, beq_iff_eq] at h
    obtain ⟨⟨⟨⟨h1, h2⟩, h3⟩, h4⟩, h5⟩ := h
    rw [h1, h2, ba_ext h3, (hL l l' ih h4).1 h5]
  · intro h
    cases h
    simp [(hL l l ih rfl).2 rfl]
theorem alk_refl (v : V) : alkV v v = true := (alk_eq v v).2 rfl
end Va
end Go.Proofs.YtgamhgeiceakeaaDoor
