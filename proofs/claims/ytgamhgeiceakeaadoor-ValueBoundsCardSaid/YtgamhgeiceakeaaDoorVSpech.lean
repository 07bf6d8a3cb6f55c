/- Values as plain data: two right values that are shown alike are the same. No program stands here. -/
import Derived.Test.YtgamhgeiceakeaaDoorVSpecf
import Derived.Test.YtgamhgeiceakeaaDoorVSpece
set_option linter.unusedVariables false
set_option linter.unusedSimpArgs false
namespace Go.Proofs.YtgamhgeiceakeaaDoor
namespace Va
open By (Bs)
/-- what may stand behind a value's text -/
def Stop (r : Bs) : Prop := r = [] ∨ ∃ t, r = 41 :: t ∨ r = 44 :: t
def isDig (c : UInt8) : Prop := 48 ≤ c.toNat ∧ c.toNat ≤ 57
theorem dec_digs : ∀ (u : Nat), ∀ c ∈ Lib.decDigits u, isDig c := fun u => by
  induction u using Nat.strongRecOn with
  | _ u ih =>
    intro c hc
    unfold Lib.decDigits at hc
    split at hc
    · simp only [List.mem_singleton] at hc
      subst hc
      unfold isDig; rw [UInt8.toNat_ofNat']; omega
    · rcases List.mem_append.1 hc with hc | hc
      · exact ih (u / 10) (by omega) c hc
      · simp only [List.mem_singleton] at hc
        subst hc
        unfold isDig; rw [UInt8.toNat_ofNat']; omega
theorem dec_nil (u : Nat) : Lib.decDigits u ≠ [] := by
  unfold Lib.decDigits; split <;> simp
def valD (l : Bs) : Nat := l.foldl (fun a c => a * 10 + (c.toNat - 48)) 0
theorem valD_app (l : Bs) (c : UInt8) : valD (l ++ [c]) = valD l * 10 + (c.toNat - 48) := by unfold valD; rw [List.foldl_append]; rfl
theorem valD_dec : ∀ (u : Nat), valD (Lib.decDigits u) = u := fun u => by
  induction u using Nat.strongRecOn with
  | _ u ih =>
    unfold Lib.decDigits
    split
    · show 0 * 10 + ((UInt8.ofNat (48 + u)).toNat - 48) = u
      rw [UInt8.toNat_ofNat']; omega
    · rw [valD_app, ih (u / 10) (by omega), UInt8.toNat_ofNat']; omega
theorem stop_nd {r : Bs} (h : Stop r) : ∀ c t, r = c :: t → ¬ isDig c := by
  intro c t e
  unfold isDig
  rcases h with rfl | ⟨t', rfl | rfl⟩
  · cases e
  · cases e; decide
  · cases e; decide
theorem digs_split : ∀ (a b r r' : Bs), (∀ c ∈ a, isDig c) → (∀ c ∈ b, isDig c) → Stop r → Stop r' → a ++ r = b ++ r' → a = b ∧ r = r'
  | [], [], r, r', _, _, _, _, h => ⟨rfl, h⟩
  | [], c :: b, r, r', _, hb, hr, _, h => absurd (hb c (List.mem_cons_self ..)) (stop_nd hr c (b ++ r') h)
  | c :: a, [], r, r', ha, _, _, hr', h => absurd (ha c (List.mem_cons_self ..)) (stop_nd hr' c (a ++ r) h.symm)
  | c :: a, d :: b, r, r', ha, hb, hr, hr', h => by
    rw [List.cons_append, List.cons_append] at h
    injection h with h1 h2
    obtain ⟨e1, e2⟩ := digs_split a b r r' (fun x hx => ha x (List.mem_cons_of_mem _ hx)) (fun x hx => hb x (List.mem_cons_of_mem _ hx)) hr hr' h2
    exact ⟨by rw [h1, e1], e2⟩
theorem dec_inj {u v : Nat} (h : Lib.decDigits u = Lib.decDigits v) : u = v := by
  rw [← valD_dec u, ← valD_dec v, h]
theorem itoa_split (n m : Int) (r r' : Bs) (hr : Stop r) (hr' : Stop r') (h : Lib.itoa n ++ r = Lib.itoa m ++ r') : n = m ∧ r = r' := by
  unfold Lib.itoa at h
  by_cases h1 : n < 0 <;> by_cases h2 : m < 0
  · rw [if_pos h1, if_pos h2, List.cons_append, List.cons_append] at h
    injection h with _ h
    obtain ⟨e1, e2⟩ := digs_split _ _ r r' (dec_digs _) (dec_digs _) hr hr' h
    have := dec_inj e1
    exact ⟨by omega, e2⟩
  · rw [if_pos h1, if_neg h2, List.cons_append] at h
    exfalso
    obtain ⟨c, t, e⟩ := List.exists_cons_of_ne_nil (dec_nil m.toNat)
    rw [e, List.cons_append] at h
    injection h with h _
    have := dec_digs m.toNat c (by rw [e]; exact List.mem_cons_self ..)
    rw [← h] at this; unfold isDig at this; exact absurd this (by decide)
  · rw [if_neg h1, if_pos h2, List.cons_append] at h
    exfalso
    obtain ⟨c, t, e⟩ := List.exists_cons_of_ne_nil (dec_nil n.toNat)
    rw [e, List.cons_append] at h
    injection h with h _
    have := dec_digs n.toNat c (by rw [e]; exact List.mem_cons_self ..)
    rw [h] at this; unfold isDig at this; exact absurd this (by decide)
  · rw [if_neg h1, if_neg h2] at h
    obtain ⟨e1, e2⟩ := digs_split _ _ r r' (dec_digs _) (dec_digs _) hr hr' h
    have := dec_inj e1
    exact ⟨by omega, e2⟩
theorem hexd_inj {a b : Nat} (ha : a < 16) (hb : b < 16) (h : hexd a = hexd b) : a = b := by
  have : ∀ a b : Fin 16, hexd a.val = hexd b.val → a = b := by decide
  exact congrArg Fin.val (this ⟨a, ha⟩ ⟨b, hb⟩ h)
theorem qtB_split : ∀ (s t r r' : Bs), qtB s ++ 34 :: r = qtB t ++ 34 :: r' → s = t ∧ r = r'
  | [], [], r, r', h => by injection h with _ h; exact ⟨rfl, h⟩
  | [], c :: t, r, r', h => by
    exfalso
    have e : qtB (c :: t) = qt1 c ++ qtB t := rfl
    rw [e] at h
    unfold qt1 at h
    by_cases hc : isPl c
    · rw [if_pos hc] at h
      injection h with h _
      unfold isPl at hc; rw [← h] at hc; exact absurd hc (by decide)
    · rw [if_neg hc] at h
      injection h with h _
      exact absurd h (by decide)
  | c :: t, [], r, r', h => by
    exfalso
    have e : qtB (c :: t) = qt1 c ++ qtB t := rfl
    rw [e] at h
    unfold qt1 at h
    by_cases hc : isPl c
    · rw [if_pos hc] at h
      injection h with h _
      unfold isPl at hc; rw [h] at hc; exact absurd hc (by decide)
    · rw [if_neg hc] at h
      injection h with h _
      exact absurd h (by decide)
  | c :: s, d :: t, r, r', h => by
    have e1 : qtB (c :: s) = qt1 c ++ qtB s := rfl
    have e2 : qtB (d :: t) = qt1 d ++ qtB t := rfl
    rw [e1, e2, List.append_assoc, List.append_assoc] at h
    unfold qt1 at h
    by_cases hc : isPl c <;> by_cases hd : isPl d
    · rw [if_pos hc, if_pos hd] at h
      injection h with h1 h2
      obtain ⟨k1, k2⟩ := qtB_split s t r r' h2
      exact ⟨by rw [h1, k1], k2⟩
    · rw [if_pos hc, if_neg hd] at h
      injection h with h1 h2
      unfold isPl at hc; rw [h1] at hc; exact absurd hc (by decide)
    · rw [if_neg hc, if_pos hd] at h
      injection h with h1 h2
      unfold isPl at hd; rw [← h1] at hd; exact absurd hd (by decide)
    · rw [if_neg hc, if_neg hd] at h
      simp only [List.cons_append, List.nil_append] at h
      injection h with _ h
      injection h with h1 h
      injection h with h2 h
      obtain ⟨k1, k2⟩ := qtB_split s t r r' h
      have n1 := hexd_inj (by have := c.toNat_lt; omega) (by have := d.toNat_lt; omega) h1
      have n2 := hexd_inj (by omega) (by omega) h2
      have : c.toNat = d.toNat := by omega
      exact ⟨by rw [UInt8.toNat_inj.1 this, k1], k2⟩
/-- what a text begins with tells its kind -/
def cls (c : UInt8) : Nat := if c = 34 then 3 else if c = 64 then 5 else if c = 40 then 4 else if c = 116 ∨ c = 102 then 2 else 1
theorem itoa_head (n : Int) : ∃ c t, Lib.itoa n = c :: t ∧ cls c = 1 ∧ c ≠ 41 ∧ c ≠ 44 := by
  have key : ∀ c : UInt8, isDig c → cls c = 1 ∧ c ≠ 41 ∧ c ≠ 44 := by
    intro c hc
    unfold isDig at hc
    have hne : ∀ d : UInt8, ¬ isDig d → c ≠ d := fun d hd e => hd (e ▸ hc)
    unfold cls
    rw [if_neg (hne 34 (by unfold isDig; decide)), if_neg (hne 64 (by unfold isDig; decide)), if_neg (hne 40 (by unfold isDig; decide)), if_neg (by rintro (h | h); exact hne 116 (by unfold isDig; decide) h; exact hne 102 (by unfold isDig; decide) h)]
    exact ⟨rfl, hne 41 (by unfold isDig; decide), hne 44 (by unfold isDig; decide)⟩
  unfold Lib.itoa
  split
  · exact ⟨45, _, rfl, by decide, by decide, by decide⟩
  · obtain ⟨c, t, e⟩ := List.exists_cons_of_ne_nil (dec_nil n.toNat)
    exact ⟨c, t, e, key c (dec_digs n.toNat c (by rw [e]; exact List.mem_cons_self ..))⟩
theorem txt_head (k : Nat) (n : Int) (s : ByteArray) (l : List V) (lv : Nat) (h : okV (.mk k n s l) lv = true) : ∃ c t, txt (.mk k n s l) = c :: t ∧ cls c = k ∧ c ≠ 41 ∧ c ≠ 44 := by
  have e : txt (.mk k n s l) = if k = 2 then bt (n == 1) else if k = 3 then qt s.data.toList else if k = 5 then 64 :: Lib.itoa n else if k = 4 then tup (txtL l) else Lib.itoa n := rfl
  rw [e]
  unfold okV at h
  rw [Bool.and_eq_true] at h
  by_cases h2 : k = 2
  · subst h2
    rw [if_pos rfl]; unfold bt
    split
    · exact ⟨_, _, rfl, by decide, by decide, by decide⟩
    · exact ⟨_, _, rfl, by decide, by decide, by decide⟩
  rw [if_neg h2]
  by_cases h3 : k = 3
  · subst h3; rw [if_pos rfl]; exact ⟨34, _, rfl, by decide, by decide, by decide⟩
  rw [if_neg h3]
  by_cases h5 : k = 5
  · subst h5; rw [if_pos rfl]; exact ⟨64, _, rfl, by decide, by decide, by decide⟩
  rw [if_neg h5]
  by_cases h4 : k = 4
  · subst h4
    rw [if_pos rfl]; unfold tup
    split
    · exact ⟨40, _, rfl, by decide, by decide, by decide⟩
    · exact ⟨40, _, rfl, by decide, by decide, by decide⟩
  rw [if_neg h4]
  by_cases h1 : k = 1
  · subst h1; exact itoa_head n
  · exfalso
    have := h.2
    rw [if_neg h1, if_neg h2, if_neg h5, if_neg h3, if_neg h4] at this
    cases this
def TxtP (v : V) : Prop := ∀ (u : V) (lv lv' : Nat) (r r' : Bs), okV v lv = true → okV u lv' = true → Stop r → Stop r' → txt v ++ r = txt u ++ r' → v = u ∧ r = r'
def jt (l : List V) : Bs := Lib.joinTail [44, 32] (txtL l)
theorem jt_cons (v : V) (l : List V) : jt (v :: l) = 44 :: 32 :: (txt v ++ jt l) := by
  unfold jt Lib.joinTail
  show (([44, 32] : Bs) ++ txt v) ++ _ = _
  simp
theorem jt_stop (l : List V) (r : Bs) : Stop (jt l ++ 41 :: r) := by
  cases l with
  | nil => exact Or.inr ⟨r, Or.inl rfl⟩
  | cons v l => rw [jt_cons]; exact Or.inr ⟨_, Or.inr rfl⟩
theorem jt_split : ∀ (l m : List V), (∀ v ∈ l, TxtP v) → ∀ (lv lv' : Nat) (r r' : Bs), okL l lv = true → okL m lv' = true → jt l ++ 41 :: r = jt m ++ 41 :: r' → l = m ∧ r = r'
  | [], [], _, _, _, r, r', _, _, h => by injection h with _ h; exact ⟨rfl, h⟩
  | [], u :: m, _, _, _, r, r', _, _, h => by
    rw [jt_cons] at h; injection h with h _; exact absurd h (by decide)
  | v :: l, [], _, _, _, r, r', _, _, h => by
    rw [jt_cons] at h; injection h with h _; exact absurd h (by decide)
  | v :: l, u :: m, hP, lv, lv', r, r', h1, h2, h => by
    unfold okL at h1 h2
    rw [Bool.and_eq_true] at h1 h2
    rw [jt_cons, jt_cons] at h
    simp only [List.cons_append, List.append_assoc] at h
    injection h with _ h
    injection h with _ h
    obtain ⟨e1, e2⟩ := hP v (List.mem_cons_self ..) u lv lv' _ _ h1.1 h2.1 (jt_stop l r) (jt_stop m r') h
    obtain ⟨e3, e4⟩ := jt_split l m (fun x hx => hP x (List.mem_cons_of_mem _ hx)) lv lv' r r' h1.2 h2.2 e2
    exact ⟨by rw [e1, e3], e4⟩
theorem tup_nil : tup (txtL []) = [40, 41] := rfl
theorem tup_one (v : V) : tup (txtL [v]) = 40 :: (txt v ++ [44, 41]) := by
  show 40 :: (([txt v] : List Bs).flatten ++ [44, 41]) = _
  simp
theorem tup_more (v u : V) (l : List V) : tup (txtL (v :: u :: l)) = 40 :: (txt v ++ (jt (u :: l) ++ [41])) := by
  unfold tup
  have e : txtL (v :: u :: l) = txt v :: txtL (u :: l) := rfl
  rw [e, if_neg (by show ¬ ((txtL (u :: l)).length + 1 = 1); rw [show txtL (u :: l) = txt u :: txtL l from rfl]; simp), Lib.join_cons, List.append_assoc]; rfl
theorem tup_split (l m : List V) (hP : ∀ v ∈ l, TxtP v) (lv lv' : Nat) (r r' : Bs) (h1 : okL l lv = true) (h2 : okL m lv' = true) (h : tup (txtL l) ++ r = tup (txtL m) ++ r') : l = m ∧ r = r' := by
  have hd : ∀ (v : V) (m : List V), okL (v :: m) lv' = true ∨ okL (v :: m) lv = true → ∃ c t, txt v = c :: t ∧ c ≠ 41 := by
    rintro ⟨k, n, s, q⟩ m ho
    have : ∃ lv, okV (.mk k n s q) lv = true := by
      rcases ho with ho | ho <;> (unfold okL at ho; rw [Bool.and_eq_true] at ho; exact ⟨_, ho.1⟩)
    obtain ⟨lv, ho⟩ := this
    obtain ⟨c, t, e, _, e2, _⟩ := txt_head k n s q lv ho
    exact ⟨c, t, e, e2⟩
  match l, m, hP, h1, h2, h with
  | [], [], _, _, _, h => rw [tup_nil] at h; injection h with _ h; injection h with _ h; exact ⟨rfl, h⟩
  | [], [u], _, _, h2, h =>
    exfalso
    obtain ⟨c, t, e, ne⟩ := hd u [] (Or.inl h2)
    rw [tup_nil, tup_one, e] at h
    injection h with _ h; injection h with h _
    exact ne h.symm
  | [], u :: u2 :: m, _, _, h2, h =>
    exfalso
    obtain ⟨c, t, e, ne⟩ := hd u _ (Or.inl h2)
    rw [tup_nil, tup_more, e] at h
    injection h with _ h; injection h with h _
    exact ne h.symm
  | [v], [], _, h1, _, h =>
    exfalso
    obtain ⟨c, t, e, ne⟩ := hd v [] (Or.inr h1)
    rw [tup_nil, tup_one, e] at h
    injection h with _ h; injection h with h _
    exact ne h
  | v :: v2 :: l, [], _, h1, _, h =>
    exfalso
    obtain ⟨c, t, e, ne⟩ := hd v _ (Or.inr h1)
    rw [tup_nil, tup_more, e] at h
    injection h with _ h; injection h with h _
    exact ne h
  | [v], [u], hP, h1, h2, h =>
    unfold okL at h1 h2
    rw [Bool.and_eq_true] at h1 h2
    rw [tup_one, tup_one, List.cons_append, List.cons_append, List.append_assoc, List.append_assoc] at h
    injection h with _ h
    obtain ⟨e1, e2⟩ := hP v (List.mem_cons_self ..) u lv lv' _ _ h1.1 h2.1 (Or.inr ⟨_, Or.inr rfl⟩) (Or.inr ⟨_, Or.inr rfl⟩) h
    injection e2 with _ e2; injection e2 with _ e2
    exact ⟨by rw [e1], e2⟩
  | [v], u :: u2 :: m, hP, h1, h2, h =>
    exfalso
    unfold okL at h1 h2
    rw [Bool.and_eq_true] at h1 h2
    rw [tup_one, tup_more, List.cons_append, List.cons_append, List.append_assoc, List.append_assoc] at h
    injection h with _ h
    rw [List.append_assoc] at h
    obtain ⟨e1, e2⟩ := hP v (List.mem_cons_self ..) u lv lv' _ _ h1.1 h2.1 (Or.inr ⟨_, Or.inr rfl⟩) (jt_stop (u2 :: m) r') h
    rw [jt_cons] at e2
    injection e2 with _ e2; injection e2 with e2 _
    exact absurd e2 (by decide)
  | v :: v2 :: l, [u], hP, h1, h2, h =>
    exfalso
    unfold okL at h1 h2
    rw [Bool.and_eq_true] at h1 h2
    rw [tup_one, tup_more, List.cons_append, List.cons_append, List.append_assoc, List.append_assoc] at h
    injection h with _ h
    rw [List.append_assoc] at h
    obtain ⟨e1, e2⟩ := hP v (List.mem_cons_self ..) u lv lv' _ _ h1.1 h2.1 (jt_stop (v2 :: l) r) (Or.inr ⟨_, Or.inr rfl⟩) h
    rw [jt_cons] at e2
    injection e2 with _ e2; injection e2 with e2 _
    exact absurd e2 (by decide)
  | v :: v2 :: l, u :: u2 :: m, hP, h1, h2, h =>
    unfold okL at h1 h2
    rw [Bool.and_eq_true] at h1 h2
    rw [tup_more, tup_more, List.cons_append, List.cons_append, List.append_assoc, List.append_assoc, List.append_assoc, List.append_assoc] at h
    injection h with _ h
    obtain ⟨e1, e2⟩ := hP v (List.mem_cons_self ..) u lv lv' _ _ h1.1 h2.1 (jt_stop _ _) (jt_stop _ _) h
    obtain ⟨e3, e4⟩ := jt_split (v2 :: l) (u2 :: m) (fun x hx => hP x (List.mem_cons_of_mem _ hx)) lv lv' r r' h1.2 h2.2 e2
    exact ⟨by rw [e1, e3], e4⟩
theorem bt_split (a b : Bool) (r r' : Bs) (h : bt a ++ r = bt b ++ r') : a = b ∧ r = r' := by
  cases a <;> cases b
  · exact ⟨rfl, List.append_cancel_left h⟩
  · exfalso; injection h with h _; exact absurd h (by decide)
  · exfalso; injection h with h _; exact absurd h (by decide)
  · exact ⟨rfl, List.append_cancel_left h⟩
theorem txt_P : ∀ v, TxtP v := V.ind fun k n s l ih => by
  rintro ⟨k', n', s', l'⟩ lv lv' r r' h1 h2 hr hr' h
  obtain ⟨c, t, e1, c1, _⟩ := txt_head k n s l lv h1
  obtain ⟨c', t', e2, c2, _⟩ := txt_head k' n' s' l' lv' h2
  have hk : k = k' := by
    rw [e1, e2] at h
    injection h with h _
    rw [← c1, ← c2, h]
  subst hk
  clear e1 c1 e2 c2
  have e : ∀ n s l, txt (.mk k n s l) = if k = 2 then bt (n == 1) else if k = 3 then qt s.data.toList else if k = 5 then 64 :: Lib.itoa n else if k = 4 then tup (txtL l) else Lib.itoa n := fun n s l => rfl
  rw [e, e] at h
  unfold okV at h1 h2
  rw [Bool.and_eq_true] at h1 h2
  obtain ⟨_, h1⟩ := h1
  obtain ⟨_, h2⟩ := h2
  have hnil : ∀ (l : List V), l.isEmpty = true → l = [] := fun l h => List.isEmpty_iff.1 h
  have hem : ∀ (s : ByteArray), (s.size == 0) = true → s = em := fun s h => em_of (by simpa using h)
  by_cases g1 : k = 1
  · subst g1
    simp only [Nat.reduceEqDiff, if_true, if_false, Bool.and_eq_true] at h1 h2 h
    obtain ⟨k1, k2⟩ := itoa_split n n' r r' hr hr' h
    exact ⟨by rw [k1, hem s h1.1, hem s' h2.1, hnil l h1.2, hnil l' h2.2], k2⟩
  by_cases g2 : k = 2
  · subst g2
    simp only [Nat.reduceEqDiff, if_true, if_false, Bool.and_eq_true, Bool.or_eq_true, beq_iff_eq] at h1 h2 h
    obtain ⟨k1, k2⟩ := bt_split _ _ r r' h
    have hn : n = n' := by
      have : (n = 1) ↔ (n' = 1) := by rw [← beq_iff_eq (a := n), ← beq_iff_eq (a := n'), k1]
      rcases h1.2 with a | a <;> rcases h2.2 with b | b <;> omega
    exact ⟨by rw [hn, hem s (by simpa using h1.1.1), hem s' (by simpa using h2.1.1), hnil l h1.1.2, hnil l' h2.1.2], k2⟩
  by_cases g5 : k = 5
  · subst g5
    simp only [Nat.reduceEqDiff, if_true, if_false, Bool.and_eq_true] at h1 h2 h
    injection h with _ h
    obtain ⟨k1, k2⟩ := itoa_split n n' r r' hr hr' h
    exact ⟨by rw [k1, hem s h1.1.1, hem s' h2.1.1, hnil l h1.1.2, hnil l' h2.1.2], k2⟩
  by_cases g3 : k = 3
  · subst g3
    simp only [Nat.reduceEqDiff, if_true, if_false, Bool.and_eq_true, beq_iff_eq] at h1 h2 h
    have h3 : qtB s.data.toList ++ 34 :: r = qtB s'.data.toList ++ 34 :: r' := by
      have h4 := h
      simp only [qt, List.cons_append, List.append_assoc, List.nil_append, List.cons.injEq, true_and] at h4
      exact h4
    obtain ⟨k1, k2⟩ := qtB_split s.data.toList s'.data.toList r r' h3
    exact ⟨by rw [h1.1.1, h2.1.1, ba_ext k1, hnil l h1.1.2, hnil l' h2.1.2], k2⟩
  by_cases g4 : k = 4
  · subst g4
    simp only [Nat.reduceEqDiff, if_true, if_false, Bool.and_eq_true, beq_iff_eq] at h1 h2 h
    obtain ⟨k1, k2⟩ := tup_split l l' ih (lv - 1) (lv' - 1) r r' h1.2 h2.2 h
    exact ⟨by rw [h1.1.1, h2.1.1, em_of h1.1.2, em_of h2.1.2, k1], k2⟩
  · exfalso
    rw [if_neg g1, if_neg g2, if_neg g5, if_neg g3, if_neg g4] at h1
    cases h1
theorem txt_inj (a b : V) (ha : right a = true) (hb : right b = true) (h : txt a = txt b) : a = b := by
  unfold right at ha hb
  rw [Bool.and_eq_true] at ha hb
  exact (txt_P a b 16 16 [] [] ha.1 hb.1 (Or.inl rfl) (Or.inl rfl) (by rw [h])).1
end Va
end Go.Proofs.YtgamhgeiceakeaaDoor
