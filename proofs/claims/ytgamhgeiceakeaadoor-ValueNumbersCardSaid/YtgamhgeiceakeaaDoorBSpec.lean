/- Numbers, sums and packets as plain functions on lists of bytes: what package bytes and the packets of package frame come to. No program stands here. -/
set_option linter.unusedVariables false
namespace Go.Proofs.YtgamhgeiceakeaaDoor
namespace By
abbrev Bs := List UInt8
def uvF : Nat → Nat → Bs
  | 0, n => [UInt8.ofNat n]
  | f + 1, n => if n < 128 then [UInt8.ofNat n] else UInt8.ofNat (n % 128 + 128) :: uvF f (n / 128)
/-- a number's bytes -/
def uv (n : Nat) : Bs := uvF 9 n
theorem uvF_enough : ∀ (f g n : Nat), n < 128 ^ (f + 1) → n < 128 ^ (g + 1) → uvF f n = uvF g n
  | 0, 0, n, _, _ => rfl
  | 0, g + 1, n, h, _ => by
    unfold uvF; rw [if_pos (by simpa using h)]
  | f + 1, 0, n, _, h => by
    conv => rhs; unfold uvF
    unfold uvF; rw [if_pos (by simpa using h)]
  | f + 1, g + 1, n, h, h' => by
    unfold uvF
    by_cases hn : n < 128
    · rw [if_pos hn, if_pos hn]
    · rw [if_neg hn, if_neg hn, uvF_enough f g (n / 128) (Nat.div_lt_of_lt_mul (by rw [Nat.pow_succ, Nat.mul_comm] at h; exact h)) (Nat.div_lt_of_lt_mul (by rw [Nat.pow_succ, Nat.mul_comm] at h'; exact h'))]
theorem uv_small (n : Nat) (h : n < 128) : uv n = [UInt8.ofNat n] := by
  unfold uv uvF; rw [if_pos h]
theorem p64 : (18446744073709551616 : Nat) ≤ 128 ^ 10 := by decide
theorem p57 : (18446744073709551616 : Nat) ≤ 128 ^ 9 * 128 := by decide
theorem uv_big (n : Nat) (h : 128 ≤ n) (h64 : n < 18446744073709551616) : uv n = UInt8.ofNat (n % 128 + 128) :: uv (n / 128) := by
  unfold uv
  conv => lhs; unfold uvF
  rw [if_neg (by omega), uvF_enough 8 9 (n / 128) (Nat.div_lt_of_lt_mul (by have := p57; rw [Nat.mul_comm]; omega)) (by have := p64; have h1 : n / 128 ≤ n := Nat.div_le_self _ _; exact Nat.lt_of_le_of_lt h1 (Nat.lt_of_lt_of_le h64 this))]
theorem uvF_len : ∀ f n, (uvF f n).length ≤ f + 1 ∧ 1 ≤ (uvF f n).length
  | 0, n => ⟨Nat.le_refl _, Nat.le_refl _⟩
  | f + 1, n => by
    have := uvF_len f (n / 128)
    unfold uvF; split
    · simp
    · simp only [List.length_cons]; omega
theorem uv_len (n : Nat) : (uv n).length ≤ 10 ∧ 1 ≤ (uv n).length := uvF_len 9 n
/-- a number at a list's begin: it, how many bytes say it, the error -/
def guF : Nat → Nat → Bs → Nat × Nat × Nat
  | _, _, [] => (0, 0, 11)
  | i, acc, x :: r => if (i = 9 ∧ 1 < x.toNat) ∨ (x.toNat = 0 ∧ 0 < i) then (0, 0, 10) else
    if x.toNat < 128 then (acc + x.toNat % 128 * 128 ^ i, i + 1, 0) else if i = 9 then (0, 0, 10) else guF (i + 1) (acc + x.toNat % 128 * 128 ^ i) r
def gu (l : Bs) : Nat × Nat × Nat := guF 0 0 l
theorem pow9 : (128 : Nat) ^ 9 = 9223372036854775808 := by decide
theorem guF_uvF (r : Bs) : ∀ (f i acc n : Nat), n < 128 ^ (f + 1) → i + f = 9 → n * 128 ^ i < 18446744073709551616 → (0 < i → 0 < n) → guF i acc (uvF f n ++ r) = (acc + n * 128 ^ i, i + (uvF f n).length, 0)
  | 0, i, acc, n, h, hi, h1, h0 => by
    obtain rfl : i = 9 := by omega
    have hn : n ≤ 1 := by rw [pow9] at h1; omega
    have e : (UInt8.ofNat n).toNat = n := by simp; omega
    show guF 9 acc (UInt8.ofNat n :: ([] ++ r)) = _
    unfold guF
    rw [e, if_neg (by omega), if_pos (by omega), Nat.mod_eq_of_lt (by omega)]; rfl
  | f + 1, i, acc, n, h, hi, h1, h0 => by
    by_cases hn : n < 128
    · have e : (UInt8.ofNat n).toNat = n := by simp; omega
      have ee : uvF (f + 1) n = [UInt8.ofNat n] := by unfold uvF; rw [if_pos hn]
      rw [ee]
      show guF i acc (UInt8.ofNat n :: ([] ++ r)) = _
      unfold guF
      rw [e, if_neg (by omega), if_pos hn, Nat.mod_eq_of_lt hn]; rfl
    · have ee : uvF (f + 1) n = UInt8.ofNat (n % 128 + 128) :: uvF f (n / 128) := if_neg hn
      have e : (UInt8.ofNat (n % 128 + 128)).toNat = n % 128 + 128 := by simp; omega
      rw [ee, List.cons_append]
      unfold guF
      rw [e, if_neg (by omega), if_neg (by omega), if_neg (by omega)]
      have hlt : n / 128 < 128 ^ (f + 1) := Nat.div_lt_of_lt_mul (by rw [Nat.pow_succ, Nat.mul_comm] at h; exact h)
      have hdm := Nat.div_add_mod n 128
      have e3 : n / 128 * (128 ^ i * 128) = 128 * (n / 128) * 128 ^ i := by rw [Nat.mul_comm (128 ^ i) 128, ← Nat.mul_assoc, Nat.mul_comm (n / 128) 128]
      have e4 : n * 128 ^ i = 128 * (n / 128) * 128 ^ i + n % 128 * 128 ^ i := by rw [← Nat.add_mul, hdm]
      rw [guF_uvF r f (i + 1) _ (n / 128) hlt (by omega) (by rw [Nat.pow_succ, e3]; omega) (fun _ => by omega)]
      simp only [List.length_cons]
      have e2 : (n % 128 + 128) % 128 = n % 128 := by omega
      rw [e2, Nat.pow_succ, e3, e4]
      congr 1
      · omega
      · congr 1; omega
/-- what a number was put as is got -/
theorem gu_uv (n : Nat) (h : n < 18446744073709551616) (r : Bs) : gu (uv n ++ r) = (n, (uv n).length, 0) := by
  have := guF_uvF r 9 0 0 n (Nat.lt_of_lt_of_le h p64) rfl (by simpa using h) (fun h => absurd h (Nat.lt_irrefl 0))
  unfold gu uv
  rw [this]; simp
theorem guF_len : ∀ (l : Bs) (i acc : Nat), (guF i acc l).2.2 = 0 → (guF i acc l).2.1 ≤ i + l.length ∧ i < (guF i acc l).2.1
  | [], i, acc, h => by cases h
  | x :: r, i, acc, h => by
    unfold guF at h ⊢
    split at h
    · cases h
    · rename_i h1
      rw [if_neg h1]
      split at h
      · rename_i h2; rw [if_pos h2]; simp
      · rename_i h2
        rw [if_neg h2]
        split at h
        · cases h
        · rename_i h3
          rw [if_neg h3]
          have := guF_len r (i + 1) _ h
          simp only [List.length_cons]; omega
theorem gu_len (l : Bs) (h : (gu l).2.2 = 0) : (gu l).2.1 ≤ l.length ∧ 0 < (gu l).2.1 := by
  have := guF_len l 0 0 h; unfold gu; omega
/-- the sum -/
def crc1 (c : Nat) : Nat := c / 2 ^^^ (if c % 2 = 1 then 3988292384 else 0)
def crc8 (c : Nat) : Nat := crc1 (crc1 (crc1 (crc1 (crc1 (crc1 (crc1 (crc1 c)))))))
def crcB (c : Nat) (x : UInt8) : Nat := crc8 (c ^^^ x.toNat)
def crcF (c : Nat) (l : Bs) : Nat := l.foldl crcB c
def crc (l : Bs) : Nat := 4294967295 - crcF 4294967295 l
theorem crc1_lt (c : Nat) (h : c < 4294967296) : crc1 c < 4294967296 := by
  unfold crc1
  refine Nat.xor_lt_two_pow (n := 32) (by omega) ?_
  split <;> omega
theorem crc8_lt (c : Nat) (h : c < 4294967296) : crc8 c < 4294967296 := by
  unfold crc8
  exact crc1_lt _ (crc1_lt _ (crc1_lt _ (crc1_lt _ (crc1_lt _ (crc1_lt _ (crc1_lt _ (crc1_lt _ h)))))))
theorem crcB_lt (c : Nat) (x : UInt8) (h : c < 4294967296) : crcB c x < 4294967296 :=
  crc8_lt _ (Nat.xor_lt_two_pow (n := 32) h (by have := x.toNat_lt; omega))
theorem crcF_lt : ∀ (l : Bs) (c : Nat), c < 4294967296 → crcF c l < 4294967296
  | [], c, h => h
  | x :: l, c, h => crcF_lt l _ (crcB_lt c x h)
theorem crc_lt (l : Bs) : crc l < 4294967296 := by unfold crc; omega
theorem crcF_snoc (l : Bs) (c : Nat) (x : UInt8) : crcF c (l ++ [x]) = crcB (crcF c l) x := by unfold crcF; rw [List.foldl_append]; rfl
/-- four bytes, the highest first -/
def be4 (n : Nat) : Bs := [UInt8.ofNat (n / 16777216), UInt8.ofNat (n / 65536), UInt8.ofNat (n / 256), UInt8.ofNat n]
def num4 (l : Bs) : Nat := l.foldl (fun n x => n * 256 + x.toNat) 0
theorem num4_be4 (n : Nat) (h : n < 4294967296) : num4 (be4 n) = n := by
  unfold num4 be4
  simp only [List.foldl_cons, List.foldl_nil, UInt8.toNat_ofNat']
  omega
def shut (l : Bs) : Bs := l ++ be4 (crc l)
/-- without the sum; the error -/
def opn (l : Bs) : Bs × Nat :=
  if l.length < 4 then ([], 11) else if num4 (l.drop (l.length - 4)) = crc (l.take (l.length - 4)) then (l.take (l.length - 4), 0) else ([], 12)
theorem shut_len (l : Bs) : (shut l).length = l.length + 4 := by unfold shut; rw [List.length_append]; rfl
theorem open_shut (l : Bs) : opn (shut l) = (l, 0) := by
  unfold opn
  rw [shut_len, if_neg (by omega), Nat.add_sub_cancel]
  have h1 : (shut l).drop l.length = be4 (crc l) := by unfold shut; rw [List.drop_left]
  have h2 : (shut l).take l.length = l := by unfold shut; rw [List.take_left]
  rw [h1, h2, num4_be4 _ (crc_lt l), if_pos rfl]
/-- a packet -/
structure Pk where
  fr : Nat
  life : Nat
  seq : Nat
  ack : Nat
  data : Bs
def top : Nat := 4611686018427387904
def Pk.right (p : Pk) : Prop := p.fr ≤ top ∧ p.life ≤ top ∧ p.seq ≤ top ∧ p.ack ≤ top ∧ p.data.length ≤ 1048576 ∧ (0 < p.seq ∨ p.data = [])
def blob (l : Bs) : Bs := uv l.length ++ l
def pk (p : Pk) : Bs := uv p.fr ++ (uv p.life ++ (uv p.seq ++ (uv p.ack ++ blob p.data)))
def pack (p : Pk) : Bs := shut (pk p)
/-- numbers, one behind the other, each at most 'top': them, what is left, the error -/
def nums : Nat → Bs → List Nat × Bs × Nat
  | 0, l => ([], l, 0)
  | k + 1, l => if (gu l).2.2 ≠ 0 then ([], [], (gu l).2.2) else if top < (gu l).1 then ([], [], 14) else
    ((gu l).1 :: (nums k (l.drop (gu l).2.1)).1, (nums k (l.drop (gu l).2.1)).2.1, (nums k (l.drop (gu l).2.1)).2.2)
/-- some bytes: them, how many say it, the error -/
def getBlob (most : Nat) (l : Bs) : Bs × Nat × Nat :=
  if (gu l).2.2 ≠ 0 then ([], 0, (gu l).2.2) else if most < (gu l).1 then ([], 0, 3) else if l.length - (gu l).2.1 < (gu l).1 then ([], 0, 11) else
    ((l.drop (gu l).2.1).take (gu l).1, (gu l).2.1 + (gu l).1, 0)
theorem getBlob_blob (most : Nat) (l r : Bs) (h : l.length ≤ most) (h64 : l.length < 18446744073709551616) : getBlob most (blob l ++ r) = (l, (blob l).length, 0) := by
  unfold getBlob blob
  rw [List.append_assoc, gu_uv _ h64]
  simp only
  rw [if_neg (by simp), if_neg (by omega), if_neg (by rw [List.length_append, List.length_append]; omega), List.drop_left, List.take_left, List.length_append]
def zeroPk : Pk := ⟨0, 0, 0, 0, []⟩
def unpack (b : Bs) : Pk × Nat :=
  if 1048640 < b.length then (zeroPk, 3) else if (opn b).2 ≠ 0 then (zeroPk, (opn b).2) else
  let r := nums 4 (opn b).1
  if r.2.2 ≠ 0 then (zeroPk, r.2.2) else
  let d := getBlob 1048576 r.2.1
  if d.2.2 ≠ 0 then (zeroPk, d.2.2) else
  if r.1.getD 2 0 = 0 ∧ d.1 ≠ [] then (zeroPk, 14) else
  if d.2.1 < r.2.1.length then (zeroPk, 10) else (⟨r.1.getD 0 0, r.1.getD 1 0, r.1.getD 2 0, r.1.getD 3 0, d.1⟩, 0)
theorem nums_cons (k n : Nat) (r : Bs) (h : n ≤ top) : nums (k + 1) (uv n ++ r) = (n :: (nums k r).1, (nums k r).2.1, (nums k r).2.2) := by
  have h64 : n < 18446744073709551616 := by unfold top at h; omega
  conv => lhs; unfold nums
  rw [gu_uv n h64]
  simp only
  rw [if_neg (by simp), if_neg (by omega), List.drop_left]
theorem pk_len (p : Pk) : (pk p).length ≤ p.data.length + 50 := by
  have h1 := uv_len p.fr
  have h2 := uv_len p.life
  have h3 := uv_len p.seq
  have h4 := uv_len p.ack
  have h5 := uv_len p.data.length
  unfold pk blob
  simp only [List.length_append]
  omega
/-- a right packet comes back -/
theorem unpack_pack (p : Pk) (h : p.right) : unpack (pack p) = (p, 0) := by
  obtain ⟨h1, h2, h3, h4, h5, h6⟩ := h
  have hl := pk_len p
  have hn : nums 4 (pk p) = ([p.fr, p.life, p.seq, p.ack], blob p.data, 0) := by
    unfold pk
    rw [nums_cons 3 _ _ h1, nums_cons 2 _ _ h2, nums_cons 1 _ _ h3, nums_cons 0 _ _ h4]; rfl
  have hb := getBlob_blob 1048576 p.data [] h5 (by omega)
  rw [List.append_nil] at hb
  unfold unpack pack
  rw [shut_len, if_neg (by omega), open_shut]
  simp only
  rw [if_neg (by simp), hn]
  simp only
  rw [if_neg (by simp), hb]
  simp only
  rw [if_neg (by simp), if_neg (by
    intro ⟨q1, q2⟩
    rcases h6 with h | h
    · have : p.seq = 0 := q1
      omega
    · exact q2 h), if_neg (Nat.lt_irrefl _)]
  rfl
end By
end Go.Proofs.YtgamhgeiceakeaaDoor
