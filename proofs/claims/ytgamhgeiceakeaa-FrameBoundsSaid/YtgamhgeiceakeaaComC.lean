/- Texts of this claim, part 3: BSpec, BOwn, BOne, VSpec, VSpecb, VSpecc, VBytes, BDraw, VMem, VInt, VRight, VPut, VPutb, VGetA, VGetB, VGetC, VGetD, VGetE, VGetF, VGetG, VGetH. -/
import Derived.Test.YtgamhgeiceakeaaComB
import Derived.Laws.AppendOwn
import Derived.Laws.OwnMore
import Derived.Below
import Derived.Test.YtgamhgeiceakeaaProg
import Derived.WalkKit
import Derived.OwnWalk
import Derived.WalkSmall
import Derived.Laws.IdiomStrings
import Derived.Laws.BytesArg
import Derived.IntWalk
import Derived.Lib.Hide
import Derived.Lib.Zigzag
import Derived.Lib.VarintBits
import Derived.Deep.QuietTactic
import Derived.BigQuiet
import Derived.Deep.RegionWith
import Derived.WalkSpells
import Derived.OrdersHeld
import Derived.Tactics
import Derived.Laws.World
import Derived.Laws.Rows
import Derived.Lib.BufferMore
import Derived.OneCell
import Derived.Deep.Cut
import Derived.Outline
import Derived.Laws.EntriesVeiled
/- Numbers, sums and packets as plain functions on lists of bytes: what package bytes and the packets of package frame come to. No program stands here. -/
set_option linter.unusedVariables false
namespace Go.Proofs.Ytgamhgeiceakeaa
namespace By
abbrev Bs := List UInt8
def uvF : Nat → Nat → Bs
  | 0, n => [UInt8.ofNat n]
  | f + 1, n => if n < 128 then [UInt8.ofNat n] else UInt8.ofNat (n % 128 + 128) :: uvF f (n / 128)
/-- a number's bytes -/
def uv (n : Nat) : Bs := uvF 9 n
theorem uvF_enough : ∀ (f g n : Nat), n < 128 ^ (f + 1) → n < 128 ^ (g + 1) → uvF f n = uvF g n
  | 0, 0, n, _, _ => rfl
  | 0, g + 1, n, h, _ => by
    unfold uvF; rw [if_pos (by simpa using h)]
  | f + 1, 0, n, _, h => by
    conv => rhs; unfold uvF
    unfold uvF; rw [if_pos (by simpa using h)]
  | f + 1, g + 1, n, h, h' => by
    unfold uvF
    by_cases hn : n < 128
    · rw [if_pos hn, if_pos hn]
    · rw [if_neg hn, if_neg hn, uvF_enough f g (n / 128) (Nat.div_lt_of_lt_mul (by rw [Nat.pow_succ, Nat.mul_comm] at h; exact h)) (Nat.div_lt_of_lt_mul (by rw [Nat.pow_succ, Nat.mul_comm] at h'; exact h'))]
theorem uv_small (n : Nat) (h : n < 128) : uv n = [UInt8.ofNat n] := by
  unfold uv uvF; rw [if_pos h]
theorem p64 : (18446744073709551616 : Nat) ≤ 128 ^ 10 := by decide
theorem p57 : (18446744073709551616 : Nat) ≤ 128 ^ 9 * 128 := by decide
theorem uv_big (n : Nat) (h : 128 ≤ n) (h64 : n < 18446744073709551616) : uv n = UInt8.ofNat (n % 128 + 128) :: uv (n / 128) := by
  unfold uv
  conv => lhs; unfold uvF
  rw [if_neg (by omega), uvF_enough 8 9 (n / 128) (Nat.div_lt_of_lt_mul (by have := p57; rw [Nat.mul_comm]; omega)) (by have := p64; have h1 : n / 128 ≤ n := Nat.div_le_self _ _; exact Nat.lt_of_le_of_lt h1 (Nat.lt_of_lt_of_le h64 this))]
theorem uvF_len : ∀ f n, (uvF f n).length ≤ f + 1 ∧ 1 ≤ (uvF f n).length
  | 0, n => ⟨Nat.le_refl _, Nat.le_refl _⟩
  | f + 1, n => by
    have := uvF_len f (n / 128)
    unfold uvF; split
    · simp
    · simp only [List.length_cons]; omega
theorem uv_len (n : Nat) : (uv n).length ≤ 10 ∧ 1 ≤ (uv n).length := uvF_len 9 n
/-- a number at a list's begin: it, how many bytes say it, the error -/
def guF : Nat → Nat → Bs → Nat × Nat × Nat
  | _, _, [] => (0, 0, 11)
  | i, acc, x :: r => if (i = 9 ∧ 1 < x.toNat) ∨ (x.toNat = 0 ∧ 0 < i) then (0, 0, 10) else
    if x.toNat < 128 then (acc + x.toNat % 128 * 128 ^ i, i + 1, 0) else if i = 9 then (0, 0, 10) else guF (i + 1) (acc + x.toNat % 128 * 128 ^ i) r
def gu (l : Bs) : Nat × Nat × Nat := guF 0 0 l
theorem pow9 : (128 : Nat) ^ 9 = 9223372036854775808 := by decide
theorem guF_uvF (r : Bs) : ∀ (f i acc n : Nat), n < 128 ^ (f + 1) → i + f = 9 → n * 128 ^ i < 18446744073709551616 → (0 < i → 0 < n) → guF i acc (uvF f n ++ r) = (acc + n * 128 ^ i, i + (uvF f n).length, 0)
  | 0, i, acc, n, h, hi, h1, h0 => by
    obtain rfl : i = 9 := by omega
    have hn : n ≤ 1 := by rw [pow9] at h1; omega
    have e : (UInt8.ofNat n).toNat = n := by simp; omega
    show guF 9 acc (UInt8.ofNat n :: ([] ++ r)) = _
    unfold guF
    rw [e, if_neg (by omega), if_pos (by omega), Nat.mod_eq_of_lt (by omega)]; rfl
  | f + 1, i, acc, n, h, hi, h1, h0 => by
    by_cases hn : n < 128
    · have e : (UInt8.ofNat n).toNat = n := by simp; omega
      have ee : uvF (f + 1) n = [UInt8.ofNat n] := by unfold uvF; rw [if_pos hn]
      rw [ee]
      show guF i acc (UInt8.ofNat n :: ([] ++ r)) = _
      unfold guF
      rw [e, if_neg (by omega), if_pos hn, Nat.mod_eq_of_lt hn]; rfl
    · have ee : uvF (f + 1) n = UInt8.ofNat (n % 128 + 128) :: uvF f (n / 128) := if_neg hn
      have e : (UInt8.ofNat (n % 128 + 128)).toNat = n % 128 + 128 := by simp; omega
      rw [ee, List.cons_append]
      unfold guF
      rw [e, if_neg (by omega), if_neg (by omega), if_neg (by omega)]
      have hlt : n / 128 < 128 ^ (f + 1) := Nat.div_lt_of_lt_mul (by rw [Nat.pow_succ, Nat.mul_comm] at h; exact h)
      have hdm := Nat.div_add_mod n 128
      have e3 : n / 128 * (128 ^ i * 128) = 128 * (n / 128) * 128 ^ i := by rw [Nat.mul_comm (128 ^ i) 128, ← Nat.mul_assoc, Nat.mul_comm (n / 128) 128]
      have e4 : n * 128 ^ i = 128 * (n / 128) * 128 ^ i + n % 128 * 128 ^ i := by rw [← Nat.add_mul, hdm]
      rw [guF_uvF r f (i + 1) _ (n / 128) hlt (by omega) (by rw [Nat.pow_succ, e3]; omega) (fun _ => by omega)]
      simp only [List.length_cons]
      have e2 : (n % 128 + 128) % 128 = n % 128 := by omega
      rw [e2, Nat.pow_succ, e3, e4]
      congr 1
      · omega
      · congr 1; omega
/-- what a number was put as is got -/
theorem gu_uv (n : Nat) (h : n < 18446744073709551616) (r : Bs) : gu (uv n ++ r) = (n, (uv n).length, 0) := by
  have := guF_uvF r 9 0 0 n (Nat.lt_of_lt_of_le h p64) rfl (by simpa using h) (fun h => absurd h (Nat.lt_irrefl 0))
  unfold gu uv
  rw [this]; simp
theorem guF_len : ∀ (l : Bs) (i acc : Nat), (guF i acc l).2.2 = 0 → (guF i acc l).2.1 ≤ i + l.length ∧ i < (guF i acc l).2.1
  | [], i, acc, h => by cases h
  | x :: r, i, acc, h => by
    unfold guF at h ⊢
    split at h
    · cases h
    · rename_i h1
      rw [if_neg h1]
      split at h
      · rename_i h2; rw [if_pos h2]; simp
      · rename_i h2
        rw [if_neg h2]
        split at h
        · cases h
        · rename_i h3
          rw [if_neg h3]
          have := guF_len r (i + 1) _ h
          simp only [List.length_cons]; omega
theorem gu_len (l : Bs) (h : (gu l).2.2 = 0) : (gu l).2.1 ≤ l.length ∧ 0 < (gu l).2.1 := by
  have := guF_len l 0 0 h; unfold gu; omega
/-- the sum -/
def crc1 (c : Nat) : Nat := c / 2 ^^^ (if c % 2 = 1 then 3988292384 else 0)
def crc8 (c : Nat) : Nat := crc1 (crc1 (crc1 (crc1 (crc1 (crc1 (crc1 (crc1 c)))))))
def crcB (c : Nat) (x : UInt8) : Nat := crc8 (c ^^^ x.toNat)
def crcF (c : Nat) (l : Bs) : Nat := l.foldl crcB c
def crc (l : Bs) : Nat := 4294967295 - crcF 4294967295 l
theorem crc1_lt (c : Nat) (h : c < 4294967296) : crc1 c < 4294967296 := by
  unfold crc1
  refine Nat.xor_lt_two_pow (n := 32) (by omega) ?_
  split <;> omega
theorem crc8_lt (c : Nat) (h : c < 4294967296) : crc8 c < 4294967296 := by
  unfold crc8
  exact crc1_lt _ (crc1_lt _ (crc1_lt _ (crc1_lt _ (crc1_lt _ (crc1_lt _ (crc1_lt _ (crc1_lt _ h)))))))
theorem crcB_lt (c : Nat) (x : UInt8) (h : c < 4294967296) : crcB c x < 4294967296 :=
  crc8_lt _ (Nat.xor_lt_two_pow (n := 32) h (by have := x.toNat_lt; omega))
theorem crcF_lt : ∀ (l : Bs) (c : Nat), c < 4294967296 → crcF c l < 4294967296
  | [], c, h => h
  | x :: l, c, h => crcF_lt l _ (crcB_lt c x h)
theorem crc_lt (l : Bs) : crc l < 4294967296 := by unfold crc; omega
theorem crcF_snoc (l : Bs) (c : Nat) (x : UInt8) : crcF c (l ++ [x]) = crcB (crcF c l) x := by unfold crcF; rw [List.foldl_append]; rfl
/-- four bytes, the highest first -/
def be4 (n : Nat) : Bs := [UInt8.ofNat (n / 16777216), UInt8.ofNat (n / 65536), UInt8.ofNat (n / 256), UInt8.ofNat n]
def num4 (l : Bs) : Nat := l.foldl (fun n x => n * 256 + x.toNat) 0
theorem num4_be4 (n : Nat) (h : n < 4294967296) : num4 (be4 n) = n := by
  unfold num4 be4
  simp only [List.foldl_cons, List.foldl_nil, UInt8.toNat_ofNat']
  omega
def shut (l : Bs) : Bs := l ++ be4 (crc l)
/-- without the sum; the error -/
def opn (l : Bs) : Bs × Nat :=
  if l.length < 4 then ([], 11) else if num4 (l.drop (l.length - 4)) = crc (l.take (l.length - 4)) then (l.take (l.length - 4), 0) else ([], 12)
theorem shut_len (l : Bs) : (shut l).length = l.length + 4 := by unfold shut; rw [List.length_append]; rfl
theorem open_shut (l : Bs) : opn (shut l) = (l, 0) := by
  unfold opn
  rw [shut_len, if_neg (by omega), Nat.add_sub_cancel]
  have h1 : (shut l).drop l.length = be4 (crc l) := by unfold shut; rw [List.drop_left]
  have h2 : (shut l).take l.length = l := by unfold shut; rw [List.take_left]
  rw [h1, h2, num4_be4 _ (crc_lt l), if_pos rfl]
/-- a packet -/
structure Pk where
  fr : Nat
  life : Nat
  seq : Nat
  ack : Nat
  data : Bs
def top : Nat := 4611686018427387904
def Pk.right (p : Pk) : Prop := p.fr ≤ top ∧ p.life ≤ top ∧ p.seq ≤ top ∧ p.ack ≤ top ∧ p.data.length ≤ 1048576 ∧ (0 < p.seq ∨ p.data = [])
def blob (l : Bs) : Bs := uv l.length ++ l
def pk (p : Pk) : Bs := uv p.fr ++ (uv p.life ++ (uv p.seq ++ (uv p.ack ++ blob p.data)))
def pack (p : Pk) : Bs := shut (pk p)
/-- numbers, one behind the other, each at most 'top': them, what is left, the error -/
def nums : Nat → Bs → List Nat × Bs × Nat
  | 0, l => ([], l, 0)
  | k + 1, l => if (gu l).2.2 ≠ 0 then ([], [], (gu l).2.2) else if top < (gu l).1 then ([], [], 14) else
    ((gu l).1 :: (nums k (l.drop (gu l).2.1)).1, (nums k (l.drop (gu l).2.1)).2.1, (nums k (l.drop (gu l).2.1)).2.2)
/-- some bytes: them, how many say it, the error -/
def getBlob (most : Nat) (l : Bs) : Bs × Nat × Nat :=
  if (gu l).2.2 ≠ 0 then ([], 0, (gu l).2.2) else if most < (gu l).1 then ([], 0, 3) else if l.length - (gu l).2.1 < (gu l).1 then ([], 0, 11) else
    ((l.drop (gu l).2.1).take (gu l).1, (gu l).2.1 + (gu l).1, 0)
theorem getBlob_blob (most : Nat) (l r : Bs) (h : l.length ≤ most) (h64 : l.length < 18446744073709551616) : getBlob most (blob l ++ r) = (l, (blob l).length, 0) := by
  unfold getBlob blob
  rw [List.append_assoc, gu_uv _ h64]
  simp only
  rw [if_neg (by simp), if_neg (by omega), if_neg (by rw [List.length_append, List.length_append]; omega), List.drop_left, List.take_left, List.length_append]
def zeroPk : Pk := ⟨0, 0, 0, 0, []⟩
def unpack (b : Bs) : Pk × Nat :=
  if 1048640 < b.length then (zeroPk, 3) else if (opn b).2 ≠ 0 then (zeroPk, (opn b).2) else
  let r := nums 4 (opn b).1
  if r.2.2 ≠ 0 then (zeroPk, r.2.2) else
  let d := getBlob 1048576 r.2.1
  if d.2.2 ≠ 0 then (zeroPk, d.2.2) else
  if r.1.getD 2 0 = 0 ∧ d.1 ≠ [] then (zeroPk, 14) else
  if d.2.1 < r.2.1.length then (zeroPk, 10) else (⟨r.1.getD 0 0, r.1.getD 1 0, r.1.getD 2 0, r.1.getD 3 0, d.1⟩, 0)
theorem nums_cons (k n : Nat) (r : Bs) (h : n ≤ top) : nums (k + 1) (uv n ++ r) = (n :: (nums k r).1, (nums k r).2.1, (nums k r).2.2) := by
  have h64 : n < 18446744073709551616 := by unfold top at h; omega
  conv => lhs; unfold nums
  rw [gu_uv n h64]
  simp only
  rw [if_neg (by simp), if_neg (by omega), List.drop_left]
theorem pk_len (p : Pk) : (pk p).length ≤ p.data.length + 50 := by
  have h1 := uv_len p.fr
  have h2 := uv_len p.life
  have h3 := uv_len p.seq
  have h4 := uv_len p.ack
  have h5 := uv_len p.data.length
  unfold pk blob
  simp only [List.length_append]
  omega
/-- a right packet comes back -/
theorem unpack_pack (p : Pk) (h : p.right) : unpack (pack p) = (p, 0) := by
  obtain ⟨h1, h2, h3, h4, h5, h6⟩ := h
  have hl := pk_len p
  have hn : nums 4 (pk p) = ([p.fr, p.life, p.seq, p.ack], blob p.data, 0) := by
    unfold pk
    rw [nums_cons 3 _ _ h1, nums_cons 2 _ _ h2, nums_cons 1 _ _ h3, nums_cons 0 _ _ h4]; rfl
  have hb := getBlob_blob 1048576 p.data [] h5 (by omega)
  rw [List.append_nil] at hb
  unfold unpack pack
  rw [shut_len, if_neg (by omega), open_shut]
  simp only
  rw [if_neg (by simp), hn]
  simp only
  rw [if_neg (by simp), hb]
  simp only
  rw [if_neg (by simp), if_neg (by
    intro ⟨q1, q2⟩
    rcases h6 with h | h
    · have : p.seq = 0 := q1
      omega
    · exact q2 h), if_neg (Nat.lt_irrefl _)]
  rfl
end By
end Go.Proofs.Ytgamhgeiceakeaa
/- What an append to a slice of the call's own leaves: the row it lay in, or a new one, and nothing else, has turned. -/
set_option linter.unusedVariables false
namespace Go.Proofs.Ytgamhgeiceakeaa
open Go.RowKit
/-- v' has come of v: but for the row of v nothing that there was has turned -/
structure Gw (w w' : World) (v v' : Value) : Prop where
  grown : w.grownBy w' v.ownBlock
  own : v'.ownBlock = v.ownBlock ∨ ∃ k, v'.ownBlock = some k ∧ w.heap.size ≤ k
theorem grown_refl (w : World) (r : Option Nat) : w.grownBy w r := ⟨rfl, rfl, rfl, Nat.le_refl _, fun _ _ _ => rfl⟩
theorem Gw.refl (w : World) (v : Value) : Gw w w v v := ⟨grown_refl _ _, Or.inl rfl⟩
theorem Gw.trans {w w1 w2 : World} {v v1 v2 : Value} (h : Gw w w1 v v1) (k : Gw w1 w2 v1 v2) : Gw w w2 v v2 := by
  refine ⟨⟨k.grown.os.trans h.grown.os, k.grown.tape.trans h.grown.tape, k.grown.output.trans h.grown.output, Nat.le_trans h.grown.size k.grown.size, fun i hi hne => ?_⟩, ?_⟩
  · rw [k.grown.block i (Nat.lt_of_lt_of_le hi h.grown.size) (fun e => by
      rcases h.own with o | ⟨j, o, hj⟩
      · exact hne (e.trans o)
      · rw [o] at e; cases e; omega), h.grown.block i hi hne]
  · rcases k.own with o | ⟨j, o, hj⟩
    · rcases h.own with o' | ⟨j, o', hj⟩
      · exact Or.inl (o.trans o')
      · exact Or.inr ⟨j, o.trans o', hj⟩
    · exact Or.inr ⟨j, o, Nat.le_trans h.grown.size hj⟩
theorem Gw.below {w w1 w2 : World} {v v1 : Value} (h : Gw w w1 v v1) (k : Below w1.heap.size w1 w2) : Gw w w2 v v1 := by
  refine ⟨⟨k.os.trans h.grown.os, k.tape.trans h.grown.tape, k.output.trans h.grown.output, Nat.le_trans h.grown.size k.size, fun i hi hne => ?_⟩, h.own⟩
  rw [k.block i (Nat.lt_of_lt_of_le hi h.grown.size), h.grown.block i hi hne]
theorem Gw.alloc {w w1 : World} {v v1 : Value} (h : Gw w w1 v v1) (o : Obj) : Gw w (w1.alloc o) v v1 := h.below ((Below.refl _ _).alloc (Nat.le_refl _) o)
theorem Gw.of {w w1 w2 : World} {v v1 : Value} (k : Below w.heap.size w w1) (h : Gw w1 w2 v v1) (hv : ∀ i, v.ownBlock = some i → i < w.heap.size) : Gw w w2 v v1 := by
  refine ⟨⟨h.grown.os.trans k.os, h.grown.tape.trans k.tape, h.grown.output.trans k.output, Nat.le_trans k.size h.grown.size, fun i hi hne => ?_⟩, ?_⟩
  · rw [h.grown.block i (Nat.lt_of_lt_of_le hi k.size) hne, k.block i hi]
  · rcases h.own with o | ⟨j, o, hj⟩
    · exact Or.inl o
    · exact Or.inr ⟨j, o, Nat.le_trans k.size hj⟩
/-- below a bound that the row lies above, nothing has turned -/
theorem Gw.less {B : Nat} {a w w' : World} {v v' : Value} (h : Below B a w) (g : Gw w w' v v') (hB : B ≤ w.heap.size) (hv : ∀ i, v.ownBlock = some i → B ≤ i) : Below B a w' := h.grown g.grown hB hv
theorem Gw.base {B : Nat} {w w' : World} {v v' : Value} (g : Gw w w' v v') (hB : B ≤ w.heap.size) (hv : ∀ i, v.ownBlock = some i → B ≤ i) : ∀ i, v'.ownBlock = some i → B ≤ i := by
  intro i hi
  rcases g.own with o | ⟨j, o, hj⟩
  · exact hv i (o ▸ hi)
  · rw [hi] at o; cases o; omega
section
variable {P : Program} (w : World)
theorem own_after (base : Nat) (t ty e : TypeId) (i : TypeInfo) (z : Value) (size bytes : Nat) (ht : P.underlying t = some (.slice e)) (hi : P.info? e = some i) (hz : i.zero = some z)
    (hsize : i.size = size) (hby : i.bytes = bytes) (hzs : z.cells.size = size) (hsz : 0 < size)
    (v : Value) (n : Nat) (xs : List Value) (hown : w.ownsRow base e size v n xs)
    (a : Addr) (m c : Nat) (news : List Value) (hl : news.length = m * size) (hnews : ∀ j u, news[j]? = some u → w.cell? (a.add j) = some u) (h1 : ∀ u ∈ news, u.oneCell' = true)
    (h63 : n + m ≤ maxLen) (hbytes : (n + m) * bytes ≤ 140737488355328) {v' : Value} {w' : World} (hr : (Builtin.append_ #[t, t] ty #[v, .slice (some a) m c]).run P w = .ok v' w') (hnil : v' = .slice none 0 0 ↔ v = .slice none 0 0 ∧ m = 0) :
    v'.ownBlock = v.ownBlock ∨ ∃ k, v'.ownBlock = some k ∧ w.heap.size ≤ k := by
  subst hsize
  subst hby
  have hsmall : n + m ≤ 9223372036854775807 := by simp only [maxLen] at h63; omega
  rcases hown.2 with ⟨rfl, rfl⟩ | ⟨g, cap, cur, rfl, hbg, hg, hnc, hcm, hcs, htake⟩
  · by_cases hm : m = 0
    · rw [hnil.2 ⟨rfl, hm⟩]; exact Or.inl rfl
    · have hr2 := run_append_nil (P := P) w t ty e i z ht hi hz a m c news hl hnews (by omega) (by omega) (by have hb := hbytes; simp only [Nat.zero_add] at hb; omega)
      rw [hr2] at hr
      cases hr
      exact Or.inr ⟨w.heap.size, rfl, Nat.le_refl _⟩
  · by_cases hroom : n + m ≤ cap
    · have hfit : n * i.size + news.length ≤ cur.size := by rw [hl, hcs, ← Nat.add_mul]; exact Nat.mul_le_mul_right _ hroom
      have hr2 := run_append_room (P := P) w t ty e i ht hi g n cap cur hg a m c news hl hnews h1 hroom hfit
      rw [hr2] at hr
      cases hr
      exact Or.inl rfl
    · have hr2 := run_append_grow (P := P) w t ty e i z ht hi hz ⟨g, 0, none⟩ n cap xs hown.1 (hown.cells (g := g) rfl) a m c news hl hnews (by omega) (by omega) (growslice_fits (by omega) hbytes)
      rw [hr2] at hr
      cases hr
      exact Or.inr ⟨w.heap.size, rfl, Nat.le_refl _⟩
theorem wpList_append_gw {ops : Array Oper} {rest : List Oper} {o : Oper} {a : Act} {Q : Exit → Act → World → Prop} (hgd : o.guard = none) (s x : Operand) (t : TypeId)
    (ho : o.op = .call { callee := .builtin .append, args := #[s, x], argTypes := #[t, t] })
    (base : Nat) (e : TypeId) (i : TypeInfo) (z : Value) (size bytes : Nat) (ht : P.underlying t = some (.slice e)) (hi : P.info? e = some i) (hz : i.zero = some z)
    (hsize : i.size = size) (hby : i.bytes = bytes) (hzs : z.cells.size = size) (hsz : 0 < size)
    (v : Value) (n : Nat) (xs : List Value) (hs : a.eval s = v) (hown : w.ownsRow base e size v n xs)
    (ad : Addr) (m c : Nat) (news : List Value) (hx : a.eval x = .slice (some ad) m c) (hl : news.length = m * size) (hnews : ∀ j u, news[j]? = some u → w.cell? (ad.add j) = some u) (h1 : ∀ u ∈ news, u.oneCell' = true)
    (h63 : n + m ≤ maxLen) (hbytes : (n + m) * bytes ≤ 140737488355328) (hbase : base ≤ w.heap.size)
    (h : ∀ v' w', w'.ownsRow base e size v' (n + m) (xs ++ news) → Gw w w' v v' → (v' = .slice none 0 0 ↔ v = .slice none 0 0 ∧ m = 0) → wpList P ops Q rest (a.put o.dst v') w') : wpList P ops Q (o :: rest) a w :=
  wpList_plain hgd fun K hK => by
    obtain ⟨v', w', hr, h2, h3, h4⟩ := run_append_own (P := P) w base t o.type e i z size bytes ht hi hz hsize hby hzs hsz v n xs hown ad m c news hl hnews h1 h63 hbytes hbase
    have h5 := own_after (P := P) w base t o.type e i z size bytes ht hi hz hsize hby hzs hsz v n xs hown ad m c news hl hnews h1 h63 hbytes hr h4
    unfold Oper.wp execOp
    simp only [ho, resolve, invoke, builtin, Sem.run_bind, Sem.run_pure, Result.andThen_ok, List.map_toArray, List.map_cons, List.map_nil, hs, hx, hr]
    exact hK _ _ (h v' w' h2 ⟨h3, h5⟩ h4)
theorem run_append_of_none (base : Nat) (t ty e : TypeId) (i : TypeInfo) (size : Nat) (ht : P.underlying t = some (.slice e)) (hi : P.info? e = some i)
    (v : Value) (n : Nat) (xs : List Value) (hown : w.ownsRow base e size v n xs) (c : Nat) : (Builtin.append_ #[t, t] ty #[v, .slice none 0 c]).run P w = .ok v w := by
  rcases hown.2 with ⟨rfl, rfl⟩ | ⟨g, cap, cur, rfl, _, _, hnc, _⟩
  · simp [Builtin.append_, run_underlying ht, sizeOf, typeInfo, hi, Builtin.lenOf, Builtin.firstCells]
  · simp [Builtin.append_, run_underlying ht, sizeOf, typeInfo, hi, Builtin.lenOf, Builtin.firstCells, hnc, storeCells]
/-- the same where the source may be nil -/
theorem wpList_append_rd {ops : Array Oper} {rest : List Oper} {o : Oper} {a : Act} {Q : Exit → Act → World → Prop} (hgd : o.guard = none) (s x : Operand) (t : TypeId)
    (ho : o.op = .call { callee := .builtin .append, args := #[s, x], argTypes := #[t, t] })
    (base : Nat) (e : TypeId) (i : TypeInfo) (z : Value) (size bytes : Nat) (ht : P.underlying t = some (.slice e)) (hi : P.info? e = some i) (hz : i.zero = some z)
    (hsize : i.size = size) (hby : i.bytes = bytes) (hzs : z.cells.size = size) (hsz : 0 < size)
    (v : Value) (n : Nat) (xs : List Value) (hs : a.eval s = v) (hown : w.ownsRow base e size v n xs)
    (ba : Option Addr) (m c : Nat) (news : List Value) (hx : a.eval x = .slice ba m c) (hl : news.length = m * size) (hba : ba = none → m = 0) (hnews : ∀ ad, ba = some ad → ∀ j u, news[j]? = some u → w.cell? (ad.add j) = some u) (h1 : ∀ u ∈ news, u.oneCell' = true)
    (h63 : n + m ≤ maxLen) (hbytes : (n + m) * bytes ≤ 140737488355328) (hbase : base ≤ w.heap.size)
    (h : ∀ v' w', w'.ownsRow base e size v' (n + m) (xs ++ news) → Gw w w' v v' → (v' = .slice none 0 0 ↔ v = .slice none 0 0 ∧ m = 0) → wpList P ops Q rest (a.put o.dst v') w') : wpList P ops Q (o :: rest) a w := by
  cases ba with
  | some ad => exact wpList_append_gw w hgd s x t ho base e i z size bytes ht hi hz hsize hby hzs hsz v n xs hs hown ad m c news hx hl (hnews ad rfl) h1 h63 hbytes hbase h
  | none =>
    have hm := hba rfl
    subst hm
    have hn : news = [] := List.eq_nil_of_length_eq_zero (by rw [hl, Nat.zero_mul])
    subst hn
    refine wpList_plain hgd fun K hK => ?_
    have hr := run_append_of_none (P := P) w base t o.type e i size ht hi v n xs hown c
    unfold Oper.wp execOp
    simp only [ho, resolve, invoke, builtin, Sem.run_bind, Sem.run_pure, Result.andThen_ok, List.map_toArray, List.map_cons, List.map_nil, hs, hx, hr]
    exact hK _ _ (h v w (by simpa using hown) (Gw.refl _ _) (by simp))
end
end Go.Proofs.Ytgamhgeiceakeaa
/- package bytes: numbers, by contract. -/
set_option linter.unusedVariables false
namespace Go.Proofs.Ytgamhgeiceakeaa
open Go.RowKit
def u8s (l : List UInt8) : List Value := l.map fun b => Value.int .u8 b.toNat
theorem u8s_app (l r : List UInt8) : u8s (l ++ r) = u8s l ++ u8s r := by unfold u8s; simp
theorem u8s_len (l : List UInt8) : (u8s l).length = l.length := by unfold u8s; simp
theorem u8s_one (l : List UInt8) : ∀ u ∈ u8s l, u.oneCell' = true := by
  intro u hu; unfold u8s at hu; obtain ⟨x, _, rfl⟩ := List.mem_map.1 hu; rfl
theorem Try.info_u8 : (Try.prog.info? 5).map (fun i => (i.zero, i.size, i.bytes)) = some (some (.int .u8 0), 1, 1) := by kernel_rfl
/-- a slice of bytes of the call's own -/
def Ow (w : World) (B : Nat) (v : Value) (l : List UInt8) : Prop := w.ownsRow B 5 1 v l.length (u8s l)
theorem Ow.nil (w : World) (B : Nat) : Ow w B (.slice none 0 0) [] := World.ownsRow_nil _ _ _ _
def OwPost (B : Nat) (v : Value) (l : List UInt8) (w : World) (e : Ending) (w' : World) : Prop := ∃ v', e = .returned v' ∧ Ow w' B v' l ∧ Gw w w' v v' ∧ (l ≠ [] → v' ≠ .slice none 0 0)
theorem beqI {a b : Int} (h : a = b) : (a == b) = true := beq_iff_eq.2 h
theorem bneI {a b : Int} (h : a ≠ b) : (a == b) = false := beq_eq_false_iff_ne.2 h
theorem cell_new1 (w : World) (v : Value) (T : TypeId) : (w.alloc (.cells #[v] T)).cell? ⟨w.heap.size, 0, none⟩ = some v := by simp
/-- one byte more: 'out = append(out, c)' -/
theorem wp_byte {ops : Array Oper} {rest : List Oper} {o : Oper} {a : Act} {Q : Exit → Act → World → Prop} (w : World) (hgd : o.guard = none) (s x : Operand)
    (ho : o.op = .call { callee := .builtin .append, args := #[s, x], argTypes := #[27, 27] })
    (B : Nat) (v : Value) (r : List UInt8) (hs : a.eval s = v) (hown : Ow w B v r) (u : Int) (c : UInt8) (hu : u = (c.toNat : Nat)) (hx : a.eval x = .slice (some ⟨w.heap.size, 0, none⟩) 1 1) (hl : r.length ≤ 2199023255552) (hB : B ≤ w.heap.size)
    (h : ∀ v' w', Ow w' B v' (r ++ [c]) → Gw w w' v v' → v' ≠ .slice none 0 0 → wpList Try.prog ops Q rest (a.put o.dst v') w') : wpList Try.prog ops Q (o :: rest) a (w.alloc (.cells #[.int .u8 u] 5)) := by
  obtain ⟨i0, hi, hz0, hz1, hz2⟩ := info_parts Try.info_u8
  subst hu
  refine wpList_append_gw _ hgd s x 27 ho B 5 i0 (.int .u8 0) 1 1 Try.underlying27 hi hz0 hz1 hz2 rfl (by decide) v r.length (u8s r) hs (hown.alloc _) ⟨w.heap.size, 0, none⟩ 1 1 [.int .u8 (c.toNat : Nat)] hx rfl ?_ ?_ ?_ ?_ ?_ ?_
  · intro j u hj
    match j, hj with
    | 0, hj => simp only [List.getElem?_cons_zero, Option.some.injEq] at hj; subst hj; exact cell_new1 _ _ _
  · intro u hu; simp only [List.mem_singleton] at hu; subst hu; rfl
  · unfold maxLen; omega
  · omega
  · simp; omega
  · intro v' w' h1 h2 h3
    refine h v' w' ?_ (Gw.of ((Below.refl _ _).alloc (Nat.le_refl _) _) h2 (fun i hi => (hown.lt i hi).2)) (fun e => by have := (h3.1 e).2; omega)
    unfold Ow; rw [u8s_app, List.length_append]; exact h1
set_option maxHeartbeats 1600000 in
set_option maxRecDepth 100000 in
theorem uint_any (B : Nat) (v : Value) (l : List UInt8) (n : Nat) (w : World) (hn : n < 18446744073709551616) (ho : Ow w B v l) (hB : B ≤ w.heap.size) (hl : l.length ≤ 1099511627776) :
    Calls Try.prog 51 #[v, .int .u64 n] w (OwPost B v (l ++ By.uv n) w) := by
  have HO := Lib.hid ho
  have HN := Lib.hid hn
  clear ho hn
  go_enter Try.func51, Try.ntmps51
  go_wp2
  go_loopw [0, 1] (fun vv nv wr => ∃ (m : Nat) (r : List UInt8), m < 18446744073709551616 ∧ nv = .int .u64 m ∧ r.length + (By.uv m).length ≤ l.length + 10 ∧ Ow wr B vv r ∧ Gw w wr v vv ∧ r ++ By.uv m = l ++ By.uv n) (fun _ n _ => (intOf n).toNat)
  case atStart => exact ⟨n, l, HN.out, rfl, (by have := (By.uv_len n).1; omega), HO.out, Gw.refl _ _, rfl⟩
  case round =>
    obtain ⟨m, r, hm, rfl, hr, hown, hgw, heq⟩ := hrel
    have HOW := Lib.hid hown
    have HG := Lib.hid hgw
    have HE := Lib.hid heq
    have hsz : B ≤ wr.heap.size := Nat.le_trans hB hgw.grown.size
    clear hown hgw heq
    by_cases h : 128 ≤ m
    · have HB : Hid (bits BinOp.or IntKind.u8 ((m : Int) % 256) 128 = ((UInt8.ofNat (m % 128 + 128)).toNat : Nat)) := Lib.hid (by
        rw [Lib.u8_or128_any _ (by omega) (by omega), UInt8.toNat_ofNat']; omega)
      have hub := By.uv_big m h hm
      generalize UInt8.ofNat (m % 128 + 128) = c at HB hub
      have HU := Lib.hid hub
      have hlen := congrArg List.length hub
      rw [List.length_cons] at hlen
      have hr2 : r.length + 1 + (By.uv (m / 128)).length ≤ l.length + 10 := by omega
      have hr3 : r.length ≤ l.length + 10 := by omega
      clear hub hlen hr
      go_wp2_with (at_builtin; refine wp_byte _ rfl _ _ rfl B _ r rfl HOW.out _ c HB.out rfl (by omega) hsz ?_)
      intro v' w1 hown1 hg1 _
      have HO1 := Lib.hid hown1
      have HG1 := Lib.hid (HG.out.trans hg1)
      clear hown1 hg1
      go_wp2
      go_roundw
      case rel => exact ⟨m / 128, r ++ [c], by omega, by go_num, by rw [List.length_append]; exact hr2, HO1.out, HG1.out, by rw [← HE.out, HU.out, List.append_assoc]; rfl⟩
      case measure => simp [intOf]; omega
    · have hus := By.uv_small m (by omega)
      have HU := Lib.hid hus
      have hlen := congrArg List.length hus
      rw [List.length_singleton] at hlen
      have hr3 : r.length ≤ l.length + 10 := by omega
      have HM : Hid ((m : Int) = ((UInt8.ofNat m).toNat : Nat)) := Lib.hid (by rw [UInt8.toNat_ofNat']; omega)
      clear hus hlen hr
      go_wp2_with (at_builtin; refine wp_byte _ rfl _ _ rfl B _ r rfl HOW.out _ (UInt8.ofNat m) HM.out rfl (by omega) hsz ?_)
      intro v' w1 hown1 hg1 hnn
      have HO1 := Lib.hid hown1
      have HG1 := Lib.hid (HG.out.trans hg1)
      have HNN := Lib.hid hnn
      clear hown1 hg1 hnn
      go_wp2
      go_ret
      exact ⟨_, rfl, by rw [← HE.out, HU.out]; exact HO1.out, HG1.out, fun _ => HNN.out⟩
end Go.Proofs.Ytgamhgeiceakeaa
/- Values as plain data: right ones, their bytes, what stands at a place of bytes. No program stands here. -/
set_option linter.unusedVariables false
set_option linter.unusedSimpArgs false
namespace Go.Proofs.Ytgamhgeiceakeaa
namespace Va
open By (Bs)
inductive V where
  | mk (k : Nat) (n : Int) (s : ByteArray) (l : List V)
theorem V.ind {P : V → Prop} (h : ∀ k n s l, (∀ v ∈ l, P v) → P (.mk k n s l)) : ∀ v, P v := fun v =>
  V.rec (motive_1 := P) (motive_2 := fun l => ∀ v ∈ l, P v) (fun k n s l ih => h k n s l ih) (fun v hv => by cases hv) (fun v l hv hl u hu => by
    rcases List.mem_cons.1 hu with rfl | hu
    · exact hv
    · exact hl u hu) v
def em : ByteArray := ByteArray.empty
theorem em_of {s : ByteArray} (h : s.size = 0) : s = em := by
  obtain ⟨⟨l⟩⟩ := s
  have : l = [] := List.eq_nil_of_length_eq_zero h
  subst this; rfl
/-- a signed number as an unsigned one, and back -/
def zg (n : Int) : Nat := if 0 ≤ n then (2 * n).toNat else (-2 * n - 1).toNat
def ung (m : Nat) : Int := if m % 2 = 0 then ((m / 2 : Nat) : Int) else -((m / 2 : Nat) : Int) - 1
theorem ung_zg (n : Int) : ung (zg n) = n := by
  unfold ung zg
  by_cases h : 0 ≤ n
  · simp only [if_pos h]; rw [if_pos (by omega)]; omega
  · simp only [if_neg h]; rw [if_neg (by omega)]; omega
theorem zg_ung (m : Nat) : zg (ung m) = m := by
  unfold ung zg
  by_cases h : m % 2 = 0
  · simp only [if_pos h]; rw [if_pos (by omega)]; omega
  · simp only [if_neg h]; rw [if_neg (by omega)]; omega
def I64 (n : Int) : Prop := -9223372036854775808 ≤ n ∧ n ≤ 9223372036854775807
theorem zg_lt {n : Int} (h : I64 n) : zg n < 18446744073709551616 := by
  obtain ⟨h1, h2⟩ := h
  unfold zg; split <;> omega
theorem ung_64 {m : Nat} (h : m < 18446744073709551616) : I64 (ung m) := by
  unfold ung I64; split <;> omega
mutual
/-- a right value's bytes -/
def enc : V → Bs
  | .mk k n s l => UInt8.ofNat k :: (if k = 2 then [UInt8.ofNat n.toNat] else if k = 3 then By.blob s.data.toList else if k = 4 then By.uv l.length ++ encL l else By.uv (zg n))
termination_by structural v => v
def encL : List V → Bs
  | [] => []
  | v :: l => enc v ++ encL l
termination_by structural l => l
end
mutual
/-- right but for how many there are -/
def okV : V → Nat → Bool
  | .mk k n s l, lv => decide (0 < lv) && (
    if k = 1 then s.size == 0 && l.isEmpty
    else if k = 2 then s.size == 0 && l.isEmpty && (n == 0 || n == 1)
    else if k = 5 then s.size == 0 && l.isEmpty && decide (0 ≤ n)
    else if k = 3 then n == 0 && l.isEmpty && decide (s.size ≤ 4096)
    else if k = 4 then n == 0 && s.size == 0 && okL l (lv - 1)
    else false)
termination_by structural v => v
def okL : List V → Nat → Bool
  | [], _ => true
  | v :: l, lv => okV v lv && okL l lv
termination_by structural l => l
end
mutual
def cnt : V → Nat
  | .mk _ _ _ l => 1 + cntL l
termination_by structural v => v
def cntL : List V → Nat
  | [] => 0
  | v :: l => cnt v + cntL l
termination_by structural l => l
end
def right (v : V) : Bool := okV v 16 && decide (cnt v ≤ 256)
mutual
/-- the program's own way: is it right, and how many may still come -/
def rgt : V → Nat → Int → Bool × Int
  | .mk k n s l, lv, left =>
    if k = 1 then (decide (0 ≤ left - 1) && decide (0 < lv) && (s.size == 0 && l.isEmpty), left - 1)
    else if k = 2 then (decide (0 ≤ left - 1) && decide (0 < lv) && (s.size == 0 && l.isEmpty) && (n == 0 || n == 1), left - 1)
    else if k = 5 then (decide (0 ≤ left - 1) && decide (0 < lv) && (s.size == 0 && l.isEmpty) && decide (0 ≤ n), left - 1)
    else if k = 3 then (decide (0 ≤ left - 1) && decide (0 < lv) && (n == 0) && l.isEmpty && decide (s.size ≤ 4096), left - 1)
    else if k = 4 then rgtL l (lv - 1) (decide (0 ≤ left - 1) && decide (0 < lv) && (n == 0) && (s.size == 0)) (left - 1)
    else (false, left - 1)
termination_by structural v => v
def rgtL : List V → Nat → Bool → Int → Bool × Int
  | [], _, ok, left => (ok, left)
  | v :: l, lv, ok, left => rgtL l lv (ok && (rgt v lv left).1) (if ok then (rgt v lv left).2 else left)
termination_by structural l => l
end
theorem rgtL_false : ∀ (l : List V) (lv : Nat) (left : Int), rgtL l lv false left = (false, left)
  | [], _, _ => rfl
  | v :: l, lv, left => by unfold rgtL; simp only [Bool.false_and, Bool.false_eq_true, if_false]; exact rgtL_false l lv left
def RgP (v : V) : Prop := ∀ (lv : Nat) (left : Int), 0 ≤ left → (okV v lv = true ∧ (cnt v : Int) ≤ left → rgt v lv left = (true, left - cnt v)) ∧ (¬ (okV v lv = true ∧ (cnt v : Int) ≤ left) → (rgt v lv left).1 = false ∧ -1 ≤ (rgt v lv left).2 ∧ (rgt v lv left).2 ≤ left)
theorem cnt_pos (v : V) : 1 ≤ cnt v := by cases v; unfold cnt; omega
theorem rgtL_ok : ∀ (l : List V), (∀ v ∈ l, RgP v) → ∀ (lv : Nat) (left : Int), 0 ≤ left → (okL l lv = true ∧ (cntL l : Int) ≤ left → rgtL l lv true left = (true, left - cntL l)) ∧ (¬ (okL l lv = true ∧ (cntL l : Int) ≤ left) → (rgtL l lv true left).1 = false ∧ -1 ≤ (rgtL l lv true left).2 ∧ (rgtL l lv true left).2 ≤ left)
  | [], _, lv, left, h0 => by
    unfold okL cntL rgtL
    exact ⟨fun _ => by simp, fun h => absurd ⟨rfl, by simpa using h0⟩ h⟩
  | v :: l, hP, lv, left, h0 => by
    have hv := hP v (List.mem_cons_self ..) lv left h0
    have ih := rgtL_ok l (fun u hu => hP u (List.mem_cons_of_mem _ hu)) lv
    unfold okL cntL rgtL
    by_cases h : okV v lv = true ∧ (cnt v : Int) ≤ left
    · rw [hv.1 h]
      simp only [Bool.true_and, if_true]
      have ih2 := ih (left - cnt v) (by omega)
      constructor
      · rintro ⟨h1, h2⟩
        rw [Bool.and_eq_true] at h1
        rw [ih2.1 ⟨h1.2, by push_cast at h2; omega⟩]
        congr 1; push_cast; omega
      · intro hn
        have := ih2.2 (fun ⟨h1, h2⟩ => hn ⟨by rw [h.1, h1]; rfl, by push_cast; omega⟩)
        refine ⟨this.1, this.2.1, ?_⟩
        have := this.2.2; have := cnt_pos v; omega
    · obtain ⟨h1, h2, h3⟩ := hv.2 h
      simp only [h1, Bool.and_false, if_true]
      rw [rgtL_false]
      refine ⟨fun ⟨a, b⟩ => ?_, fun _ => ⟨rfl, h2, h3⟩⟩
      exfalso
      rw [Bool.and_eq_true] at a
      push_cast at b
      exact h ⟨a.1, by omega⟩
theorem rgt_ok : ∀ v, RgP v := V.ind fun k n s l ih => by
  intro lv left h0
  have hL := rgtL_ok l ih (lv - 1) (left - 1)
  unfold okV cnt rgt
  have hc : l.isEmpty = true → cntL l = 0 := fun h => by
    have : l = [] := List.isEmpty_iff.1 h
    subst this; rfl
  by_cases h1 : k = 1
  · simp only [if_pos h1]
    refine ⟨fun ⟨a, b⟩ => ?_, fun hn => ⟨?_, by omega, by omega⟩⟩
    · simp only [Bool.and_eq_true, decide_eq_true_eq] at a
      rw [hc a.2.2] at b ⊢
      simp only [a.2.1, a.2.2, Bool.and_true, a.1, decide_true]
      push_cast at b
      rw [decide_eq_true (by omega)]; rfl
    · cases hx : (decide (0 ≤ left - 1) && decide (0 < lv) && (s.size == 0 && l.isEmpty)) with
      | false => rfl
      | true =>
        exfalso
        simp only [Bool.and_eq_true, decide_eq_true_eq] at hx
        exact hn ⟨by simp only [Bool.and_eq_true, decide_eq_true_eq]; exact ⟨hx.1.2, hx.2⟩, by rw [hc hx.2.2]; push_cast; omega⟩
  simp only [if_neg h1]
  by_cases h2 : k = 2
  · simp only [if_pos h2]
    refine ⟨fun ⟨a, b⟩ => ?_, fun hn => ⟨?_, by omega, by omega⟩⟩
    · simp only [Bool.and_eq_true, decide_eq_true_eq] at a
      rw [hc a.2.1.2] at b ⊢
      simp only [a.2.1.1, a.2.1.2, a.2.2, Bool.and_true, a.1, decide_true]
      push_cast at b
      rw [decide_eq_true (by omega)]; rfl
    · cases hx : (decide (0 ≤ left - 1) && decide (0 < lv) && (s.size == 0 && l.isEmpty) && (n == 0 || n == 1)) with
      | false => rfl
      | true =>
        exfalso
        simp only [Bool.and_eq_true, decide_eq_true_eq] at hx
        exact hn ⟨by simp only [Bool.and_eq_true, decide_eq_true_eq]; exact ⟨hx.1.1.2, hx.1.2, hx.2⟩, by rw [hc hx.1.2.2]; push_cast; omega⟩
  simp only [if_neg h2]
  by_cases h5 : k = 5
  · simp only [if_pos h5]
    refine ⟨fun ⟨a, b⟩ => ?_, fun hn => ⟨?_, by omega, by omega⟩⟩
    · simp only [Bool.and_eq_true, decide_eq_true_eq] at a
      rw [hc a.2.1.2] at b ⊢
      simp only [a.2.1.1, a.2.1.2, a.2.2, Bool.and_true, a.1, decide_true]
      push_cast at b
      rw [decide_eq_true (by omega)]; rfl
    · cases hx : (decide (0 ≤ left - 1) && decide (0 < lv) && (s.size == 0 && l.isEmpty) && decide (0 ≤ n)) with
      | false => rfl
      | true =>
        exfalso
        simp only [Bool.and_eq_true, decide_eq_true_eq] at hx
        exact hn ⟨by simp only [Bool.and_eq_true, decide_eq_true_eq]; exact ⟨hx.1.1.2, hx.1.2, hx.2⟩, by rw [hc hx.1.2.2]; push_cast; omega⟩
  simp only [if_neg h5]
  by_cases h3 : k = 3
  · simp only [if_pos h3]
    refine ⟨fun ⟨a, b⟩ => ?_, fun hn => ⟨?_, by omega, by omega⟩⟩
    · simp only [Bool.and_eq_true, decide_eq_true_eq] at a
      rw [hc a.2.1.2] at b ⊢
      simp only [a.2.1.1, a.2.1.2, a.2.2, Bool.and_true, a.1, decide_true]
      push_cast at b
      rw [decide_eq_true (by omega)]; rfl
    · cases hx : (decide (0 ≤ left - 1) && decide (0 < lv) && (n == 0) && l.isEmpty && decide (s.size ≤ 4096)) with
      | false => rfl
      | true =>
        exfalso
        simp only [Bool.and_eq_true, decide_eq_true_eq] at hx
        exact hn ⟨by simp only [Bool.and_eq_true, decide_eq_true_eq]; exact ⟨hx.1.1.1.2, ⟨hx.1.1.2, hx.1.2⟩, hx.2⟩, by rw [hc hx.1.2]; push_cast; omega⟩
  simp only [if_neg h3]
  by_cases h4 : k = 4
  · simp only [if_pos h4]
    by_cases hg : decide (0 ≤ left - 1) && decide (0 < lv) && (n == 0) && (s.size == 0)
    · rw [hg]
      simp only [Bool.and_eq_true, decide_eq_true_eq] at hg
      have hL2 := hL hg.1.1.1
      refine ⟨fun ⟨a, b⟩ => ?_, fun hn => ?_⟩
      · simp only [Bool.and_eq_true, decide_eq_true_eq] at a
        rw [hL2.1 ⟨a.2.2, by push_cast at b; omega⟩]
        congr 1; push_cast; omega
      · obtain ⟨q1, q2, q3⟩ := hL2.2 (fun ⟨a, b⟩ => hn ⟨by simp only [Bool.and_eq_true, decide_eq_true_eq]; exact ⟨hg.1.1.2, ⟨hg.1.2, hg.2⟩, a⟩, by push_cast; omega⟩)
        exact ⟨q1, q2, by omega⟩
    · have hg' : (decide (0 ≤ left - 1) && decide (0 < lv) && (n == 0) && (s.size == 0)) = false := by simpa using hg
      rw [hg', rgtL_false]
      refine ⟨fun ⟨a, b⟩ => ?_, fun _ => ⟨rfl, by omega, by omega⟩⟩
      exfalso
      simp only [Bool.and_eq_true, decide_eq_true_eq] at a
      push_cast at b
      rw [decide_eq_true a.1, a.2.1.1, a.2.1.2, decide_eq_true (show 0 ≤ left - 1 by omega)] at hg'
      cases hg'
  · simp only [if_neg h4]
    refine ⟨fun ⟨a, _⟩ => ?_, fun _ => ⟨trivial, by omega, by omega⟩⟩
    exfalso
    simp at a
/-- the program's way tells what is right -/
theorem rgt_right (v : V) : (rgt v 16 256).1 = right v := by
  have h := rgt_ok v 16 256 (by omega)
  unfold right
  by_cases hr : okV v 16 = true ∧ (cnt v : Int) ≤ 256
  · rw [h.1 hr, hr.1, decide_eq_true (by have := hr.2; omega)]; rfl
  · rw [(h.2 hr).1]
    cases h1 : okV v 16 with
    | false => rfl
    | true => rw [decide_eq_false (fun h2 => hr ⟨h1, by omega⟩)]; rfl
end Va
end Go.Proofs.Ytgamhgeiceakeaa
/- What a value's bytes say: what is told of any bytes is right and has these bytes; what was put is told. No program stands here. -/
set_option linter.unusedVariables false
set_option linter.unusedSimpArgs false
namespace Go.Proofs.Ytgamhgeiceakeaa
namespace Va
open By (Bs)
theorem guF_inv : ∀ (l : Bs) (i acc m c : Nat), i ≤ 9 → By.guF i acc l = (m, c, 0) → ∃ q, m = acc + q * 128 ^ i ∧ By.uvF (9 - i) q = l.take (c - i) ∧ (0 < i → 0 < q) ∧ q < 2 * 128 ^ (9 - i)
  | [], i, acc, m, c, _, h => by cases h
  | x :: r, i, acc, m, c, hi, h => by
    have hx := x.toNat_lt
    have hxo : UInt8.ofNat x.toNat = x := by simp
    unfold By.guF at h
    split at h
    · cases h
    · rename_i h1
      split at h
      · rename_i h2
        cases h
        refine ⟨x.toNat, by rw [Nat.mod_eq_of_lt h2], ?_, fun h0 => by omega, ?_⟩
        · rw [show i + 1 - i = 1 by omega]
          simp only [List.take_succ_cons, List.take_zero]
          rcases Nat.eq_zero_or_pos (9 - i) with h9 | h9
          · rw [h9]; unfold By.uvF; rw [hxo]
          · obtain ⟨f, hf⟩ : ∃ f, 9 - i = f + 1 := ⟨9 - i - 1, by omega⟩
            rw [hf]; unfold By.uvF; rw [if_pos h2, hxo]
        · rcases Nat.eq_zero_or_pos (9 - i) with h9 | h9
          · rw [h9]; simp; omega
          · have : 128 ^ 1 ≤ 128 ^ (9 - i) := Nat.pow_le_pow_right (by decide) h9
            omega
      · rename_i h2
        split at h
        · cases h
        · rename_i h3
          obtain ⟨q, e1, e2, e3, e4⟩ := guF_inv r (i + 1) _ m c (by omega) h
          have hlen := By.guF_len r (i + 1) _ (by rw [h])
          rw [h] at hlen
          simp only at hlen
          have hq := e3 (by omega)
          refine ⟨x.toNat % 128 + 128 * q, ?_, ?_, fun _ => by omega, ?_⟩
          · rw [e1, Nat.pow_succ, Nat.add_mul, ← Nat.add_assoc]; congr 1
            rw [Nat.mul_comm 128 q, Nat.mul_assoc, Nat.mul_comm 128]
          · obtain ⟨f, hf⟩ : ∃ f, 9 - i = f + 1 := ⟨9 - i - 1, by omega⟩
            rw [hf]
            unfold By.uvF
            rw [if_neg (by omega), show (x.toNat % 128 + 128 * q) / 128 = q by omega, show (x.toNat % 128 + 128 * q) % 128 + 128 = x.toNat by omega, hxo,
              show c - i = (c - (i + 1)) + 1 by omega, List.take_succ_cons, ← e2, show 9 - (i + 1) = f by omega]
          · have : 2 * 128 ^ (9 - i) = 128 * (2 * 128 ^ (9 - (i + 1))) := by
              rw [show 9 - i = (9 - (i + 1)) + 1 by omega, Nat.pow_succ]; omega
            omega
theorem gu_inv (l : Bs) (m c : Nat) (h : By.gu l = (m, c, 0)) : By.uv m = l.take c ∧ c ≤ l.length ∧ 0 < c ∧ m < 18446744073709551616 := by
  obtain ⟨q, e1, e2, e3, e4⟩ := guF_inv l 0 0 m c (by omega) h
  have hl := By.gu_len l (by rw [h])
  rw [h] at hl
  simp only at hl
  have hm : m = q := by simpa using e1
  subst hm
  refine ⟨e2, hl.1, hl.2, ?_⟩
  have : (128 : Nat) ^ (9 - 0) = 9223372036854775808 := By.pow9
  omega
theorem getBlob_inv (most : Nat) (l d : Bs) (c : Nat) (h : By.getBlob most l = (d, c, 0)) : By.blob d = l.take c ∧ c ≤ l.length ∧ d.length ≤ most ∧ 0 < c := by
  unfold By.getBlob at h
  rcases hg : By.gu l with ⟨m, c1, e⟩
  rw [hg] at h
  simp only at h
  split at h
  · rename_i h1; cases h; exact absurd rfl h1
  · rename_i h1
    have he : e = 0 := by omega
    subst he
    obtain ⟨g1, g2, g3, g4⟩ := gu_inv l m c1 hg
    split at h
    · cases h
    · rename_i h2
      split at h
      · cases h
      · rename_i h3
        cases h
        have hd : ((l.drop c1).take m).length = m := by rw [List.length_take, List.length_drop]; omega
        refine ⟨?_, by omega, by omega, by omega⟩
        unfold By.blob
        rw [hd, g1, List.take_add]
/-- what stands at a place: a value of so many levels, where so many may still come: it, the place behind, how many then -/
abbrev Rs := Except Nat (V × Nat × Nat)
def gvN (f : Nat → Nat → Rs) : Nat → Nat → Nat → List V → Except Nat (List V × Nat × Nat)
  | 0, at', left, acc => .ok (acc, at', left)
  | m + 1, at', left, acc => match f at' left with
    | .error e => .error e
    | .ok (v, at2, left2) => gvN f m at2 left2 (acc ++ [v])
def gv1 (f : Nat → Nat → Rs) (b : Bs) (at' left : Nat) : Rs :=
  if left = 0 then .error 13 else
  match b.drop at' with
  | [] => .error 11
  | x :: r =>
    if x.toNat = 1 ∨ x.toNat = 5 then (
      if (By.gu r).2.2 ≠ 0 then .error (By.gu r).2.2 else if x.toNat = 5 ∧ ung (By.gu r).1 < 0 then .error 13 else .ok (.mk x.toNat (ung (By.gu r).1) em [], at' + 1 + (By.gu r).2.1, left - 1))
    else if x.toNat = 2 then (
      match r with
      | [] => .error 11
      | y :: _ => if 1 < y.toNat then .error 10 else .ok (.mk 2 y.toNat em [], at' + 2, left - 1))
    else if x.toNat = 3 then (
      if (By.getBlob 4096 r).2.2 ≠ 0 then .error (By.getBlob 4096 r).2.2 else .ok (.mk 3 0 ⟨(By.getBlob 4096 r).1.toArray⟩ [], at' + 1 + (By.getBlob 4096 r).2.1, left - 1))
    else if x.toNat = 4 then (
      if (By.gu r).2.2 ≠ 0 then .error (By.gu r).2.2 else if 256 < (By.gu r).1 then .error 13 else
      match gvN f (By.gu r).1 (at' + 1 + (By.gu r).2.1) (left - 1) [] with
      | .error e => .error e
      | .ok (l, at2, left2) => .ok (.mk 4 0 em l, at2, left2))
    else .error 10
def gv (b : Bs) : Nat → Nat → Nat → Rs
  | 0, _, _ => .error 13
  | lv + 1, at', left => gv1 (gv b lv) b at' left
/-- Get -/
def get (b : Bs) (at' : Nat) : Rs := gv b 16 at' 256
theorem okL_iff (l : List V) (lv : Nat) : okL l lv = true ↔ ∀ v ∈ l, okV v lv = true := by
  induction l with
  | nil => unfold okL; simp
  | cons v l ih => unfold okL; rw [Bool.and_eq_true, ih]; simp
theorem encL_app (l r : List V) : encL (l ++ r) = encL l ++ encL r := by
  induction l with
  | nil => rfl
  | cons v l ih => show enc v ++ encL (l ++ r) = (enc v ++ encL l) ++ encL r; rw [ih, List.append_assoc]
theorem cntL_app (l r : List V) : cntL (l ++ r) = cntL l + cntL r := by
  induction l with
  | nil => show cntL r = 0 + cntL r; omega
  | cons v l ih => show cnt v + cntL (l ++ r) = (cnt v + cntL l) + cntL r; rw [ih]; omega
/-- what is told -/
def Told (b : Bs) (lv at' left : Nat) (r : Rs) : Prop := ∀ v at2 left2, r = .ok (v, at2, left2) → okV v lv = true ∧ left2 + cnt v = left ∧ at' < at2 ∧ at2 ≤ b.length ∧ enc v = (b.drop at').take (at2 - at')
theorem drop_take_add (b : Bs) (a c d : Nat) (h : a ≤ c) (h2 : c ≤ d) : (b.drop a).take (d - a) = (b.drop a).take (c - a) ++ (b.drop c).take (d - c) := by
  rw [show d - a = (c - a) + (d - c) by omega, List.take_add, List.drop_drop, show a + (c - a) = c by omega]
theorem gvN_told (b : Bs) (lv : Nat) (f : Nat → Nat → Rs) (hf : ∀ a left, a ≤ b.length → Told b lv a left (f a left)) : ∀ (m at' left : Nat) (acc : List V) (l : List V) (at2 left2 : Nat), at' ≤ b.length → gvN f m at' left acc = .ok (l, at2, left2) →
    ∃ l', l = acc ++ l' ∧ l'.length = m ∧ (∀ v ∈ l', okV v lv = true) ∧ left2 + cntL l' = left ∧ at' ≤ at2 ∧ at2 ≤ b.length ∧ encL l' = (b.drop at').take (at2 - at')
  | 0, at', left, acc, l, at2, left2, ha, h => by
    unfold gvN at h
    cases h
    exact ⟨[], by simp, rfl, by simp, by unfold cntL; omega, Nat.le_refl _, ha, by simp [encL]⟩
  | m + 1, at', left, acc, l, at2, left2, ha, h => by
    unfold gvN at h
    split at h
    · cases h
    · rename_i v a3 l3 heq
      obtain ⟨k1, k2, k3, k4, k5⟩ := hf at' left ha v a3 l3 heq
      obtain ⟨l', e1, e2, e3, e4, e5, e6, e7⟩ := gvN_told b lv f hf m a3 l3 _ l at2 left2 k4 h
      refine ⟨v :: l', by rw [e1]; simp, by simp [e2], fun u hu => ?_, by unfold cntL; omega, by omega, e6, ?_⟩
      · rcases List.mem_cons.1 hu with rfl | hu
        · exact k1
        · exact e3 u hu
      · unfold encL
        rw [k5, e7, ← drop_take_add b at' a3 at2 (by omega) e5]
theorem told_one {b r : Bs} {x : UInt8} {at' : Nat} (h : b.drop at' = x :: r) (c : Nat) (hc : c ≤ r.length) : at' + 1 + c ≤ b.length ∧ (b.drop at').take (at' + 1 + c - at') = x :: r.take c := by
  have hl := congrArg List.length h
  rw [List.length_drop, List.length_cons] at hl
  refine ⟨by omega, ?_⟩
  rw [h, show at' + 1 + c - at' = c + 1 by omega, List.take_succ_cons]
theorem gv_told (b : Bs) : ∀ (lv at' left : Nat), at' ≤ b.length → Told b lv at' left (gv b lv at' left)
  | 0, at', left, _ => fun v a2 l2 h => by unfold gv at h; cases h
  | lv + 1, at', left, ha => fun v a2 l2 h => by
    unfold gv gv1 at h
    split at h
    · cases h
    · rename_i hl0
      split at h
      · cases h
      · rename_i x r hd
        have hx := x.toNat_lt
        have hxo : UInt8.ofNat x.toNat = x := by simp
        split at h
        · rename_i hk
          split at h
          · cases h
          · rename_i he
            rcases hg : By.gu r with ⟨m, c, e⟩
            rw [hg] at h he
            simp only at h he
            have he0 : e = 0 := by omega
            subst he0
            obtain ⟨g1, g2, g3, g4⟩ := gu_inv r m c hg
            split at h
            · cases h
            · rename_i hneg
              cases h
              obtain ⟨t1, t2⟩ := told_one hd c g2
              refine ⟨?_, ?_, by omega, t1, ?_⟩
              · unfold okV
                rcases hk with hk | hk
                · simp [hk, em]
                · have : 0 ≤ ung m := by
                    rcases Int.lt_or_le (ung m) 0 with h | h
                    · exact absurd ⟨hk, h⟩ hneg
                    · exact h
                  simp [hk, em, this]
              · unfold cnt cntL; omega
              · rw [t2]
                unfold enc
                rw [hxo]
                congr 1
                rcases hk with hk | hk <;> simp [hk, zg_ung, g1]
        · rename_i hk1
          split at h
          · rename_i hk2
            split at h
            · cases h
            · rename_i y r'
              split at h
              · cases h
              · rename_i hy
                cases h
                obtain ⟨t1, t2⟩ := told_one hd 1 (by simp)
                refine ⟨?_, ?_, by omega, t1, ?_⟩
                · unfold okV
                  have : ((y.toNat : Int) == 0 || (y.toNat : Int) == 1) = true := by
                    simp only [Bool.or_eq_true, beq_iff_eq]; omega
                  simp [em, this]
                · unfold cnt cntL; omega
                · rw [show at' + 2 - at' = at' + 1 + 1 - at' by omega, t2]
                  unfold enc
                  have h2 : UInt8.ofNat 2 = x := by rw [← hk2]; exact hxo
                  simp [h2]
          · rename_i hk2
            split at h
            · rename_i hk3
              split at h
              · cases h
              · rename_i he
                rcases hg : By.getBlob 4096 r with ⟨d, c, e⟩
                rw [hg] at h he
                simp only at h he
                have he0 : e = 0 := by omega
                subst he0
                obtain ⟨g1, g2, g3, g4⟩ := getBlob_inv 4096 r d c hg
                cases h
                obtain ⟨t1, t2⟩ := told_one hd c g2
                refine ⟨?_, ?_, by omega, t1, ?_⟩
                · unfold okV
                  have : (⟨d.toArray⟩ : ByteArray).size ≤ 4096 := by simpa [ByteArray.size] using g3
                  simp [this]
                · unfold cnt cntL; omega
                · rw [t2]
                  unfold enc
                  have h2 : UInt8.ofNat 3 = x := by rw [← hk3]; exact hxo
                  simp [h2, g1]
            · rename_i hk3
              split at h
              · rename_i hk4
                split at h
                · cases h
                · rename_i he
                  rcases hg : By.gu r with ⟨m, c, e⟩
                  rw [hg] at h he
                  simp only at h he
                  have he0 : e = 0 := by omega
                  subst he0
                  obtain ⟨g1, g2, g3, g4⟩ := gu_inv r m c hg
                  split at h
                  · cases h
                  · rename_i hm
                    split at h
                    · cases h
                    · rename_i l a3 l3 heq
                      cases h
                      obtain ⟨t1, t2⟩ := told_one hd c g2
                      obtain ⟨l', e1, e2, e3, e4, e5, e6, e7⟩ := gvN_told b lv (gv b lv) (fun a lf hle => gv_told b lv a lf hle) m (at' + 1 + c) (left - 1) [] l a2 l2 t1 heq
                      rw [List.nil_append] at e1
                      subst e1
                      refine ⟨?_, ?_, by omega, e6, ?_⟩
                      · unfold okV
                        have : okL l lv = true := (okL_iff l lv).2 e3
                        simp [em, this]
                      · unfold cnt; omega
                      · rw [drop_take_add b at' (at' + 1 + c) a2 (by omega) e5, t2, ← e7]
                        unfold enc
                        have h2 : UInt8.ofNat 4 = x := by rw [← hk4]; exact hxo
                        simp [h2, e2, g1]
              · cases h
end Va
end Go.Proofs.Ytgamhgeiceakeaa
/- What was put is told: a right value's bytes say it, whatever stands ahead and behind. No program stands here. -/
set_option linter.unusedVariables false
set_option linter.unusedSimpArgs false
namespace Go.Proofs.Ytgamhgeiceakeaa
namespace Va
open By (Bs)
mutual
/-- its numbers are ones of 64 bits -/
def wf : V → Prop
  | .mk k n s l => k < 256 ∧ I64 n ∧ wfL l
termination_by structural v => v
def wfL : List V → Prop
  | [] => True
  | v :: l => wf v ∧ wfL l
termination_by structural l => l
end
theorem wfL_iff (l : List V) : wfL l ↔ ∀ v ∈ l, wf v := by
  induction l with
  | nil => unfold wfL; simp
  | cons v l ih => unfold wfL; rw [ih]; simp
theorem cntL_len (l : List V) : l.length ≤ cntL l := by
  induction l with
  | nil => unfold cntL; simp
  | cons v l ih => unfold cntL; have := cnt_pos v; simp; omega
def EncP (v : V) : Prop := ∀ (lv left : Nat) (b : Bs) (at' : Nat) (post : Bs), okV v lv = true → wf v → cnt v ≤ left → left ≤ 256 → b.drop at' = enc v ++ post → gv b lv at' left = .ok (v, at' + (enc v).length, left - cnt v)
theorem gvN_enc (b : Bs) (lv : Nat) : ∀ (l : List V), (∀ v ∈ l, EncP v) → ∀ (at' left : Nat) (acc : List V) (post : Bs), okL l lv = true → wfL l → cntL l ≤ left → left ≤ 256 → b.drop at' = encL l ++ post →
    gvN (gv b lv) l.length at' left acc = .ok (acc ++ l, at' + (encL l).length, left - cntL l)
  | [], _, at', left, acc, post, _, _, _, _, _ => by simp [gvN, encL, cntL]
  | v :: l, hP, at', left, acc, post, ho, hw, hc, hl, hb => by
    unfold okL at ho
    unfold wfL at hw
    unfold cntL at hc
    rw [Bool.and_eq_true] at ho
    unfold encL at hb
    rw [List.append_assoc] at hb
    have h1 := hP v (List.mem_cons_self ..) lv left b at' (encL l ++ post) ho.1 hw.1 (by omega) hl hb
    have hb2 : b.drop (at' + (enc v).length) = encL l ++ post := by rw [← List.drop_drop, hb, List.drop_left]
    have h2 := gvN_enc b lv l (fun u hu => hP u (List.mem_cons_of_mem _ hu)) (at' + (enc v).length) (left - cnt v) (acc ++ [v]) post ho.2 hw.2 (by omega) (by omega) hb2
    rw [List.length_cons]
    unfold gvN
    rw [h1]
    simp only
    rw [h2]
    rw [show encL (v :: l) = enc v ++ encL l from rfl, show cntL (v :: l) = cnt v + cntL l from rfl, List.length_append, List.append_assoc, Nat.add_assoc, Nat.sub_sub]
    rfl
theorem gv_enc : ∀ v, EncP v := V.ind fun k n s l ih => by
  intro lv left b at' post ho hw hc hl hb
  obtain ⟨lv', rfl⟩ : ∃ lv', lv = lv' + 1 := by
    unfold okV at ho
    rw [Bool.and_eq_true] at ho
    have := of_decide_eq_true ho.1
    exact ⟨lv - 1, by omega⟩
  have hcp := cnt_pos (.mk k n s l)
  unfold wf at hw
  obtain ⟨hk, hn, hwl⟩ := hw
  unfold okV at ho
  rw [Bool.and_eq_true] at ho
  have ho2 := ho.2
  clear ho
  unfold enc at hb ⊢
  unfold gv gv1
  rw [if_neg (by omega), hb, List.cons_append]
  have hkk : (UInt8.ofNat k).toNat = k := by rw [UInt8.toNat_ofNat']; omega
  simp only [hkk]
  have hcl : l.isEmpty = true → cnt (.mk k n s l) = 1 ∧ l = [] := fun h => by
    have : l = [] := List.isEmpty_iff.1 h
    subst this; exact ⟨rfl, rfl⟩
  by_cases h1 : k = 1
  · simp only [if_pos h1, Bool.and_eq_true, beq_iff_eq] at ho2
    obtain ⟨e1, e2⟩ := hcl ho2.2
    rw [e1, e2, em_of ho2.1]
    subst h1
    simp only [Nat.reduceEqDiff, if_false, if_true, true_or]
    rw [By.gu_uv _ (zg_lt hn)]
    simp [ung_zg]; omega
  by_cases h2 : k = 2
  · simp only [if_neg h1, if_pos h2, Bool.and_eq_true, beq_iff_eq, Bool.or_eq_true] at ho2
    obtain ⟨e1, e2⟩ := hcl ho2.1.2
    rw [e1, e2, em_of ho2.1.1]
    subst h2
    have hn2 : (UInt8.ofNat n.toNat).toNat = n.toNat := by rw [UInt8.toNat_ofNat']; omega
    have hn3 : ((n.toNat : Nat) : Int) = n := by omega
    simp [hn2, hn3]; omega
  by_cases h5 : k = 5
  · simp only [if_neg h1, if_neg h2, if_pos h5, Bool.and_eq_true, beq_iff_eq, decide_eq_true_eq] at ho2
    obtain ⟨e1, e2⟩ := hcl ho2.1.2
    rw [e1, e2, em_of ho2.1.1]
    subst h5
    simp only [Nat.reduceEqDiff, if_false, if_true, or_true, or_false]
    rw [By.gu_uv _ (zg_lt hn)]
    have : ¬ n < 0 := by omega
    simp [ung_zg, this]; omega
  by_cases h3 : k = 3
  · simp only [if_neg h1, if_neg h2, if_neg h5, if_pos h3, Bool.and_eq_true, beq_iff_eq, decide_eq_true_eq] at ho2
    obtain ⟨e1, e2⟩ := hcl ho2.1.2
    rw [e1, e2, ho2.1.1]
    subst h3
    have hs : s.data.toList.length ≤ 4096 := by
      show s.data.toList.length ≤ 4096
      rw [Array.length_toList]
      exact ho2.2
    simp only [Nat.reduceEqDiff, if_false, if_true, or_self]
    rw [By.getBlob_blob 4096 _ _ hs (by omega)]
    simp; omega
  by_cases h4 : k = 4
  · simp only [if_neg h1, if_neg h2, if_neg h5, if_neg h3, if_pos h4, Bool.and_eq_true, beq_iff_eq] at ho2
    subst h4
    rw [ho2.1.1, em_of ho2.1.2]
    unfold cnt at hc ⊢
    have hll := cntL_len l
    simp only [Nat.reduceEqDiff, if_false, if_true, or_self]
    have hbd : b.drop (at' + 1 + (By.uv l.length).length) = encL l ++ post := by
      rw [Nat.add_assoc, ← List.drop_drop, hb]
      simp only [Nat.reduceEqDiff, if_false, if_true]
      rw [List.cons_append, show 1 + (By.uv l.length).length = (By.uv l.length).length + 1 by omega, List.drop_succ_cons, List.append_assoc, List.drop_left]
    rw [List.append_assoc, By.gu_uv _ (by omega)]
    simp only
    rw [if_neg (by simp), if_neg (by omega), gvN_enc b lv' l ih (at' + 1 + (By.uv l.length).length) (left - 1) [] post ho2.2 hwl (by omega) (by omega) hbd]
    simp only [List.nil_append, List.length_cons, List.length_append]
    congr 3 <;> omega
  · simp [h1, h2, h5, h3, h4] at ho2
/-- what was put is told -/
theorem get_enc (v : V) (b : Bs) (at' : Nat) (post : Bs) (h : right v = true) (hw : wf v) (hb : b.drop at' = enc v ++ post) : get b at' = .ok (v, at' + (enc v).length, 256 - cnt v) := by
  unfold right at h
  rw [Bool.and_eq_true, decide_eq_true_eq] at h
  exact gv_enc v 16 256 b at' post h.1 hw h.2 (Nat.le_refl _) hb
/-- what is told is right, and put again is the same bytes -/
theorem get_right (b : Bs) (at' : Nat) (v : V) (at2 left2 : Nat) (ha : at' ≤ b.length) (h : get b at' = .ok (v, at2, left2)) : right v = true ∧ at' < at2 ∧ at2 ≤ b.length ∧ enc v = (b.drop at').take (at2 - at') := by
  obtain ⟨h1, h2, h3, h4, h5⟩ := gv_told b 16 at' 256 ha v at2 left2 h
  refine ⟨?_, h3, h4, h5⟩
  unfold right
  rw [h1, decide_eq_true (by omega)]; rfl
end Va
end Go.Proofs.Ytgamhgeiceakeaa
/- package bytes, what values ask of it: numbers and blobs, told and put, by contract. Printed by pick.py out of wip/frame's XBTwo..XBSix. -/
set_option linter.unusedVariables false
set_option linter.unusedSimpArgs false
namespace Go.Proofs.Ytgamhgeiceakeaa
open Go.RowKit
/-- what a slice of bytes reads as -/
def Rd (w : World) (ba : Option Addr) (l : List UInt8) : Prop := l = [] ∨ ∃ b o, ba = some (⟨b, o, none⟩ : Addr) ∧ b < w.heap.size ∧ ∀ i (h : i < l.length), w.cell? ⟨b, o + i, none⟩ = some (.int .u8 (l[i].toNat : Nat))
theorem Rd.below {w w' : World} {ba : Option Addr} {l : List UInt8} (h : Rd w ba l) (hb : Below w.heap.size w w') : Rd w' ba l := by
  rcases h with h | ⟨b, o, e, hlt, hc⟩
  · exact Or.inl h
  · refine Or.inr ⟨b, o, e, Nat.lt_of_lt_of_le hlt hb.size, fun i hi => ?_⟩
    rw [hb.cell (p := ⟨b, o + i, none⟩) hlt]; exact hc i hi
theorem Rd.take {w : World} {ba : Option Addr} {l : List UInt8} (h : Rd w ba l) (n : Nat) : Rd w ba (l.take n) := by
  rcases h with h | ⟨b, o, e, hlt, hc⟩
  · exact Or.inl (by rw [h]; simp)
  · refine Or.inr ⟨b, o, e, hlt, fun i hi => ?_⟩
    rw [List.length_take] at hi
    rw [hc i (by omega), List.getElem_take]
theorem Rd.drop {w : World} {b o : Nat} {l : List UInt8} (h : Rd w (some ⟨b, o, none⟩) l) (n : Nat) : Rd w (some ⟨b, o + n, none⟩) (l.drop n) := by
  rcases h with h | ⟨b, o, e, hlt, hc⟩
  · exact Or.inl (by rw [h]; simp)
  · cases e
    refine Or.inr ⟨b, o + n, rfl, hlt, fun i hi => ?_⟩
    rw [List.length_drop] at hi
    rw [Nat.add_assoc, hc (n + i) (by omega), List.getElem_drop]
theorem ret_int {k : IntKind} {a b : Int} (h : a = b) : Ending.returned (.int k a) = .returned (.int k b) := by rw [h]
theorem addPl (B o j : Nat) : (⟨B, o, none⟩ : Addr).add j = ⟨B, o + j, none⟩ := by
  unfold Addr.add
  split
  · subst_vars; rfl
  · rfl
theorem cells_new (w : World) (vs : Array Value) (T : TypeId) (b : Nat) (hb : b = w.heap.size) (j : Nat) (u : Value) (h : vs[j]? = some u) : (w.alloc (.cells vs T)).cell? ((⟨b, 0, none⟩ : Addr).add j) = some u := by
  subst hb
  rw [addPl, Nat.zero_add]
  have hb : (w.alloc (.cells vs T)).heap[w.heap.size]? = some (.cells vs T) := heap_alloc_new _ _
  simp only [World.cell?, hb]; simp [h]
/-- a copy in memory of its own -/
def ClPost (ba : Option Addr) (l : List UInt8) (w : World) (e : Ending) (w' : World) : Prop := ∃ v', e = .returned v' ∧ Ow w' w.heap.size v' l ∧ Below w.heap.size w w' ∧ (v' = .slice none 0 0 ↔ ba = none)
set_option maxHeartbeats 1600000 in
set_option maxRecDepth 100000 in
theorem clone_any (ba : Option Addr) (n cap : Nat) (l : List UInt8) (w : World) (hn : l.length = n) (hr : Rd w ba l) (hb : ba = none → n = 0) (hl : n ≤ 1099511627776) :
    Calls Try.prog 66 #[.slice ba n cap] w (ClPost ba l w) := by
  subst hn
  have q22 : ∀ (w : World) (a : Option Addr) (n c n' c' : Nat), (binOp .eql 27 (.slice a n c) (.slice none n' c')).run Try.prog w = .ok (.bool a.isNone) w := fun w a n c n' c' => Lib.run_eql_slice_nil w _ _ a n c n' c' Try.underlying27
  obtain ⟨i0, hi, hz0, hz1, hz2⟩ := info_parts Try.info_u8
  have HR := Lib.hid hr
  clear hr
  cases ba with
  | none =>
    have h0 := hb rfl
    have hl0 : l = [] := List.eq_nil_of_length_eq_zero h0
    have HL := Lib.hid hl0
    clear h0 hl0 hb
    go_enter Try.func66, Try.ntmps66
    go_wp2
    go_ret
    exact ⟨_, rfl, by rw [HL.out]; exact Ow.nil _ _, Below.refl _ _, Iff.intro (fun _ => rfl) (fun _ => rfl)⟩
  | some a0 =>
    clear hb
    go_enter Try.func66, Try.ntmps66
    go_wp2_with (at_builtin; refine wpList_append_gw _ rfl _ _ 27 rfl w.heap.size 5 i0 (.int .u8 0) 1 1 Try.underlying27 hi hz0 hz1 hz2 rfl (by decide) _ 0 [] rfl (World.ownsRow_made w #[] 0 (Nat.le_refl _) (Nat.zero_le _) rfl) a0 l.length cap (u8s l) rfl ?c0 ?c1 ?c2 ?c3 ?c4 ?c5 ?_)
    case c0 => rw [u8s_len]; omega
    case c1 =>
      intro j u hj
      have hjl : j < l.length := by have := (List.getElem?_eq_some_iff.1 hj).1; rw [u8s_len] at this; exact this
      rcases HR.out with h | ⟨b, o, e, hlt, hc⟩
      · rw [h] at hjl; simp at hjl
      · cases e
        rw [Addr.add_lit]
        rw [((Below.refl w.heap.size w).alloc (Nat.le_refl _) _).cell (p := ⟨b, o + j, none⟩) hlt, hc j hjl, ← hj]
        unfold u8s; simp [hjl]
    case c2 => exact u8s_one l
    case c3 => unfold maxLen; omega
    case c4 => omega
    case c5 => simp
    intro v' w1 hown' hgrow hnn
    have hown1 : Ow w1 w.heap.size v' l := by unfold Ow; simpa using hown'
    have hb1 : Below w.heap.size w w1 := ((Below.refl _ w).alloc (Nat.le_refl _) _).grown hgrow.grown (by simp) (by intro k hk; simp [Value.ownBlock] at hk; omega)
    have hnn1 : v' ≠ .slice none 0 0 := hnn
    have HO1 := Lib.hid hown1
    have HB1 := Lib.hid hb1
    have HN1 := Lib.hid hnn1
    clear hown' hgrow hnn hown1 hb1 hnn1
    go_wp2
    go_ret
    exact ⟨_, rfl, HO1.out, HB1.out, Iff.intro (fun e => absurd e HN1.out) (fun e => by cases e)⟩
theorem belowN {B : Nat} {a w : World} (h : Below B a w) (n : Nat) : Below B a (w.drewN n) := h.trans ⟨rfl, rfl, rfl, Nat.le_refl _, fun _ _ => rfl⟩
theorem quiet_flip {P : Program} {f : FuncId} {args : Array Value} {w : World} {v : Value} (h : Calls P f args w fun e w' => e = .returned v ∧ w = w') : Calls P f args w fun e w' => e = .returned v ∧ w' = w := h.mono fun _ _ ⟨a, b⟩ => ⟨a, b.symm⟩
/-- a row of its own, told whole -/
def NewPost (l : List UInt8) (w : World) (e : Ending) (w' : World) : Prop := ∃ v', e = .returned v' ∧ Ow w' w.heap.size v' l ∧ Below w.heap.size w w' ∧ v' ≠ .slice none 0 0
theorem Ow.mono {w : World} {B B' : Nat} {v : Value} {l : List UInt8} (h : Ow w B v l) (hB : B' ≤ B) : Ow w B' v l := by
  refine ⟨h.1, ?_⟩
  rcases h.2 with h1 | ⟨g, cap, cur, h1, h2, h3⟩
  · exact Or.inl h1
  · exact Or.inr ⟨g, cap, cur, h1, Nat.le_trans hB h2, h3⟩
/-- a result that is a row of its own, and an error -/
def NewErr (l : List UInt8) (er : Nat) (w : World) (e : Ending) (w' : World) : Prop := ∃ v', e = .returned (.tuple #[v', .int .i64 er]) ∧ Ow w' w.heap.size v' l ∧ Below w.heap.size w w'
/-- what GetUint tells of what stands at a place -/
def GuPost (l : List UInt8) (at' : Nat) (w : World) (e : Ending) (w' : World) : Prop :=
  e = .returned (.tuple #[.int .u64 (if (By.gu (l.drop at')).2.2 = 0 then (By.gu (l.drop at')).1 else 0 : Nat), .int .i64 (if (By.gu (l.drop at')).2.2 = 0 then at' + (By.gu (l.drop at')).2.1 else 0 : Nat), .int .i64 (By.gu (l.drop at')).2.2]) ∧ w = w'
theorem gu_post {l : List UInt8} {at' n c er : Nat} {w : World} (h : By.gu (l.drop at') = (n, c, er)) (hz : er ≠ 0 → n = 0) : GuPost l at' w (.returned (.tuple #[.int .u64 n, .int .i64 (if er = 0 then at' + c else 0 : Nat), .int .i64 er])) w := by
  unfold GuPost
  rw [h]
  refine ⟨?_, rfl⟩
  by_cases he : er = 0
  · simp only [if_pos he]
  · simp only [if_neg he]; rw [hz he]
theorem p7 (j : Nat) : (128 : Nat) ^ j = 2 ^ (7 * j) := by rw [Nat.pow_mul]
theorem acc_lt (acc y j : Nat) (h : acc < 2 ^ (7 * j)) (hy : y < 128) : acc + y * 128 ^ j < 2 ^ (7 * (j + 1)) := by
  rw [← p7] at h ⊢
  rw [Nat.pow_succ, Nat.mul_comm (128 ^ j)]
  have : y * 128 ^ j ≤ 127 * 128 ^ j := Nat.mul_le_mul_right _ (by omega)
  omega
theorem or_step (acc y j : Nat) (hj : j ≤ 9) (h : acc < 2 ^ (7 * j)) (hy : y < 128) (h9 : j = 9 → y ≤ 1) :
    bits .or .u64 (acc : Int) (IntKind.u64.wrap ((y : Int) * 2 ^ (7 * j))) = ((acc + y * 128 ^ j : Nat) : Int) := by
  have hp : ((2 : Int) ^ (7 * j)) = ((2 ^ (7 * j) : Nat) : Int) := by rw [Int.natCast_pow]; rfl
  have hq : (2 : Nat) ^ (7 * j) ≤ 9223372036854775808 := by
    have := Nat.pow_le_pow_right (show 0 < 2 by decide) (show 7 * j ≤ 63 by omega)
    exact Nat.le_trans this (by decide)
  have hyx : y * 2 ^ (7 * j) < 18446744073709551616 := by
    by_cases e : j = 9
    · have := Nat.mul_le_mul_right (2 ^ (7 * j)) (h9 e); omega
    · have h2 : (2 : Nat) ^ (7 * j) ≤ 72057594037927936 := by
        have := Nat.pow_le_pow_right (show 0 < 2 by decide) (show 7 * j ≤ 56 by omega)
        exact Nat.le_trans this (by decide)
      have := Nat.mul_le_mul (show y ≤ 127 by omega) h2
      omega
  rw [hp, ← Int.natCast_mul, wraps_u64 _ (by omega) (by omega)]
  rw [bits_join_low .u64 64 (by decide) wraps_u64 (7 * j) _ _ (by omega) (by rw [hp]; omega) (by omega) (by omega) (by rw [hp, ← Int.natCast_emod, Nat.mul_mod_left]; rfl) (by omega), p7]
  omega
set_option maxHeartbeats 1600000 in
set_option maxRecDepth 100000 in
theorem getUint_any (ba : Option Addr) (n cap : Nat) (l : List UInt8) (at' : Nat) (w : World) (hn : l.length = n) (hr : Rd w ba l) (ha : at' ≤ n) (hl : n ≤ 1099511627776) :
    Calls Try.prog 71 #[.slice ba n cap, .int .i64 at'] w (GuPost l at' w) := by
  have HR := Lib.hid hr
  have HN := Lib.hid hn
  have b1 : ¬ (n : Int) < (at' : Int) := by omega
  clear hr hn
  go_enter Try.func71, Try.ntmps71
  go_wp2_with fail
  go_loop [7, 18] (fun nv iv => ∃ j acc : Nat, j ≤ 9 ∧ at' + j ≤ n ∧ iv = .int .i64 j ∧ nv = .int .u64 acc ∧ acc < 2 ^ (7 * j) ∧ By.gu (l.drop at') = By.guF j acc (l.drop (at' + j))) (fun _ i => 10 - (intOf i).toNat)
  case atStart => exact ⟨0, 0, by omega, by omega, rfl, rfl, by decide, rfl⟩
  case round =>
    obtain ⟨j, acc, hj, haj, rfl, rfl, hacc, hgu⟩ := hrel
    have HG := Lib.hid hgu
    have HACC := Lib.hid hacc
    clear hgu hacc
    by_cases hend : at' + j = n
    · have hfin : By.gu (l.drop at') = (0, 0, 11) := by
        rw [HG.out, List.drop_of_length_le (by have := HN.out; omega)]; rfl
      have HF := Lib.hid hfin
      have k1 : ((at' : Int) + (j : Int) == (n : Int)) = true := beqI (by omega)
      clear hfin
      go_wp2
      go_ret3
      exact gu_post HF.out (fun _ => rfl)
    · obtain ⟨b, o, rfl, hlt, hcell⟩ : ∃ b o, ba = some (⟨b, o, none⟩ : Addr) ∧ b < w.heap.size ∧ ∀ i (h : i < l.length), w.cell? ⟨b, o + i, none⟩ = some (.int .u8 (l[i].toNat : Nat)) := by
        rcases HR.out with h | h
        · have := HN.out; rw [h] at this; simp at this; omega
        · exact h
      have hlt2 : at' + j < l.length := by have := HN.out; omega
      have hc1 := hcell (at' + j) hlt2
      have hdr := List.drop_eq_getElem_cons hlt2
      have hx : l[at' + j].toNat < 256 := l[at' + j].toNat_lt
      generalize l[at' + j] = x at hc1 hdr hx
      have hgu2 := HG.out
      rw [hdr] at hgu2
      unfold By.guF at hgu2
      have k1 : ((at' : Int) + (j : Int) == (n : Int)) = false := bneI (by omega)
      clear hcell hdr
      by_cases hbad : (j = 9 ∧ 1 < x.toNat) ∨ (x.toNat = 0 ∧ 0 < j)
      · rw [if_pos hbad] at hgu2
        have HF := Lib.hid hgu2
        clear hgu2
        by_cases h9 : j = 9 ∧ 1 < x.toNat
        · obtain ⟨rfl, h1⟩ := h9
          have i1 : (1 : Int) < (x.toNat : Int) := by omega
          clear hbad
          go_wp2
          go_ret3
          exact gu_post HF.out (fun _ => rfl)
        · obtain ⟨h0, h1⟩ : x.toNat = 0 ∧ 0 < j := by omega
          have i1 : (((x.toNat : Nat) : Int) == 0) = true := beqI (by omega)
          have i2 : decide ((1 : Int) < (x.toNat : Int)) = false := by simp; omega
          clear hbad h9
          by_cases h9 : j = 9
          · subst h9
            go_wp2
            go_ret3
            exact gu_post HF.out (fun _ => rfl)
          · have i3 : ((j : Int) == 9) = false := bneI (by omega)
            go_wp2
            go_ret3
            exact gu_post HF.out (fun _ => rfl)
      · rw [if_neg hbad] at hgu2
        have hcase : (j = 9 ∧ x.toNat = 1) ∨ (j = 0 ∧ x.toNat = 0) ∨ (¬ j = 9 ∧ ¬ x.toNat = 0) := by omega
        have ham : bits .and .u8 ((x.toNat : Nat) : Int) 127 = (x.toNat : Int) % 128 := u8_and127 _ (by omega) (by omega)
        have hor := or_step acc (x.toNat % 128) j hj HACC.out (by omega) (by omega)
        have hlt' : acc + x.toNat % 128 * 128 ^ j < 2 ^ (7 * (j + 1)) := acc_lt acc (x.toNat % 128) j HACC.out (by omega)
        rw [Int.natCast_emod, show ((128 : Nat) : Int) = 128 from rfl] at hor
        generalize acc + x.toNat % 128 * 128 ^ j = A at hgu2 hor hlt'
        have HLT := Lib.hid hlt'
        clear hlt'
        by_cases h128 : x.toNat < 128
        · rw [if_pos h128] at hgu2
          have HF := Lib.hid hgu2
          clear hgu2
          rcases hcase with ⟨h9, h1⟩ | ⟨h9, h1⟩ | ⟨h9, h1⟩
          · have i3 : ((j : Int) == 9) = true := beqI (by omega)
            have i4 : (((x.toNat : Nat) : Int) == 0) = false := bneI (by omega)
            have i2 : decide ((1 : Int) < (x.toNat : Int)) = false := by simp; omega
            clear hbad h1 h9
            go_wp2
            go_ret3
            exact gu_post HF.out (fun h => absurd rfl h)
          · have i3 : ((j : Int) == 9) = false := bneI (by omega)
            have i4 : (((x.toNat : Nat) : Int) == 0) = true := beqI (by omega)
            have i2 : decide (0 < j) = false := by simp; omega
            have i5 : ¬ 0 < j := by omega
            clear hbad h1 h9
            go_wp2
            go_ret3
            exact gu_post HF.out (fun h => absurd rfl h)
          · have i3 : ((j : Int) == 9) = false := bneI (by omega)
            have i4 : (((x.toNat : Nat) : Int) == 0) = false := bneI (by omega)
            clear hbad h1 h9
            go_wp2
            go_ret3
            exact gu_post HF.out (fun h => absurd rfl h)
        · have h9 : ¬ j = 9 := by omega
          rw [if_neg h128, if_neg h9] at hgu2
          have HF := Lib.hid hgu2
          have i3 : ((j : Int) == 9) = false := bneI (by omega)
          have i4 : (((x.toNat : Nat) : Int) == 0) = false := bneI (by omega)
          clear hgu2 hbad hcase
          go_wp2
          go_round
          case rel => exact ⟨j + 1, A, by omega, by omega, by go_num, rfl, HLT.out, by rw [HF.out, Nat.add_assoc]⟩
          case measure => simp [intOf]; omega
/-- what GetBlob tells of what stands at a place -/
def GbPost (l : List UInt8) (at' most : Nat) (w : World) (e : Ending) (w' : World) : Prop :=
  ∃ v', e = .returned (.tuple #[v', .int .i64 (if (By.getBlob most (l.drop at')).2.2 = 0 then at' + (By.getBlob most (l.drop at')).2.1 else 0 : Nat), .int .i64 (By.getBlob most (l.drop at')).2.2]) ∧ Ow w' w.heap.size v' (By.getBlob most (l.drop at')).1 ∧ Below w.heap.size w w'
theorem gb_post {l : List UInt8} {at' most c er : Nat} {w w' : World} {v : Value} {d : List UInt8} {nx : Nat} (h : By.getBlob most (l.drop at') = (d, c, er)) (hx : nx = if er = 0 then at' + c else 0) (ho : Ow w' w.heap.size v d) (hb : Below w.heap.size w w') : GbPost l at' most w (.returned (.tuple #[v, .int .i64 nx, .int .i64 er])) w' := by
  unfold GbPost
  rw [h, hx]
  exact ⟨v, rfl, ho, hb⟩
set_option maxHeartbeats 1600000 in
set_option maxRecDepth 100000 in
theorem getBlob_any (ba : Option Addr) (n cap : Nat) (l : List UInt8) (at' most : Nat) (w : World) (hn : l.length = n) (hr : Rd w ba l) (hb : ba = none → n = 0) (ha : at' ≤ n) (hc : n ≤ cap) (hl : n ≤ 1099511627776) (hm : most ≤ 1099511627776) :
    Calls Try.prog 73 #[.slice ba n cap, .int .i64 at', .int .i64 most] w (GbPost l at' most w) := by
  have c1 := getUint_any ba n cap l at' w hn hr ha hl
  have hgl := By.gu_len (l.drop at')
  have hgb : By.getBlob most (l.drop at') = if (By.gu (l.drop at')).2.2 ≠ 0 then ([], 0, (By.gu (l.drop at')).2.2) else if most < (By.gu (l.drop at')).1 then ([], 0, 3) else if (l.drop at').length - (By.gu (l.drop at')).2.1 < (By.gu (l.drop at')).1 then ([], 0, 11) else
    (((l.drop at').drop (By.gu (l.drop at')).2.1).take (By.gu (l.drop at')).1, (By.gu (l.drop at')).2.1 + (By.gu (l.drop at')).1, 0) := rfl
  unfold GuPost at c1
  generalize By.gu (l.drop at') = r at c1 hgl hgb
  obtain ⟨N, c, er⟩ := r
  simp only at c1 hgl hgb
  rw [List.length_drop, hn] at hgl hgb
  have HR := Lib.hid hr
  have HN := Lib.hid hn
  by_cases he : er = 0
  · subst he
    obtain ⟨g1, g2⟩ := hgl rfl
    rw [if_neg (by simp)] at hgb
    simp only [if_true] at c1
    have C1 := Lib.hid c1
    have hnx : at' + c ≤ n := by omega
    have hN : 0 ≤ (N : Int) := by omega
    clear c1 hr hn hgl
    by_cases h1 : most < N
    · rw [if_pos h1] at hgb
      have HG := Lib.hid hgb
      have i1 : (most : Int) < (N : Int) := by omega
      clear hgb
      go_enter Try.func73, Try.ntmps73
      go_wp2_with fail
      with_reducible refine (C1.out).mono ?_
      rintro e w1 ⟨rfl, rfl⟩
      go_wp2
      go_ret3
      exact gb_post HG.out rfl (Ow.nil _ _) (Below.refl _ _)
    · rw [if_neg h1] at hgb
      have i1 : ¬ (most : Int) < (N : Int) := by omega
      by_cases h2 : n - at' - c < N
      · rw [if_pos h2] at hgb
        have HG := Lib.hid hgb
        have i2 : (n : Int) - ((at' + c : Nat) : Int) < (N : Int) := by omega
        clear hgb
        go_enter Try.func73, Try.ntmps73
        go_wp2_with fail
        with_reducible refine (C1.out).mono ?_
        rintro e w1 ⟨rfl, rfl⟩
        go_wp2
        go_ret3
        exact gb_post HG.out rfl (Ow.nil _ _) (Below.refl _ _)
      · rw [if_neg h2, List.drop_drop] at hgb
        obtain ⟨b, o, rfl, hlt, hcell⟩ : ∃ b o, ba = some (⟨b, o, none⟩ : Addr) ∧ b < w.heap.size ∧ ∀ i (h : i < l.length), w.cell? ⟨b, o + i, none⟩ = some (.int .u8 (l[i].toNat : Nat)) := by
          rcases HR.out with h | h
          · have := HN.out; rw [h] at this; simp at this; omega
          · exact h
        have HG := Lib.hid hgb
        have hlen : ((l.drop (at' + c)).take N).length = N := by rw [List.length_take, List.length_drop, HN.out]; omega
        have i2 : ¬ (n : Int) - ((at' : Int) + (c : Int)) < (N : Int) := by omega
        clear hgb hcell
        by_cases hcap : cap = at' + c
        · obtain rfl : N = 0 := by omega
          subst hcap
          have cl := clone_any (some ⟨b, o, none⟩) 0 0 ((l.drop (at' + c)).take 0) w hlen (Or.inl rfl) (fun h => by cases h) (by omega)
          have CL := Lib.hid cl
          clear cl hlen
          go_enter Try.func73, Try.ntmps73
          go_wp2_with fail
          with_reducible refine (C1.out).mono ?_
          rintro e w1 ⟨rfl, rfl⟩
          go_wp2_with fail
          with_reducible refine (CL.out).mono ?_
          rintro e w2 ⟨v2, rfl, ho2, hb2, _⟩
          have HO2 := Lib.hid ho2
          have HB2 := Lib.hid hb2
          clear ho2 hb2
          go_wp2
          go_ret3
          exact gb_post HG.out (by rw [if_pos rfl]; omega) HO2.out HB2.out
        · have cl := clone_any (some ⟨b, o + (at' + c), none⟩) N (cap - (at' + c)) ((l.drop (at' + c)).take N) w hlen (Rd.take (Rd.drop HR.out _) _) (fun h => by cases h) (by omega)
          have CL := Lib.hid cl
          clear cl hlen
          go_enter Try.func73, Try.ntmps73
          go_wp2_with fail
          with_reducible refine (C1.out).mono ?_
          rintro e w1 ⟨rfl, rfl⟩
          go_wp2_with fail
          with_reducible refine (CL.out).mono ?_
          rintro e w2 ⟨v2, rfl, ho2, hb2, _⟩
          have HO2 := Lib.hid ho2
          have HB2 := Lib.hid hb2
          clear ho2 hb2
          go_wp2
          go_ret3
          exact gb_post HG.out (by rw [if_pos rfl]; omega) HO2.out HB2.out
  · have HG : Hid (By.getBlob most (l.drop at') = ([], 0, er)) := Lib.hid (by rw [hgb, if_pos he])
    simp only [if_neg he] at c1
    have C1 := Lib.hid c1
    have hE : ((er : Int) != 0) = true := by rw [bne_iff_ne]; omega
    clear c1 hr hn hgl hgb
    go_enter Try.func73, Try.ntmps73
    go_wp2_with fail
    with_reducible refine (C1.out).mono ?_
    rintro e w1 ⟨rfl, rfl⟩
    go_wp2
    go_ret3
    exact gb_post HG.out (by rw [if_neg he]) (Ow.nil _ _) (Below.refl _ _)
set_option maxHeartbeats 1600000 in
set_option maxRecDepth 100000 in
theorem blobPut_any (B : Nat) (v : Value) (l : List UInt8) (ba : Option Addr) (n cap : Nat) (d : List UInt8) (w : World) (hn : d.length = n) (hr : Rd w ba d) (hb : ba = none → n = 0) (ho : Ow w B v l) (hB : B ≤ w.heap.size) (hl : l.length ≤ 549755813888) (hd : n ≤ 549755813888)
    (hap : ∀ i b o, v.ownBlock = some i → ba = some (⟨b, o, none⟩ : Addr) → d ≠ [] → b ≠ i) :
    Calls Try.prog 52 #[v, .slice ba n cap] w (OwPost B v (l ++ By.blob d) w) := by
  obtain ⟨i0, hi, hz0, hz1, hz2⟩ := info_parts Try.info_u8
  have HR := Lib.hid hr
  have HN := Lib.hid hn
  have HA := Lib.hid hap
  have HBA := Lib.hid hb
  have c1 := uint_any B v l n w (by omega) ho hB (by omega)
  have C1 := Lib.hid c1
  have HO := Lib.hid ho
  clear hr hn ho hap hb c1
  go_enter Try.func52, Try.ntmps52
  go_wp2_with fail
  with_reducible refine (C1.out).mono ?_
  rintro e w1 ⟨v1, rfl, ho1, hg1, hn1⟩
  have HO1 := Lib.hid ho1
  have HG1 := Lib.hid hg1
  have hul := (By.uv_len n).1
  have HN1 : Hid (v1 ≠ .slice none 0 0) := Lib.hid (hn1 (by
    intro h
    have h2 := congrArg List.length h
    have := (By.uv_len n).2
    rw [List.length_append] at h2
    simp only [List.length_nil] at h2; omega))
  clear ho1 hg1 hn1
  go_wp2_with (at_builtin; refine wpList_append_rd _ rfl _ _ 27 rfl B 5 i0 (.int .u8 0) 1 1 Try.underlying27 hi hz0 hz1 hz2 rfl (by decide) v1 (l ++ By.uv n).length (u8s (l ++ By.uv n)) rfl HO1.out ba n cap (u8s d) rfl ?c0 HBA.out ?c1 (u8s_one d) ?c3 ?c4 ?c5 ?_)
  case c0 => rw [u8s_len, HN.out]; omega
  case c1 =>
    intro ad he j u hj
    have hjl : j < d.length := by have := (List.getElem?_eq_some_iff.1 hj).1; rw [u8s_len] at this; exact this
    rcases HR.out with h | ⟨b, o, e, hlt, hc⟩
    · rw [h] at hjl; simp at hjl
    · rw [he] at e; cases e
      have hblk := HG1.out.grown.block b hlt (fun e => HA.out b b o e.symm he (by intro h; rw [h] at hjl; simp at hjl) rfl)
      rw [addPl, World.cell?_of_block (w := w) hblk, hc j hjl, ← hj]
      unfold u8s; simp [hjl]
  case c3 => rw [List.length_append]; unfold maxLen; omega
  case c4 => rw [List.length_append]; omega
  case c5 => exact Nat.le_trans hB HG1.out.grown.size
  intro v2 w2 ho2 hg2 hn2
  have hown2 : Ow w2 B v2 (l ++ By.blob d) := by
    obtain rfl := HN.out
    unfold Ow By.blob
    rw [← List.append_assoc, u8s_app, show ((l ++ By.uv d.length) ++ d).length = l.length + (By.uv d.length).length + d.length by rw [List.length_append, List.length_append]]
    exact ho2
  have HO2 := Lib.hid hown2
  have HG2 := Lib.hid (HG1.out.trans hg2)
  have HN2 : Hid (v2 ≠ .slice none 0 0) := Lib.hid (fun e => HN1.out (hn2.1 e).1)
  clear ho2 hg2 hn2 hown2
  go_wp2
  go_ret
  exact ⟨_, rfl, HO2.out, HG2.out, fun _ => HN2.out⟩
end Go.Proofs.Ytgamhgeiceakeaa
/- A region that draws its order, where one condition on the world holds till the last operation that writes: copies and loads are taken first. -/
set_option linter.unusedVariables false
set_option linter.unusedSimpArgs false
namespace Go.Proofs.Ytgamhgeiceakeaa
section
variable {P : Program} {ops : Array Oper} {Q : Exit → Act → World → Prop} {md : Region.Mode} {S : World → Prop} {k : Nat}
/-- whatever comes up: the condition holds till number k has come up -/
def wpAnyT (P : Program) (md : Region.Mode) (ops : Array Oper) (Q : Exit → Act → World → Prop) (S : World → Prop) (k : Nat) : Nat → Array Bool → Act → World → Prop
  | 0, listed, a, w => Region.ready md ops listed = [] ∧ Q .normal a w
  | fuel + 1, listed, a, w =>
    (Region.ready md ops listed = [] → Q .normal a w) ∧
    ∀ i ∈ Region.ready md ops listed, wpOp P ops Q i (fun a' w' => ((listed.setIfInBounds i true).getD k false = false → S w') ∧ wpAnyT P md ops Q S k fuel (listed.setIfInBounds i true) a' w') a w
theorem wpAny_of_T : ∀ (fuel : Nat) (listed : Array Bool) (a : Act) (w : World), wpAnyT P md ops Q S k fuel listed a w → wpAny P md ops Q fuel listed a w
  | 0, _, _, _, h => h
  | fuel + 1, _, _, _, h => ⟨h.1, fun i hi => wpOp_mono (fun a' w' h' => wpAny_of_T fuel _ a' w' h'.2) (h.2 i hi)⟩
theorem getD_ne {l : Array Bool} {i k : Nat} (h : i ≠ k) : (l.setIfInBounds i true).getD k false = l.getD k false := by
  simp [Array.getD_eq_getD_getElem?, Array.getElem?_setIfInBounds, h]
theorem getD_true_of {l : Array Bool} {i : Nat} (hi : l.getD i true = false) (h : (l.setIfInBounds i true).getD i false = false) : False := by
  rcases Nat.lt_or_ge i l.size with h' | h'
  · simp [Array.getD_eq_getD_getElem?, Array.getElem?_setIfInBounds, h'] at h
  · simp [Array.getD_eq_getD_getElem?, h'] at hi
/-- does k wait for i? -/
def waitsOn (md : Region.Mode) (ops : Array Oper) (k i : Nat) : Bool := match ops[k]? with
  | none => false
  | some o => o.after.toList.any fun e => Region.binds md e && e.on == i
/-- or is k no operation at all? (then the condition holds to the end) -/
def holdsTo (md : Region.Mode) (ops : Array Oper) (k i : Nat) : Bool := waitsOn md ops k i || Nat.ble ops.size k
theorem waits_spec {i : Nat} (h : waitsOn md ops k i = true) {listed : Array Bool} (hk : k ∈ Region.ready md ops listed) : listed.getD i false = true := by
  obtain ⟨_, o, ho, hall⟩ := mem_ready.1 hk
  unfold waitsOn at h
  simp only [ho, List.any_eq_true, Bool.and_eq_true, beq_iff_eq] at h
  obtain ⟨e, he, hb, rfl⟩ := h
  exact hall e (Array.mem_toList_iff.1 he) hb
theorem unlisted {i : Nat} {listed : Array Bool} (hi : i ∈ Region.ready md ops listed) : listed.getD i false = true → False := by
  intro h
  have h0 := (mem_ready.1 hi).1
  rcases Nat.lt_or_ge i listed.size with h' | h'
  · have : listed[i]? = some listed[i] := Array.getElem?_eq_getElem h'
    simp [Array.getD_eq_getD_getElem?, this] at h0 h
    rw [h0] at h; cases h
  · simp [Array.getD_eq_getD_getElem?, Array.getElem?_eq_none h'] at h
theorem wpAnyT_first {i : Nat} {oi : Oper} {v : Value} {S' : World → Prop} (hi : ops[i]? = some oi) (hsel : ∀ (j : Nat) (o : Oper) cs b, ops[j]? = some o → o.op ≠ .select cs b)
    (hQ : ∀ c a w, Q (.panic c) (a.put oi.dst v) w → Q (.panic c) a w) (hik : i ≠ k) (hSS : (S' = S ∧ holdsTo md ops k i = true) ∨ ∀ w, S' w) :
    ∀ (fuel : Nat) (listed : Array Bool) (a : Act) (w : World),
      (∀ j oj, ops[j]? = some oj → j ≠ i → listed.getD j true = false → (∀ e ∈ oj.after, Region.binds md e = true → e.on ≠ i) → oi.apart ops oj = true) →
      i ∈ Region.ready md ops listed → YieldsIf P ops S' oi v a → S' w → (listed.getD k false = false → S w) → (S' = S → (∀ w, S' w) ∨ listed.getD k false = false) →
      wpAnyT P md ops Q S k fuel (listed.setIfInBounds i true) (a.put oi.dst v) w → wpAnyT P md ops Q S k (fuel + 1) listed a w := by
  intro fuel
  induction fuel with
  | zero =>
    intro listed a w _ hr hy hS hO _ H
    refine ⟨(fun h => by rw [h] at hr; cases hr), fun j hj => ?_⟩
    by_cases hji : j = i
    · subst hji; exact hy.wpOp hi hS ⟨fun h => hO (by rwa [getD_ne hik] at h), H⟩
    · have := ready_mono hj hji
      rw [H.1] at this
      cases this
  | succ fuel ih =>
    intro listed a w hfree hr hy hS hO hU H
    refine ⟨(fun h => by rw [h] at hr; cases hr), fun j hj => ?_⟩
    by_cases hji : j = i
    · subst hji; exact hy.wpOp hi hS ⟨fun h => hO (by rwa [getD_ne hik] at h), H⟩
    · have h1 := H.2 j (ready_mono hj hji)
      obtain ⟨hjun, oj, hoj, hall⟩ := mem_ready.1 hj
      have hnot : ∀ e ∈ oj.after, Region.binds md e = true → e.on ≠ i := fun e he hb heq => unlisted hr (heq ▸ hall e he hb)
      have h2 := wpOp_putIf hoj (hfree j oj hoj hji hjun hnot) (fun cs b => hsel i oi cs b hi) (fun cs b => hsel j oj cs b hoj) hQ hy h1
      have hfree' : ∀ m om, ops[m]? = some om → m ≠ i → (listed.setIfInBounds j true).getD m true = false →
          (∀ e ∈ om.after, Region.binds md e = true → e.on ≠ i) → oi.apart ops om = true := fun m om hm hmi hun hno => by
        refine hfree m om hm hmi ?_ hno
        by_cases hjm : j = m
        · subst hjm; exact hjun
        · rw [getD_set_ne true hjm] at hun; exact hun
      have hO' : ∀ w', (((listed.setIfInBounds i true).setIfInBounds j true).getD k false = false → S w') → (listed.setIfInBounds j true).getD k false = false → S w' := fun w' h3 h4 => by
        refine h3 ?_
        rw [Array.setIfInBounds_comm _ _ (Ne.symm hji), getD_ne hik]; exact h4
      refine wpOp_mono (fun a' w' h3 => ⟨hO' w' h3.2.1, ih (listed.setIfInBounds j true) a' w' hfree' (ready_mono hr (Ne.symm hji)) h3.1 ?_ (hO' w' h3.2.1) ?_ ?_⟩) h2
      · rcases hSS with ⟨e, hk⟩ | hall'
        · rcases hU e with hall' | hkl
          · exact hall' _
          · subst e
            have hjk : j ≠ k := by
              rintro rfl
              unfold holdsTo at hk
              rw [Bool.or_eq_true] at hk
              rcases hk with hk | hk
              · exact unlisted hr (waits_spec hk hj)
              · have h5 := (Array.getElem?_eq_some_iff.1 hoj).1
                have h6 := Nat.le_of_ble_eq_true hk
                omega
            exact hO' w' h3.2.1 (by rw [getD_ne hjk]; exact hkl)
        · exact hall' _
      · intro e
        rcases hSS with ⟨_, hk⟩ | hall'
        · rcases hU e with hall' | hkl
          · exact Or.inl hall'
          · have hjk : j ≠ k := by
              rintro rfl
              unfold holdsTo at hk
              rw [Bool.or_eq_true] at hk
              rcases hk with hk | hk
              · exact unlisted hr (waits_spec hk hj)
              · have h5 := (Array.getElem?_eq_some_iff.1 hoj).1
                have h6 := Nat.le_of_ble_eq_true hk
                omega
            exact Or.inr (by rw [getD_ne hjk]; exact hkl)
        · exact Or.inl hall'
      · rw [Array.setIfInBounds_comm _ _ hji]
        exact h3.2.2
/-- a load or a copy first, while k has not come up -/
theorem wpAnyT_take (i : Nat) {oi : Oper} {v : Value} {fuel : Nat} {listed : Array Bool} {a : Act} {w : World} (hi : ops[i]? = some oi)
    (hs : Region.noSelect ops = true) (hk : (holdsTo md ops k i && !listed.getD k false) = true) (hik : i ≠ k) (hf : Region.free md ops listed i = true) (hr : (Region.ready md ops listed).contains i = true)
    (hQ : ∀ c a w, Q (.panic c) (a.put oi.dst v) w → Q (.panic c) a w) (hS : S w) (hw : Region.wanted oi (yielded ops a.tmps) = true) (hy : ∀ w, S w → (execOp a.eval oi).run P w = .ok (.value v) w)
    (h : wpAnyT P md ops Q S k fuel (listed.setIfInBounds i true) (a.put oi.dst v) w) : wpAnyT P md ops Q S k (fuel + 1) listed a w := by
  simp only [Bool.and_eq_true, Bool.not_eq_true'] at hk
  exact wpAnyT_first hi (Region.noSelect_spec hs) hQ hik (Or.inl ⟨rfl, hk.1⟩) fuel listed a w (Region.free_spec hi hf) (by simpa using hr) (Or.inl ⟨hw, hy⟩) hS (fun _ => hS) (fun _ => Or.inr hk.2) h
/-- what hangs on no world, first -/
theorem wpAnyT_pure (i : Nat) {oi : Oper} {v : Value} {fuel : Nat} {listed : Array Bool} {a : Act} {w : World} (hi : ops[i]? = some oi)
    (hs : Region.noSelect ops = true) (hik : i ≠ k) (hf : Region.free md ops listed i = true) (hr : (Region.ready md ops listed).contains i = true)
    (hQ : ∀ c a w, Q (.panic c) (a.put oi.dst v) w → Q (.panic c) a w) (hS : S w) (hw : Region.wanted oi (yielded ops a.tmps) = true) (hy : ∀ w, (execOp a.eval oi).run P w = .ok (.value v) w)
    (h : wpAnyT P md ops Q S k fuel (listed.setIfInBounds i true) (a.put oi.dst v) w) : wpAnyT P md ops Q S k (fuel + 1) listed a w :=
  wpAnyT_first (S' := fun _ => True) hi (Region.noSelect_spec hs) hQ hik (Or.inr fun _ => trivial) fuel listed a w (Region.free_spec hi hf) (by simpa using hr) (Or.inl ⟨hw, fun w _ => hy w⟩) trivial (fun _ => hS) (fun _ => Or.inl fun _ => trivial) h
/-- what is not wanted -/
theorem wpAnyT_skip (i : Nat) {oi : Oper} {fuel : Nat} {listed : Array Bool} {a : Act} {w : World} (hi : ops[i]? = some oi)
    (hs : Region.noSelect ops = true) (hik : i ≠ k) (hf : Region.free md ops listed i = true) (hr : (Region.ready md ops listed).contains i = true)
    (hQ : ∀ c a w, Q (.panic c) (a.put oi.dst undef) w → Q (.panic c) a w) (hS : S w) (hw : Region.wanted oi (yielded ops a.tmps) = false)
    (h : wpAnyT P md ops Q S k fuel (listed.setIfInBounds i true) (a.put oi.dst undef) w) : wpAnyT P md ops Q S k (fuel + 1) listed a w :=
  wpAnyT_first (S' := fun _ => True) hi (Region.noSelect_spec hs) hQ hik (Or.inr fun _ => trivial) fuel listed a w (Region.free_spec hi hf) (by simpa using hr) (Or.inr ⟨hw, rfl⟩) trivial (fun _ => hS) (fun _ => Or.inl fun _ => trivial) h
/-- one alone may come up -/
theorem wpAnyT_one (i : Nat) {o : Oper} {fuel : Nat} {listed : Array Bool} {a : Act} {w : World} (hr : Region.ready md ops listed = [i]) (hi : ops[i]? = some o)
    (hw : Region.wanted o (yielded ops a.tmps) = true)
    (h : ∀ K : Act → World → Prop, (∀ a' w', (i ≠ k → S w') → wpAnyT P md ops Q S k fuel (listed.setIfInBounds i true) a' w' → K a' w') → o.wp P a w K Q) : wpAnyT P md ops Q S k (fuel + 1) listed a w := by
  refine ⟨(fun h0 => by rw [hr] at h0; cases h0), fun j hj => ?_⟩
  rw [hr] at hj
  obtain rfl : j = i := by simpa using hj
  unfold wpOp
  simp only [hi, hw, if_true]
  refine Or.inl (h _ fun a' w' h1 h2 => ⟨fun h3 => h1 ?_, h2⟩)
  rintro rfl
  exact getD_true_of (mem_ready.1 (show _ ∈ Region.ready md ops listed from by rw [hr]; exact List.mem_singleton.2 rfl)).1 h3
theorem wpAnyT_done {fuel : Nat} {listed : Array Bool} {a : Act} {w : World} (hr : Region.ready md ops listed = []) (h : Q .normal a w) :
    wpAnyT P md ops Q S k fuel listed a w := by
  cases fuel with
  | zero => exact ⟨hr, h⟩
  | succ f => exact ⟨fun _ => h, by rw [hr]; simp⟩
theorem wp_region_T {id : Nat} {a : Act} {w : World} (S : World → Prop) (k : Nat) (hm : P.follows .mixedOrders = true)
    (h : wpAnyT P .any ops Q S k ops.size (Array.replicate ops.size false) a { w with drawn := w.drawn + 1 }) : (Code.region id ops true).wp P Q a w :=
  wp_region_any hm (wpAny_of_T _ _ _ _ h)
theorem wp_region_T_drew {id : Nat} {a : Act} {w : World} (S : World → Prop) (k : Nat) (hm : P.follows .mixedOrders = true) (hS : S w.drew)
    (h : S w.drew → wpAnyT P .any ops Q S k ops.size (Array.replicate ops.size false) a w.drew) : (Code.region id ops true).wp P Q a w := wp_region_T S k hm (h hS)
end
end Go.Proofs.Ytgamhgeiceakeaa
/- Values in memory; blocks. -/
set_option linter.unusedVariables false
set_option linter.unusedSimpArgs false
namespace Go.Proofs.Ytgamhgeiceakeaa
open Go.RowKit
open Va (V)
/-- a block's cells -/
def Blk (w : World) (p : Nat) (cs : Array Value) (T : TypeId) : Prop := w.heap[p]? = some (.cells cs T (0, 0))
theorem Blk.cell {w : World} {p : Nat} {cs : Array Value} {T : TypeId} (h : Blk w p cs T) (o : Nat) : w.cell? ⟨p, o, none⟩ = cs[o]? := by
  unfold Blk at h; unfold World.cell?; simp only [h]; rfl
theorem Blk.free {w : World} {p : Nat} {cs : Array Value} {T : TypeId} (h : Blk w p cs T) (o : Nat) : w.frozen? ⟨p, o, none⟩ = false := by
  unfold Blk at h; unfold World.frozen?; simp only [h]; simp
theorem Blk.lt {w : World} {p : Nat} {cs : Array Value} {T : TypeId} (h : Blk w p cs T) : p < w.heap.size := (Array.getElem?_eq_some_iff.1 h).1
theorem Blk.set {w : World} {p : Nat} {cs : Array Value} {T : TypeId} (h : Blk w p cs T) (i : Nat) (u : Value) : Blk (w.setCell ⟨p, i, none⟩ u) p (cs.setIfInBounds i u) T := Go.Lib.heap_setCell_same h u
theorem Blk.below {w w' : World} {p : Nat} {cs : Array Value} {T : TypeId} (h : Blk w p cs T) (hb : Below w.heap.size w w') : Blk w' p cs T := by
  unfold Blk; rw [hb.block p h.lt]; exact h
theorem Blk.kept {w w' : World} {p : Nat} {cs : Array Value} {T : TypeId} {row : Option Nat} (h : Blk w p cs T) (hg : w.grownBy w' row) (hne : some p ≠ row) : Blk w' p cs T := by
  unfold Blk; rw [hg.block p h.lt hne]; exact h
theorem Blk.new (w : World) (cs : Array Value) (T : TypeId) : Blk (w.alloc (.cells cs T)) w.heap.size cs T := heap_alloc_new _ _
theorem grown_set {w w' : World} {p : Nat} (h : w.grownBy w' (some p)) (i : Nat) (u : Value) : w.grownBy (w'.setCell ⟨p, i, none⟩ u) (some p) :=
  ⟨h.os, h.tape, h.output, by simp; exact h.size, fun k hk hne => by rw [Below.heap_setCell _ _ _ _ (fun e => hne (by rw [e]))]; exact h.block k hk hne⟩
theorem grown_below {w w1 w2 : World} {r : Option Nat} (h : w.grownBy w1 r) (k : Below w1.heap.size w1 w2) : w.grownBy w2 r :=
  ⟨k.os.trans h.os, k.tape.trans h.tape, k.output.trans h.output, Nat.le_trans h.size k.size, fun i hi hne => by rw [k.block i (Nat.lt_of_lt_of_le hi h.size), h.block i hi hne]⟩
theorem grown_trans {w w1 w2 : World} {r : Option Nat} (h : w.grownBy w1 r) (k : w1.grownBy w2 r) : w.grownBy w2 r :=
  ⟨k.os.trans h.os, k.tape.trans h.tape, k.output.trans h.output, Nat.le_trans h.size k.size, fun i hi hne => by rw [k.block i (Nat.lt_of_lt_of_le hi h.size) hne, h.block i hi hne]⟩
theorem below_grown {w w1 w2 : World} {r : Option Nat} (h : Below w.heap.size w w1) (k : w1.grownBy w2 r) : w.grownBy w2 r :=
  ⟨k.os.trans h.os, k.tape.trans h.tape, k.output.trans h.output, Nat.le_trans h.size k.size, fun i hi hne => by rw [k.block i (Nat.lt_of_lt_of_le hi h.size) hne, h.block i hi]⟩
theorem Rd.kept {w w' : World} {ba : Option Addr} {l : List UInt8} {p : Nat} (h : Rd w ba l) (hg : w.grownBy w' (some p)) (hne : ∀ b o, ba = some (⟨b, o, none⟩ : Addr) → b ≠ p) : Rd w' ba l := by
  rcases h with h | ⟨b, o, e, hlt, hc⟩
  · exact Or.inl h
  · refine Or.inr ⟨b, o, e, Nat.lt_of_lt_of_le hlt hg.size, fun i hi => ?_⟩
    rw [World.cell?_of_block (w := w) (hg.block b hlt (fun q => hne b o e (by cases q; rfl)))]; exact hc i hi
/-- append to a slice of the call's own, at the operation -/
theorem op_append_gw {P : Program} (w : World) {o : Oper} {a : Act} {K : Act → World → Prop} {Q : Exit → Act → World → Prop} (s x : Operand) (t : TypeId)
    (ho : o.op = .call { callee := .builtin .append, args := #[s, x], argTypes := #[t, t] })
    (base : Nat) (e : TypeId) (i : TypeInfo) (z : Value) (size bytes : Nat) (ht : P.underlying t = some (.slice e)) (hi : P.info? e = some i) (hz : i.zero = some z)
    (hsize : i.size = size) (hby : i.bytes = bytes) (hzs : z.cells.size = size) (hsz : 0 < size)
    (v : Value) (n : Nat) (xs : List Value) (hs : a.eval s = v) (hown : w.ownsRow base e size v n xs)
    (ad : Addr) (m c : Nat) (news : List Value) (hx : a.eval x = .slice (some ad) m c) (hl : news.length = m * size) (hnews : ∀ j u, news[j]? = some u → w.cell? (ad.add j) = some u) (h1 : ∀ u ∈ news, u.oneCell' = true)
    (h63 : n + m ≤ maxLen) (hbytes : (n + m) * bytes ≤ 140737488355328) (hbase : base ≤ w.heap.size)
    (hK : ∀ v' w', w'.ownsRow base e size v' (n + m) (xs ++ news) → Gw w w' v v' → (v' = .slice none 0 0 ↔ v = .slice none 0 0 ∧ m = 0) → K (a.put o.dst v') w') :
    Oper.wp P o a w K Q := by
  obtain ⟨v', w', hr, h2, h3, h4⟩ := run_append_own (P := P) w base t o.type e i z size bytes ht hi hz hsize hby hzs hsz v n xs hown ad m c news hl hnews h1 h63 hbytes hbase
  have h5 := own_after (P := P) w base t o.type e i z size bytes ht hi hz hsize hby hzs hsz v n xs hown ad m c news hl hnews h1 h63 hbytes hr h4
  unfold Oper.wp execOp
  simp only [ho, resolve, invoke, builtin, Sem.run_bind, Sem.run_pure, Result.andThen_ok, List.map_toArray, List.map_cons, List.map_nil, hs, hx, hr]
  exact hK _ _ h2 ⟨h3, h5⟩ h4
theorem row_below {w w' : World} {B n size : Nat} {T : TypeId} {v : Value} {xs : List Value} (h : w.ownsRow B T size v n xs) (hb : Below w.heap.size w w') : w'.ownsRow B T size v n xs :=
  World.ownsRow.kept (row := none) h ⟨hb.os, hb.tape, hb.output, hb.size, fun k hk _ => hb.block k hk⟩ (by cases v.ownBlock with | none => exact Or.inl rfl | some k => exact Or.inr (by simp))
/-- below a bound that the row lies above, nothing has turned -/
theorem below_row {B : Nat} {a w w' : World} {r : Option Nat} (h : Below B a w) (hg : w.grownBy w' r) (hB : B ≤ w.heap.size) (hr : ∀ k, r = some k → B ≤ k) : Below B a w' := h.grown hg hB hr
theorem Ow.past {w w' : World} {B : Nat} {v : Value} {l : List UInt8} (h : Ow w B v l) (hb : Below w.heap.size w w') : Ow w' B v l := row_below h hb
theorem own_ne {w : World} {v : Value} {B n size p : Nat} {T T' : TypeId} {xs : List Value} {cs : Array Value} (ho : w.ownsRow B T size v n xs) (hp : Blk w p cs T') (hT : T ≠ T') : some p ≠ v.ownBlock := by
  intro e
  rcases ho.2 with ⟨rfl, _⟩ | ⟨g, cap, cur', rfl, _, hg, _⟩
  · simp [Value.ownBlock] at e
  · simp [Value.ownBlock] at e
    subst e
    unfold Blk at hp
    rw [hg] at hp; cases hp; exact hT rfl
/-- four cells that make a value -/
structure At4 (w : World) (b o : Nat) (x : Value) : Prop where
  lt : b < w.heap.size
  ex : ∃ a1 a2 a3 a4, x = .agg #[a1, a2, a3, a4] ∧ w.cell? ⟨b, o, none⟩ = some a1 ∧ w.cell? ⟨b, o + 1, none⟩ = some a2 ∧ w.cell? ⟨b, o + 2, none⟩ = some a3 ∧ w.cell? ⟨b, o + 3, none⟩ = some a4
theorem At4.kept {w w' : World} {b o : Nat} {x : Value} (h : At4 w b o x) (hs : w.heap.size ≤ w'.heap.size) (hb : w'.heap[b]? = w.heap[b]?) : At4 w' b o x := by
  obtain ⟨h1, a1, a2, a3, a4, e, c1, c2, c3, c4⟩ := h
  have hc : ∀ i, w'.cell? ⟨b, i, none⟩ = w.cell? ⟨b, i, none⟩ := fun i => World.cell?_of_block (w := w) hb
  exact ⟨Nat.lt_of_lt_of_le h1 hs, a1, a2, a3, a4, e, by rw [hc]; exact c1, by rw [hc]; exact c2, by rw [hc]; exact c3, by rw [hc]; exact c4⟩
/-- what reads as a value, its rows in blocks of a kind -/
inductive RV (ok : Nat → Prop) (w : World) : V → Value → Prop
  | mk (k : Nat) (n : Int) (s : ByteArray) (l : List V) (ba : Option Addr) (cap : Nat) (xs : Nat → Value) (hk : k < 256) (hn : Va.I64 n) (hs : s.size ≤ maxLen) (hcap : l.length ≤ cap) (hmax : cap ≤ maxLen) (hba : ba = none → l.length = 0)
    (hat : ∀ i, i < l.length → ∃ b o, ba = some (⟨b, o, none⟩ : Addr) ∧ ok b ∧ At4 w b (o + i * 4) (xs i)) (hrec : ∀ i (h : i < l.length), RV ok w l[i] (xs i)) :
    RV ok w (.mk k n s l) (.agg #[.int .u8 k, .int .i64 n, .string s, .slice ba l.length cap])
theorem RV.kept {ok : Nat → Prop} {w w' : World} {v : V} {x : Value} (h : RV ok w v x) (hs : w.heap.size ≤ w'.heap.size) (hk : ∀ b, ok b → b < w.heap.size → w'.heap[b]? = w.heap[b]?) : RV ok w' v x := by
  induction h with
  | mk k n s l ba cap xs a1 a2 a3 a4 a5 a6 hat hrec ih =>
    exact .mk k n s l ba cap xs a1 a2 a3 a4 a5 a6 (fun i hi => by obtain ⟨b, o, e, ho, h4⟩ := hat i hi; exact ⟨b, o, e, ho, h4.kept hs (hk b ho h4.lt)⟩) ih
theorem RV.past {ok : Nat → Prop} {w w' : World} {v : V} {x : Value} (h : RV ok w v x) (hb : Below w.heap.size w w') : RV ok w' v x := h.kept hb.size (fun b _ hlt => hb.block b hlt)
theorem RV.mono {ok ok' : Nat → Prop} {w : World} {v : V} {x : Value} (h : RV ok w v x) (hk : ∀ b, b < w.heap.size → ok b → ok' b) : RV ok' w v x := by
  induction h with
  | mk k n s l ba cap xs a1 a2 a3 a4 a5 a6 hat hrec ih =>
    exact .mk k n s l ba cap xs a1 a2 a3 a4 a5 a6 (fun i hi => by obtain ⟨b, o, e, ho, h4⟩ := hat i hi; exact ⟨b, o, e, hk b h4.lt ho, h4⟩) ih
/-- a list of values in a row -/
structure RL (ok : Nat → Prop) (w : World) (l : List V) (ba : Option Addr) (cap : Nat) : Prop where
  le : l.length ≤ cap
  max : cap ≤ maxLen
  nil : ba = none → l.length = 0
  at_ : ∀ i (h : i < l.length), ∃ b o x, ba = some (⟨b, o, none⟩ : Addr) ∧ ok b ∧ At4 w b (o + i * 4) x ∧ RV ok w l[i] x
theorem RV.inv {ok : Nat → Prop} {w : World} {k : Nat} {n : Int} {s : ByteArray} {l : List V} {x : Value} (h : RV ok w (.mk k n s l) x) :
    ∃ ba cap, x = .agg #[.int .u8 k, .int .i64 n, .string s, .slice ba l.length cap] ∧ k < 256 ∧ Va.I64 n ∧ s.size ≤ maxLen ∧ RL ok w l ba cap := by
  cases h with
  | mk k n s l ba cap xs a1 a2 a3 a4 a5 a6 hat hrec =>
    exact ⟨ba, cap, rfl, a1, a2, a3, a4, a5, a6, fun i hi => by obtain ⟨b, o, e, ho, h4⟩ := hat i hi; exact ⟨b, o, xs i, e, ho, h4, hrec i hi⟩⟩
theorem RV.mk' {ok : Nat → Prop} {w : World} {k : Nat} {n : Int} {s : ByteArray} {l : List V} {ba : Option Addr} {cap : Nat} (hk : k < 256) (hn : Va.I64 n) (hs : s.size ≤ maxLen) (h : RL ok w l ba cap) :
    RV ok w (.mk k n s l) (.agg #[.int .u8 k, .int .i64 n, .string s, .slice ba l.length cap]) := by
  classical
  have hx : ∀ i, ∃ x, ∀ (h : i < l.length), (∃ b o, ba = some (⟨b, o, none⟩ : Addr) ∧ ok b ∧ At4 w b (o + i * 4) x) ∧ RV ok w l[i] x := fun i => by
    by_cases hi : i < l.length
    · obtain ⟨b, o, x, e, ho, h4, hr⟩ := h.at_ i hi
      exact ⟨x, fun _ => ⟨⟨b, o, e, ho, h4⟩, hr⟩⟩
    · exact ⟨.bool true, fun h => absurd h hi⟩
  exact .mk k n s l ba cap (fun i => (hx i).choose) hk hn hs h.le h.max h.nil (fun i hi => ((hx i).choose_spec hi).1) (fun i hi => ((hx i).choose_spec hi).2)
theorem RV.agg {ok : Nat → Prop} {w : World} {v : V} {x : Value} (h : RV ok w v x) : ∃ a b c d, x = .agg #[a, b, c, d] := by
  cases h; exact ⟨_, _, _, _, rfl⟩
end Go.Proofs.Ytgamhgeiceakeaa
/- package bytes: signed numbers, by contract. -/
set_option linter.unusedVariables false
set_option linter.unusedSimpArgs false
namespace Go.Proofs.Ytgamhgeiceakeaa
open Go.RowKit
theorem xor_u64_0 (m : Nat) (h : m < 18446744073709551616) : bits .xor .u64 (m : Int) 0 = (m : Int) := by
  have := bits_xor_u64_nat m 0 h (by decide)
  rw [Nat.xor_zero] at this
  exact this
theorem xor_comm_u64 (a b : Int) : bits .xor .u64 a b = bits .xor .u64 b a := by
  show IntKind.u64.wrap ((BitVec.ofInt 64 a ^^^ BitVec.ofInt 64 b).toNat : Int) = IntKind.u64.wrap ((BitVec.ofInt 64 b ^^^ BitVec.ofInt 64 a).toNat : Int)
  rw [BitVec.xor_comm]
theorem xor_comm_i64 (a b : Int) : bits .xor .i64 a b = bits .xor .i64 b a := by
  show IntKind.i64.wrap ((BitVec.ofInt 64 a ^^^ BitVec.ofInt 64 b).toNat : Int) = IntKind.i64.wrap ((BitVec.ofInt 64 b ^^^ BitVec.ofInt 64 a).toNat : Int)
  rw [BitVec.xor_comm]
theorem xor_i64_0 (x : Nat) (hx : x < 9223372036854775808) : bits .xor .i64 (x : Int) 0 = (x : Int) := by
  show IntKind.i64.wrap ((BitVec.ofInt 64 (x : Int) ^^^ BitVec.ofInt 64 0).toNat : Int) = _
  have h1 : BitVec.ofInt 64 (0 : Int) = 0#64 := by decide
  have h2 : (BitVec.ofInt 64 (x : Int)).toNat = x := by
    rw [BitVec.ofInt_natCast, BitVec.toNat_ofNat]; exact Nat.mod_eq_of_lt (by omega)
  rw [h1, BitVec.xor_zero, h2, IntKind.wrap_i64]
  omega
/-- the program's way back -/
theorem un_way (m : Nat) (h : m < 18446744073709551616) : bits .xor .i64 (wrap64 ((m : Int) / 2)) (wrap64 (-wrap64 (bits .and .u64 (m : Int) 1))) = Va.ung m := by
  have h2 : wrap64 ((m : Int) / 2) = ((m / 2 : Nat) : Int) := by rw [IntWalk.wrap64_in _ (by omega)]; omega
  rw [Lib.u64_and1 _ (by omega) (by omega), h2]
  unfold Va.ung
  rcases (show m % 2 = 0 ∨ m % 2 = 1 by omega) with e | e
  · rw [if_pos e, show ((m : Int) % 2) = 0 by omega, show wrap64 (-wrap64 0) = 0 from by rw [IntWalk.wrap64_in 0 (by omega), IntWalk.wrap64_in _ (by omega)]; rfl]
    exact xor_i64_0 _ (by omega)
  · rw [if_neg (by omega), show ((m : Int) % 2) = 1 by omega, show wrap64 (-wrap64 1) = -1 from by rw [IntWalk.wrap64_in 1 (by omega), IntWalk.wrap64_in _ (by omega)], xor_comm_i64]
    exact Lib.i64_not _ (by omega)
set_option maxHeartbeats 1600000 in
set_option maxRecDepth 100000 in
theorem int_any (B : Nat) (v : Value) (l : List UInt8) (n : Int) (w : World) (hn : Va.I64 n) (ho : Ow w B v l) (hB : B ≤ w.heap.size) (hl : l.length ≤ 1099511627776) :
    Calls Try.prog 68 #[v, .int .i64 n] w (OwPost B v (l ++ By.uv (Va.zg n)) w) := by
  have C := Lib.hid (uint_any B v l (Va.zg n) w (Va.zg_lt hn) ho hB hl)
  obtain ⟨h1, h2⟩ := hn
  clear ho
  by_cases h0 : 0 ≤ n
  · have hz : bits .xor .u64 (n * 2) (n / 9223372036854775808) = (Va.zg n : Nat) := by
      have e : n * 2 = (Va.zg n : Nat) := by unfold Va.zg; rw [if_pos h0]; omega
      rw [show n / 9223372036854775808 = 0 by omega, e]
      exact xor_u64_0 _ (Va.zg_lt ⟨h1, h2⟩)
    go_enter Try.func68, Try.ntmps68
    go_wp2_with fail
    refine (C.out).mono ?_
    rintro e w2 ⟨v', rfl, ho, hg, hnn⟩
    go_wp2
    go_ret
    exact ⟨v', rfl, ho, hg, hnn⟩
  · have hz : bits .xor .u64 (IntKind.u64.wrap (IntKind.u64.wrap n * 2)) (IntKind.u64.wrap (n / 9223372036854775808)) = (Va.zg n : Nat) := by
      rw [show n / 9223372036854775808 = -1 by omega, xor_comm_u64]
      exact Lib.zigzag_neg h1 (by omega)
    go_enter Try.func68, Try.ntmps68
    go_wp2_with fail
    refine (C.out).mono ?_
    rintro e w2 ⟨v', rfl, ho, hg, hnn⟩
    go_wp2
    go_ret
    exact ⟨v', rfl, ho, hg, hnn⟩
def GiPost (l : List UInt8) (at' : Nat) (w : World) (e : Ending) (w' : World) : Prop :=
  e = .returned (.tuple #[.int .i64 (Va.ung (if (By.gu (l.drop at')).2.2 = 0 then (By.gu (l.drop at')).1 else 0)), .int .i64 (if (By.gu (l.drop at')).2.2 = 0 then at' + (By.gu (l.drop at')).2.1 else 0 : Nat), .int .i64 (By.gu (l.drop at')).2.2]) ∧ w = w'
set_option maxHeartbeats 1600000 in
set_option maxRecDepth 100000 in
theorem getInt_any (ba : Option Addr) (n cap : Nat) (l : List UInt8) (at' : Nat) (w : World) (hn : l.length = n) (hr : Rd w ba l) (ha : at' ≤ n) (hl : n ≤ 1099511627776) :
    Calls Try.prog 36 #[.slice ba n cap, .int .i64 at'] w (GiPost l at' w) := by
  have C := Lib.hid (getUint_any ba n cap l at' w hn hr ha hl)
  clear hr
  go_enter Try.func36, Try.ntmps36
  go_wp2_with fail
  with_reducible refine (C.out).mono ?_
  rintro e w2 ⟨rfl, rfl⟩
  have hlt : (if (By.gu (l.drop at')).2.2 = 0 then (By.gu (l.drop at')).1 else 0) < 18446744073709551616 := by
    by_cases h : (By.gu (l.drop at')).2.2 = 0
    · rw [if_pos h]
      exact (Va.gu_inv (l.drop at') _ (By.gu (l.drop at')).2.1 (by rw [← h])).2.2.2
    · rw [if_neg h]; omega
  generalize hm2 : (if (By.gu (l.drop at')).2.2 = 0 then (By.gu (l.drop at')).1 else 0) = m2 at hlt ⊢
  generalize hnx : (if (By.gu (l.drop at')).2.2 = 0 then at' + (By.gu (l.drop at')).2.1 else 0) = nx
  have HM2 := Lib.hid hm2
  have HNX := Lib.hid hnx
  clear hm2 hnx
  have hw := un_way m2 hlt
  have hw2 : bits .xor .i64 ((m2 : Int) / 2) (wrap64 (-wrap64 (bits .and .u64 (m2 : Int) 1))) = Va.ung m2 := by rw [← hw, IntWalk.wrap64_in ((m2 : Int) / 2) (by omega)]
  go_wp2
  go_ret3
  unfold GiPost
  rw [HM2.out, HNX.out]
  exact ⟨rfl, rfl⟩
end Go.Proofs.Ytgamhgeiceakeaa
/- Right, by contract. -/
set_option linter.unusedVariables false
set_option linter.unusedSimpArgs false
namespace Go.Proofs.Ytgamhgeiceakeaa
open Go.RowKit
open Va (V)
theorem sz0 (s : ByteArray) : (s.toList = []) = (s.size = 0) := by
  rw [ByteArray.toList_eq]
  refine propext ⟨fun h => ?_, fun h => ?_⟩
  · show s.data.size = 0
    rw [← Array.length_toList, h]; rfl
  · exact List.eq_nil_of_length_eq_zero (by rw [Array.length_toList]; exact h)
theorem nil0 {α : Type} (l : List α) : (l = []) = (l.length = 0) := by cases l <;> simp
theorem tl0 (s : ByteArray) : s.toList.length = s.size := by rw [ByteArray.toList_eq, Array.length_toList]; rfl
theorem ie0 {α : Type} (l : List α) : (l.isEmpty = true) = (l.length = 0) := by cases l <;> simp
theorem ret_bool {a b : Bool} (h : a = b) : Ending.returned (.bool a) = .returned (.bool b) := by rw [h]
def R1Post (pl : Nat) (r : Bool × Int) (w : World) (e : Ending) (w' : World) : Prop := e = .returned (.bool r.1) ∧ Blk w' pl #[.int .i64 r.2] 3 ∧ w.grownBy w' (some pl)
def R1P (v : V) : Prop := ∀ (ok : Nat → Prop) (W0 : World) (x : Value) (h : RV ok W0 v x) (w : World) (hw : Below W0.heap.size W0 w) (pl pr : Nat) (hpl : W0.heap.size ≤ pl) (hne : pr ≠ pl) (left : Int) (h0 : 0 ≤ left) (h1 : left ≤ 256) (lv : Nat) (hlv : lv ≤ 16)
  (hl : Blk w pl #[.int .i64 left] 3) (hr : Blk w pr #[.func (.func 74) #[] #[.pointer (some ⟨pl, 0, none⟩), .pointer (some ⟨pr, 0, none⟩)]] 110),
  Calls Try.prog 74 #[x, .int .i64 lv, .pointer (some ⟨pl, 0, none⟩), .pointer (some ⟨pr, 0, none⟩)] w (R1Post pl (Va.rgt v lv left) w)
theorem rgt_1 (n : Int) (s : ByteArray) (l : List V) (lv : Nat) (left : Int) : Va.rgt (.mk 1 n s l) lv left = (decide (0 ≤ left - 1) && decide (0 < lv) && (s.size == 0 && l.isEmpty), left - 1) := by unfold Va.rgt; rfl
theorem rgt_2 (n : Int) (s : ByteArray) (l : List V) (lv : Nat) (left : Int) : Va.rgt (.mk 2 n s l) lv left = (decide (0 ≤ left - 1) && decide (0 < lv) && (s.size == 0 && l.isEmpty) && (n == 0 || n == 1), left - 1) := by unfold Va.rgt; rfl
theorem rgt_5 (n : Int) (s : ByteArray) (l : List V) (lv : Nat) (left : Int) : Va.rgt (.mk 5 n s l) lv left = (decide (0 ≤ left - 1) && decide (0 < lv) && (s.size == 0 && l.isEmpty) && decide (0 ≤ n), left - 1) := by unfold Va.rgt; rfl
theorem rgt_3 (n : Int) (s : ByteArray) (l : List V) (lv : Nat) (left : Int) : Va.rgt (.mk 3 n s l) lv left = (decide (0 ≤ left - 1) && decide (0 < lv) && (n == 0) && l.isEmpty && decide (s.size ≤ 4096), left - 1) := by unfold Va.rgt; rfl
theorem rgt_4 (n : Int) (s : ByteArray) (l : List V) (lv : Nat) (left : Int) : Va.rgt (.mk 4 n s l) lv left = Va.rgtL l (lv - 1) (decide (0 ≤ left - 1) && decide (0 < lv) && (n == 0) && (s.size == 0)) (left - 1) := by unfold Va.rgt; rfl
theorem rgt_0 (k : Nat) (n : Int) (s : ByteArray) (l : List V) (lv : Nat) (left : Int) (k1 : k ≠ 1) (k2 : k ≠ 2) (k3 : k ≠ 3) (k4 : k ≠ 4) (k5 : k ≠ 5) : Va.rgt (.mk k n s l) lv left = (false, left - 1) := by
  unfold Va.rgt; rw [if_neg k1, if_neg k2, if_neg k5, if_neg k3, if_neg k4]
theorem rgt_le (v : V) (lv : Nat) (left : Int) (h0 : 0 ≤ left) : (Va.rgt v lv left).2 ≤ left ∧ ((Va.rgt v lv left).1 = true → 0 ≤ (Va.rgt v lv left).2) := by
  have h := Va.rgt_ok v lv left h0
  by_cases c : Va.okV v lv = true ∧ (Va.cnt v : Int) ≤ left
  · rw [h.1 c]; exact ⟨by show left - (Va.cnt v : Int) ≤ left; omega, fun _ => by show 0 ≤ left - (Va.cnt v : Int); omega⟩
  · have h2 := h.2 c; exact ⟨h2.2.2, fun e => by rw [h2.1] at e; cases e⟩
theorem rgtL_nil (lv : Nat) (b : Bool) (lf : Int) : Va.rgtL [] lv b lf = (b, lf) := rfl
theorem rgtL_drop (l : List V) (lv i : Nat) (b : Bool) (lf : Int) (h : i < l.length) : Va.rgtL (l.drop i) lv b lf = Va.rgtL (l.drop (i + 1)) lv (b && (Va.rgt l[i] lv lf).1) (if b then (Va.rgt l[i] lv lf).2 else lf) := by
  rw [List.drop_eq_getElem_cons h]
  conv => lhs; unfold Va.rgtL
set_option maxHeartbeats 3200000 in
set_option maxRecDepth 100000 in
theorem right1_any : ∀ v, R1P v := V.ind fun k n s l ih => by
  intro ok W0 x h w hw pl pr hpl hne left h0 h1 lv hlv hl hr
  obtain ⟨ba, cap, rfl, hk, hn, hs, hL⟩ := h.inv
  have hlen : l.length ≤ 9223372036854775807 := by have h1 := hL.le; have h2 := hL.max; simp only [maxLen] at h2; omega
  have HL := Lib.hid hL
  have HR := Lib.hid hr
  have HW := Lib.hid hw
  have hgs : w.grownBy (w.setCell ⟨pl, 0, none⟩ (.int .i64 (left - 1))) (some pl) := grown_set (grown_refl _ _) _ _
  have hal : ∀ (W : World) (cs : Array Value), Below W.heap.size W (W.alloc (.cells cs 25)) := fun W cs => (Below.refl _ _).alloc (Nat.le_refl _) _
  have HB2 : Hid (∀ cs : Array Value, Blk ((w.setCell ⟨pl, 0, none⟩ (.int .i64 (left - 1))).alloc (.cells cs 25)) pl #[.int .i64 (left - 1)] 3) := Lib.hid (fun cs => (hl.set 0 (.int .i64 (left - 1))).below (hal _ _))
  have HG2 : Hid (∀ cs : Array Value, w.grownBy ((w.setCell ⟨pl, 0, none⟩ (.int .i64 (left - 1))).alloc (.cells cs 25)) (some pl)) := Lib.hid (fun cs => grown_below hgs (hal _ _))
  have cl := hl.cell 0
  have fl := fun o => hl.free o
  have ltl := hl.lt
  clear h hL hl hr hw hgs hal
  by_cases k1 : k = 1
  · subst k1
    rw [rgt_1]
    go_enter Try.func74, Try.ntmps74
    go_wp2
    all_goals (try simp only [nil0, tl0] at *)
    all_goals (go_ret; refine ⟨ret_bool ?_, HB2.out _, HG2.out _⟩)
    all_goals (rw [Bool.eq_iff_iff]; simp only [Bool.and_eq_true, Bool.or_eq_true, decide_eq_true_eq, beq_iff_eq, ie0, Bool.false_eq_true, Bool.true_eq, true_and, false_and, iff_true, iff_false, true_iff, false_iff]; omega)
  by_cases k2 : k = 2
  · subst k2
    rw [rgt_2]
    go_enter Try.func74, Try.ntmps74
    go_wp2
    all_goals (try simp only [nil0, tl0] at *)
    all_goals (go_ret; refine ⟨ret_bool ?_, HB2.out _, HG2.out _⟩)
    all_goals (rw [Bool.eq_iff_iff]; simp only [Bool.and_eq_true, Bool.or_eq_true, decide_eq_true_eq, beq_iff_eq, ie0, Bool.false_eq_true, Bool.true_eq, true_and, false_and, iff_true, iff_false, true_iff, false_iff]; omega)
  by_cases k5 : k = 5
  · subst k5
    rw [rgt_5]
    go_enter Try.func74, Try.ntmps74
    go_wp2
    all_goals (try simp only [nil0, tl0] at *)
    all_goals (go_ret; refine ⟨ret_bool ?_, HB2.out _, HG2.out _⟩)
    all_goals (rw [Bool.eq_iff_iff]; simp only [Bool.and_eq_true, Bool.or_eq_true, decide_eq_true_eq, beq_iff_eq, ie0, Bool.false_eq_true, Bool.true_eq, true_and, false_and, iff_true, iff_false, true_iff, false_iff]; omega)
  by_cases k3 : k = 3
  · subst k3
    rw [rgt_3]
    go_enter Try.func74, Try.ntmps74
    go_wp2
    all_goals (try simp only [nil0, tl0] at *)
    all_goals (go_ret; refine ⟨ret_bool ?_, HB2.out _, HG2.out _⟩)
    all_goals (rw [Bool.eq_iff_iff]; simp only [Bool.and_eq_true, Bool.or_eq_true, decide_eq_true_eq, beq_iff_eq, ie0, Bool.false_eq_true, Bool.true_eq, true_and, false_and, iff_true, iff_false, true_iff, false_iff]; omega)
  by_cases k4 : k = 4
  · subst k4
    by_cases hG : (decide (0 ≤ left - 1) && decide (0 < lv) && (n == 0) && (s.size == 0)) = true
    · have HD := Lib.hid hG
      simp only [Bool.and_eq_true, decide_eq_true_eq, beq_iff_eq] at hG
      obtain ⟨⟨⟨g1, g2⟩, g3⟩, g4⟩ := hG
      have g5 : (s.toList == []) = true := beq_iff_eq.2 ((sz0 s).mpr g4)
      go_enter Try.func74, Try.ntmps74
      go_wp2
      go_loopw [8, 99] (fun okv iv wr => ∃ (i : Nat) (b : Bool) (lf : Int), i ≤ l.length ∧ okv = .bool b ∧ iv = .int .i64 i ∧ Blk wr pl #[.int .i64 lf] 3 ∧ w.grownBy wr (some pl) ∧ Va.rgtL (l.drop i) (lv - 1) b lf = Va.rgtL l (lv - 1) true (left - 1) ∧ (b = true → 0 ≤ lf ∧ 1 ≤ lv) ∧ lf ≤ 256) (fun _ i _ => l.length - (intOf i).toNat)
      case atStart => exact ⟨0, true, left - 1, by omega, rfl, rfl, HB2.out _, HG2.out _, by rw [List.drop_zero], fun e => (by first | omega | cases e), by omega⟩
      case round =>
        obtain ⟨i, b, lf, hi, rfl, rfl, hbr, hgr, heq, hb0, hb1⟩ := hrel
        have HEQ := Lib.hid heq
        have HBR := Lib.hid hbr
        have HGR := Lib.hid hgr
        have HWR := Lib.hid (HW.out.grown hgr HW.out.size (fun k hk => by cases hk; exact hpl))
        have hrr := HR.out.kept hgr (fun e => hne (Option.some.inj e))
        have HRR := Lib.hid hrr
        clear heq hbr hgr hrr
        by_cases hlt : i < l.length
        · obtain ⟨bb, o, x, hba, hok, h4, hrv⟩ := HL.out.at_ i hlt
          have h4' := h4.kept HWR.out.size (HWR.out.block bb h4.lt)
          have C0 := ih l[i] (List.getElem_mem hlt) ok W0 x hrv
          have hle := rgt_le l[i] (lv - 1)
          have hdr := fun b => rgtL_drop l (lv - 1) i b lf hlt
          generalize l[i] = u at hrv C0 hle hdr
          obtain ⟨k2, n2, s2, l2⟩ := u
          obtain ⟨ba2, cap2, rfl, -, -, -, hL2⟩ := hrv.inv
          obtain ⟨hlt4, a1, a2, a3, a4, hx4, c1, c2, c3, c4⟩ := h4'
          cases hx4
          have hca2 := hL2.le
          subst hba
          have hj0 : (0 : Int) ≤ (i : Int) := by omega
          have hj1 : (i : Int) < (l.length : Int) := by omega
          have hal : Below wr.heap.size wr (wr.alloc (.cells #[.int .u8 k2, .int .i64 n2, .string s2, .slice ba2 l2.length cap2] 25)) := (Below.refl _ _).alloc (Nat.le_refl _) _
          have HB3 := Lib.hid (HBR.out.below hal)
          have HG3 := Lib.hid (grown_below HGR.out hal)
          cases b with
          | false =>
            have HE := Lib.hid ((hdr false).symm.trans HEQ.out)
            clear h4 hal hrv C0 hdr hL2
            go_wp2
            go_roundw
            case rel => exact ⟨i + 1, false, lf, by omega, rfl, by go_num, HB3.out, HG3.out, HE.out, fun e => (by cases e), hb1⟩
            case measure => simp [intOf]; omega
          | true =>
            have hb2 := hb0 rfl
            have HE := Lib.hid ((hdr true).symm.trans HEQ.out)
            have hle := hle lf hb2.1
            have C := Lib.hid (C0 (wr.alloc (.cells #[.int .u8 k2, .int .i64 n2, .string s2, .slice ba2 l2.length cap2] 25)) (HWR.out.trans (hal.mono HWR.out.size)) pl pr hpl hne lf hb2.1 hb1 (lv - 1) (by omega) HB3.out (HRR.out.below hal))
            have hrc := HRR.out.cell 0
            have hrf := fun o => HRR.out.free o
            have hrl := HRR.out.lt
            have hlv1 : ((lv - 1 : Nat) : Int) = (lv : Int) - 1 := by omega
            rw [hlv1] at C
            simp only [Bool.true_and, if_true] at HE
            generalize Va.rgt (.mk k2 n2 s2 l2) (lv - 1) lf = r at HE hle C
            clear h4 hal hrv C0 hdr hL2
            go_wp2_with fail
            with_reducible refine (C.out).mono ?_
            rintro e w2 ⟨rfl, hb4, hg4⟩
            have HB4 := Lib.hid hb4
            have HG4 := Lib.hid (grown_trans HG3.out hg4)
            clear hb4 hg4
            go_wp2
            go_roundw
            case rel => exact ⟨i + 1, r.1, r.2, by omega, rfl, by go_num, HB4.out, HG4.out, HE.out, fun e => ⟨hle.2 e, hb2.2⟩, by omega⟩
            case measure => simp [intOf]; omega
        · obtain rfl : i = l.length := by omega
          have he := HEQ.out
          rw [List.drop_length] at he
          rw [rgtL_nil] at he
          have HE := Lib.hid he
          clear he
          go_wp2
          go_ret
          refine ⟨?_, ?_, HGR.out⟩
          · rw [rgt_4, HD.out, ← HE.out]; rfl
          · rw [rgt_4, HD.out, ← HE.out]; exact HBR.out
    · have HD := Lib.hid (Bool.eq_false_iff.2 hG)
      simp only [Bool.and_eq_true, decide_eq_true_eq, beq_iff_eq] at hG
      go_enter Try.func74, Try.ntmps74
      go_wp2
      all_goals (try (exfalso; simp only [nil0, tl0] at *; omega))
      all_goals (try (have e : s.toList.isEmpty = false := Bool.eq_false_iff.2 (fun h => by rw [ie0, tl0] at h; exact hG ⟨⟨⟨by omega, by omega⟩, by omega⟩, h⟩); simp only [e]))
      all_goals
        go_loopw [8, 99] (fun okv iv wr => ∃ (i : Nat), i ≤ l.length ∧ okv = .bool false ∧ iv = .int .i64 i ∧ Blk wr pl #[.int .i64 (left - 1)] 3 ∧ w.grownBy wr (some pl)) (fun _ i _ => l.length - (intOf i).toNat)
        case atStart => exact ⟨0, by omega, rfl, rfl, HB2.out _, HG2.out _⟩
        case round =>
          obtain ⟨i, hi, rfl, rfl, hbr, hgr⟩ := hrel
          have HBR := Lib.hid hbr
          have HGR := Lib.hid hgr
          have HWR := Lib.hid (HW.out.grown hgr HW.out.size (fun k hk => by cases hk; exact hpl))
          clear hbr hgr
          by_cases hlt : i < l.length
          · obtain ⟨bb, o, x, hba, hok, h4, hrv⟩ := HL.out.at_ i hlt
            have h4' := h4.kept HWR.out.size (HWR.out.block bb h4.lt)
            generalize l[i] = u at hrv
            obtain ⟨k2, n2, s2, l2⟩ := u
            obtain ⟨ba2, cap2, rfl, -, -, -, hL2⟩ := hrv.inv
            obtain ⟨hlt4, a1, a2, a3, a4, hx4, c1, c2, c3, c4⟩ := h4'
            cases hx4
            have hca2 := hL2.le
            subst hba
            have hj0 : (0 : Int) ≤ (i : Int) := by omega
            have hj1 : (i : Int) < (l.length : Int) := by omega
            have hal : Below wr.heap.size wr (wr.alloc (.cells #[.int .u8 k2, .int .i64 n2, .string s2, .slice ba2 l2.length cap2] 25)) := (Below.refl _ _).alloc (Nat.le_refl _) _
            have HB3 := Lib.hid (HBR.out.below hal)
            have HG3 := Lib.hid (grown_below HGR.out hal)
            clear h4 hal hrv hL2
            go_wp2
            go_roundw
            case rel => exact ⟨i + 1, by omega, rfl, by go_num, HB3.out, HG3.out⟩
            case measure => simp [intOf]; omega
          · obtain rfl : i = l.length := by omega
            go_wp2
            go_ret
            refine ⟨?_, ?_, HGR.out⟩
            · rw [rgt_4, HD.out, Va.rgtL_false]; rfl
            · rw [rgt_4, HD.out, Va.rgtL_false]; exact HBR.out
  · rw [rgt_0 k n s l lv left k1 k2 k3 k4 k5]
    have q1 : ((k : Int) == 1) = false := bneI (by omega)
    have q2 : ((k : Int) == 2) = false := bneI (by omega)
    have q3 : ((k : Int) == 3) = false := bneI (by omega)
    have q4 : ((k : Int) == 4) = false := bneI (by omega)
    have q5 : ((k : Int) == 5) = false := bneI (by omega)
    go_enter Try.func74, Try.ntmps74
    go_wp2
    all_goals (go_ret; exact ⟨rfl, HB2.out _, HG2.out _⟩)
def BoPost (B : Nat) (b : Bool) (w : World) (e : Ending) (w' : World) : Prop := e = .returned (.bool b) ∧ Below B w w'
set_option maxHeartbeats 1600000 in
set_option maxRecDepth 100000 in
theorem right_any (ok : Nat → Prop) (v : V) (x : Value) (w : World) (h : RV ok w v x) : Calls Try.prog 46 #[x] w (BoPost w.heap.size (Va.right v) w) := by
  have HV := Lib.hid h
  have hrr := Va.rgt_right v
  obtain ⟨k, n, s, l⟩ := v
  obtain ⟨ba, cap, rfl, hk, hn, hs, hL⟩ := h.inv
  have hcap := hL.le
  rw [← hrr]
  clear h hL hrr
  have CR := Lib.hid (fun W (hb : Below w.heap.size w W) pl pr h1 h2 hl hr => right1_any _ ok w _ HV.out W hb pl pr h1 h2 256 (by omega) (by omega) 16 (by omega) hl hr)
  go_enter Try.func46, Try.ntmps46
  go_wp2_with fail
  generalize hA : Obj.cells #[Value.int IntKind.u8 ↑k, Value.int IntKind.i64 n, Value.string s, Value.slice ba l.length cap] 25 = A
  have e1 : (w.alloc A).heap.size = w.heap.size + 1 := by simp
  have b1 := Blk.new (w.alloc A) #[.int .i64 256] 3
  rw [e1] at b1
  have e2 : ((w.alloc A).alloc (.cells #[.int .i64 256] 3)).heap.size = w.heap.size + 1 + 1 := by simp
  have b2 := Blk.new ((w.alloc A).alloc (.cells #[.int .i64 256] 3)) #[.func (.func 74) #[] #[.pointer (some ⟨w.heap.size + 1, 0, none⟩), .pointer (some ⟨w.heap.size + 1 + 1, 0, none⟩)]] 110
  rw [e2] at b2
  have hbl : Below w.heap.size w (((w.alloc A).alloc (.cells #[.int .i64 256] 3)).alloc (.cells #[.func (.func 74) #[] #[.pointer (some ⟨w.heap.size + 1, 0, none⟩), .pointer (some ⟨w.heap.size + 1 + 1, 0, none⟩)]] 110)) := (((Below.refl _ _).alloc (Nat.le_refl _) _).alloc (by rw [e1]; omega) _).alloc (by rw [e2]; omega) _
  refine (CR.out _ hbl (w.heap.size + 1) (w.heap.size + 1 + 1) (by omega) (by omega) (b1.below ((Below.refl _ _).alloc (Nat.le_refl _) _)) b2).mono ?_
  rintro e w2 ⟨rfl, _, hg⟩
  have HB := Lib.hid (hbl.grown hg hbl.size (fun k hk => by cases hk; omega))
  clear hbl hg b1 b2 CR
  go_wp2
  go_ret
  exact ⟨rfl, HB.out⟩
end Go.Proofs.Ytgamhgeiceakeaa
/- Put, by contract. -/
set_option linter.unusedVariables false
set_option linter.unusedSimpArgs false
namespace Go.Proofs.Ytgamhgeiceakeaa
open Go.RowKit
open Va (V)
theorem str_bytes (w : World) (s : ByteArray) : ∃ c W, (convert 9 27 (.string s)).run Try.prog w = .ok (.slice (some ⟨w.heap.size, 0, none⟩) s.size c) W ∧ Below w.heap.size w W ∧ Rd W (some ⟨w.heap.size, 0, none⟩) s.data.toList := by
  refine ⟨_, _, run_bytes_of_string (P := Try.prog) w 9 27 5 s Try.underlying9 Try.underlying27 Try.underlying5, (Below.refl _ _).drew.alloc (Nat.le_refl _) _, ?_⟩
  refine Or.inr ⟨w.heap.size, 0, rfl, by simp, fun i hi => ?_⟩
  have hi' : i < s.data.size := by simpa using hi
  rw [Nat.zero_add]
  have h := bytesRow_at s (grownCap w s.size 0 5) i hi'
  simp only [Array.getElem_toList]
  rw [← h]
  unfold World.cell?
  rw [show w.heap.size = w.drew.heap.size from rfl, heap_alloc_new]
  rfl
/-- put's own frame: what it is put to is the call's own, the value is told in an elder world -/
def PuP (v : V) : Prop := ∀ (ok : Nat → Prop) (W0 : World) (x : Value) (h : RV ok W0 v x) (w : World) (hw : Below W0.heap.size W0 w) (B : Nat) (hB : W0.heap.size ≤ B) (hBw : B ≤ w.heap.size) (u : Value) (r : List UInt8) (ho : Ow w B u r) (lv : Nat) (hr : Va.okV v lv = true) (hl : r.length + (Va.enc v).length ≤ 274877906944),
  Calls Try.prog 79 #[u, x] w (OwPost B u (r ++ Va.enc v) w)
set_option maxHeartbeats 1600000 in
set_option maxRecDepth 100000 in
theorem put_any : ∀ v, PuP v := V.ind fun k n s l ih => by
  intro ok W0 x h w hw B hB hBw u r ho lv hr hl
  obtain ⟨ba, cap, rfl, hk, hn, hs, hL⟩ := h.inv
  have hlen : l.length ≤ 9223372036854775807 := by have h1 := hL.le; have h2 := hL.max; simp only [maxLen] at h2; omega
  have HL := Lib.hid hL
  have hw0 := hw
  have HW0 := Lib.hid hw
  have hwB : W0.heap.size ≤ w.heap.size := hw.size
  have HW := Lib.hid hw
  have HO := Lib.hid ho
  have HRI := Lib.hid hr
  have HN := Lib.hid hn
  have hk' : (UInt8.ofNat k).toNat = k := by rw [UInt8.toNat_ofNat']; omega
  have hr1 : r.length ≤ 1099511627776 := by omega
  generalize hE : Va.enc (.mk k n s l) = E at hl ⊢
  have HE := Lib.hid hE
  clear h hL hw ho hr hn hE
  have hal : ∀ cs : Array Value, Below w.heap.size w (w.alloc (.cells cs 25)) := fun cs => (Below.refl _ _).alloc (Nat.le_refl _) _
  go_enter Try.func79, Try.ntmps79
  go_upto_region 1 with (fail)
  have F := Blk.new w #[.int .u8 k, .int .i64 n, .string s, .slice ba l.length cap] 25
  have hbw := hal #[.int .u8 k, .int .i64 n, .string s, .slice ba l.length cap]
  have hO1 := HO.out.past hbw
  generalize w.alloc (.cells #[.int .u8 k, .int .i64 n, .string s, .slice ba l.length cap] 25) = W at F hbw hO1 ⊢
  have hBW : B ≤ W.heap.size := Nat.le_trans hBw hbw.size
  have d0 := F.cell 0
  have hltW := F.lt
  go_wp2_with (at_builtin; refine wp_byte _ rfl _ _ rfl B _ r rfl hO1 _ (UInt8.ofNat k) (by rw [hk']) rfl (by omega) hBW ?_)
  intro v1 w1 ho1 hg1 hn1
  have F1 := F.kept hg1.grown (own_ne hO1 F (by decide))
  have HO1 := Lib.hid ho1
  have HG1 := Lib.hid (Gw.of hbw hg1 (fun i hi => (HO.out.lt i hi).2))
  have HN1 := Lib.hid hn1
  have HW1 := Lib.hid (Gw.less hw0 HG1.out hwB (fun i hi => Nat.le_trans hB (HO.out.lt i hi).1))
  have hBW1 : B ≤ w1.heap.size := Nat.le_trans hBW hg1.grown.size
  have HF1 := Lib.hid F1
  have c0 := F1.cell 0
  have c1 := F1.cell 1
  have c2 := F1.cell 2
  have c3 := F1.cell 3
  have hlt1 := F1.lt
  clear F F1 hbw d0 hltW hO1 hBW ho1 hg1 hn1 hw0
  by_cases k2 : k = 2
  · subst k2
    have he : E = UInt8.ofNat 2 :: [UInt8.ofNat n.toNat] := by rw [← HE.out]; unfold Va.enc; rfl
    subst he
    have hri := HRI.out
    unfold Va.okV at hri
    simp only [Nat.reduceEqDiff, if_false, if_true, Bool.and_eq_true, Bool.or_eq_true, beq_iff_eq] at hri
    have hn8 : n % 256 = ((UInt8.ofNat n.toNat).toNat : Nat) := by rw [UInt8.toNat_ofNat']; omega
    have HN8 := Lib.hid hn8
    clear hri hn8
    go_wp2_with (at_builtin; refine wp_byte _ rfl _ _ rfl B v1 (r ++ [UInt8.ofNat 2]) rfl HO1.out _ (UInt8.ofNat n.toNat) HN8.out rfl (by rw [List.length_append]; simp; omega) hBW1 ?_)
    intro v2 w2 ho2 hg2 hn2
    have HO2 := Lib.hid ho2
    have HG2 := Lib.hid (HG1.out.trans hg2)
    have HN2 := Lib.hid hn2
    clear ho2 hg2 hn2
    go_wp2
    go_ret
    exact ⟨v2, rfl, HO2.out, HG2.out, fun _ => HN2.out⟩
  by_cases k3 : k = 3
  · subst k3
    have he : E = UInt8.ofNat 3 :: By.blob s.data.toList := by rw [← HE.out]; unfold Va.enc; rfl
    subst he
    have hri := HRI.out
    unfold Va.okV at hri
    simp only [Nat.reduceEqDiff, if_false, if_true, Bool.and_eq_true, beq_iff_eq, decide_eq_true_eq] at hri
    have hs4 : s.size ≤ 4096 := hri.2.2
    clear hri
    obtain ⟨c5, W5, hcv, hb5, hrd5⟩ := str_bytes w1 s
    have hsl : s.data.toList.length = s.size := by rw [Array.length_toList]; rfl
    have C := Lib.hid (blobPut_any B v1 (r ++ [UInt8.ofNat 3]) (some ⟨w1.heap.size, 0, none⟩) s.size c5 s.data.toList W5 hsl hrd5 (fun e => by cases e) (HO1.out.past hb5) (Nat.le_trans hBW1 hb5.size) (by rw [List.length_append]; simp only [List.length_cons, List.length_nil] at hl ⊢; omega) (by omega) (fun i b o hi e _ => by cases e; have := (HO1.out.lt i hi).2; omega))
    have HB5 := Lib.hid hb5
    clear hb5 hrd5
    go_wp2_with fail
    refine (C.out).mono ?_
    rintro e w2 ⟨v2, rfl, ho2, hg2, hn2⟩
    have HO2 := Lib.hid ho2
    have HG2 := Lib.hid (HG1.out.trans (Gw.of HB5.out hg2 (fun i hi => (HO1.out.lt i hi).2)))
    have HN2 := Lib.hid hn2
    clear ho2 hg2 hn2
    go_wp2
    go_ret
    exact ⟨v2, rfl, by rw [← List.append_cons] at HO2; exact HO2.out, HG2.out, fun _ => HN2.out (by simp)⟩
  by_cases k4 : k = 4
  · subst k4
    have he : E = UInt8.ofNat 4 :: (By.uv l.length ++ Va.encL l) := by rw [← HE.out]; unfold Va.enc; rfl
    subst he
    have hri := HRI.out
    unfold Va.okV at hri
    simp only [Nat.reduceEqDiff, if_false, if_true, Bool.and_eq_true, beq_iff_eq, decide_eq_true_eq] at hri
    have HOKL := Lib.hid hri.2.2
    clear hri
    simp only [List.length_cons, List.length_append] at hl
    have C := Lib.hid (uint_any B v1 (r ++ [UInt8.ofNat 4]) l.length w1 (by omega) HO1.out hBW1 (by rw [List.length_append]; simp only [List.length_cons, List.length_nil]; omega))
    go_wp2_with fail
    refine (C.out).mono ?_
    rintro e w2 ⟨v2, rfl, ho2, hg2, hn2⟩
    have F2 : Blk w2 w.heap.size #[.int .u8 4, .int .i64 n, .string s, .slice ba l.length cap] 25 := HF1.out.kept hg2.grown (own_ne HO1.out HF1.out (by decide))
    have d3 := F2.cell 3
    have hlt2 := F2.lt
    have HO2 := Lib.hid ho2
    have HG2 := Lib.hid (HG1.out.trans hg2)
    have HN2 := Lib.hid (hn2 (by simp))
    clear ho2 hg2 hn2 F2 C
    go_wp2
    go_loopw [0, 40] (fun uu iv wr => ∃ (i : Nat), i ≤ l.length ∧ iv = .int .i64 i ∧ Ow wr B uu (r ++ [UInt8.ofNat 4] ++ By.uv l.length ++ Va.encL (l.take i)) ∧ Gw w wr u uu ∧ uu ≠ .slice none 0 0) (fun _ i _ => l.length - (intOf i).toNat)
    case atStart => exact ⟨0, by omega, rfl, by rw [List.take_zero]; exact (List.append_nil _).symm ▸ HO2.out, HG2.out, HN2.out⟩
    case round =>
      obtain ⟨i, hi, rfl, hor, hgr, hnr⟩ := hrel
      have HOR := Lib.hid hor
      have HGR := Lib.hid hgr
      have HNR := Lib.hid hnr
      have HWR := Lib.hid (Gw.less HW0.out hgr hwB (fun j hj => Nat.le_trans hB (HO.out.lt j hj).1))
      have hBR : B ≤ wr.heap.size := Nat.le_trans hBw hgr.grown.size
      clear hor hgr hnr
      by_cases hlt : i < l.length
      · obtain ⟨bb, o, x, hba, hok, h4, hrv⟩ := HL.out.at_ i hlt
        have h4' := h4.kept HWR.out.size (HWR.out.block bb h4.lt)
        have C0 := ih l[i] (List.getElem_mem hlt) ok W0 x hrv
        have hen : Va.encL (l.take (i + 1)) = Va.encL (l.take i) ++ Va.enc l[i] := by
          rw [List.take_succ_eq_append_getElem hlt, Va.encL_app]; congr 1; exact List.append_nil _
        have hle : (Va.encL (l.take (i + 1))).length ≤ (Va.encL l).length := by
          have := congrArg (fun t => (Va.encL t).length) (List.take_append_drop (i + 1) l)
          simp only [Va.encL_app, List.length_append] at this
          omega
        have hok2 : Va.okV l[i] (lv - 1) = true := (Va.okL_iff l (lv - 1)).1 HOKL.out _ (List.getElem_mem hlt)
        generalize l[i] = y at hrv C0 hen hok2
        obtain ⟨k2, n2, s2, l2⟩ := y
        obtain ⟨ba2, cap2, rfl, -, -, -, hL2⟩ := hrv.inv
        obtain ⟨hlt4, a1, a2, a3, a4, hx4, e1, e2, e3, e4⟩ := h4'
        cases hx4
        have hca2 := hL2.le
        subst hba
        have hj0 : (0 : Int) ≤ (i : Int) := by omega
        have hj1 : (i : Int) < (l.length : Int) := by omega
        have hal2 : Below wr.heap.size wr (wr.alloc (.cells #[.int .u8 k2, .int .i64 n2, .string s2, .slice ba2 l2.length cap2] 25)) := (Below.refl _ _).alloc (Nat.le_refl _) _
        have HAL2 := Lib.hid hal2
        rw [hen, List.length_append] at hle
        have C := Lib.hid (C0 (wr.alloc (.cells #[.int .u8 k2, .int .i64 n2, .string s2, .slice ba2 l2.length cap2] 25)) (HWR.out.trans (hal2.mono HWR.out.size)) B hB (Nat.le_trans hBR hal2.size) _ _ (HOR.out.past hal2) (lv - 1) hok2 (by simp only [List.length_append, List.length_cons, List.length_nil]; omega))
        have HEN := Lib.hid hen
        clear h4 hal2 hrv C0 hL2 hen hle hok2
        go_wp2_with fail
        refine (C.out).mono ?_
        rintro e w5 ⟨v5, rfl, ho5, hg5, hn5⟩
        have HO5 := Lib.hid ho5
        have HG5 := Lib.hid (HGR.out.trans (Gw.of HAL2.out hg5 (fun j hj => (HOR.out.lt j hj).2)))
        have HN5 := Lib.hid (hn5 (by simp))
        clear ho5 hg5 hn5 C
        go_wp2
        go_roundw
        case rel => exact ⟨i + 1, by omega, by go_num, by rw [HEN.out, ← List.append_assoc]; exact HO5.out, HG5.out, HN5.out⟩
        case measure => simp [intOf]; omega
      · obtain rfl : i = l.length := by omega
        rw [List.take_length] at HOR
        go_wp2
        go_ret
        exact ⟨_, rfl, by rw [List.append_cons]; simp only [List.append_assoc] at HOR ⊢; exact HOR.out, HGR.out, fun _ => HNR.out⟩
  · have q2 : ((k : Int) == 2) = false := bneI (by omega)
    have q3 : ((k : Int) == 3) = false := bneI (by omega)
    have q4 : ((k : Int) == 4) = false := bneI (by omega)
    have he : E = UInt8.ofNat k :: By.uv (Va.zg n) := by rw [← HE.out]; unfold Va.enc; rw [if_neg k2, if_neg k3, if_neg k4]
    subst he
    have C := Lib.hid (int_any B v1 (r ++ [UInt8.ofNat k]) n w1 HN.out HO1.out hBW1 (by rw [List.length_append]; simp only [List.length_cons, List.length_nil] at hl ⊢; omega))
    go_wp2_with fail
    refine (C.out).mono ?_
    rintro e w2 ⟨v2, rfl, ho2, hg2, hn2⟩
    have HO2 := Lib.hid ho2
    have HG2 := Lib.hid (HG1.out.trans hg2)
    have HN2 := Lib.hid hn2
    clear ho2 hg2 hn2
    go_wp2
    go_ret
    exact ⟨v2, rfl, by rw [← List.append_cons] at HO2; exact HO2.out, HG2.out, fun _ => HN2.out (by simp)⟩
end Go.Proofs.Ytgamhgeiceakeaa
/- Put, by contract. -/
set_option linter.unusedVariables false
set_option linter.unusedSimpArgs false
namespace Go.Proofs.Ytgamhgeiceakeaa
open Go.RowKit
open Va (V)
theorem enc_len : ∀ v : V, ∀ lv, Va.okV v lv = true → (Va.enc v).length ≤ Va.cnt v * 8192 := V.ind fun k n s l ih => by
  intro lv hok
  have hL : ∀ l : List V, (∀ v ∈ l, ∀ lv, Va.okV v lv = true → (Va.enc v).length ≤ Va.cnt v * 8192) → ∀ lv, Va.okL l lv = true → (Va.encL l).length ≤ Va.cntL l * 8192 := by
    intro l
    induction l with
    | nil => intro _ _ _; simp [Va.encL]
    | cons v l ih2 =>
      intro hP lv h
      unfold Va.okL at h
      rw [Bool.and_eq_true] at h
      have h1 := hP v (List.mem_cons_self ..) lv h.1
      have h2 := ih2 (fun u hu => hP u (List.mem_cons_of_mem _ hu)) lv h.2
      rw [show Va.encL (v :: l) = Va.enc v ++ Va.encL l from rfl, show Va.cntL (v :: l) = Va.cnt v + Va.cntL l from rfl, List.length_append, Nat.add_mul]
      omega
  have hLl := hL l ih (lv - 1)
  have hu := fun m => (By.uv_len m).1
  unfold Va.okV at hok
  unfold Va.enc Va.cnt
  rw [List.length_cons, Nat.add_mul]
  by_cases h2 : k = 2
  · rw [if_pos h2]; simp; omega
  rw [if_neg h2]
  by_cases h3 : k = 3
  · subst h3
    rw [if_pos rfl]
    simp only [Nat.reduceEqDiff, if_false, if_true, Bool.and_eq_true, beq_iff_eq, decide_eq_true_eq] at hok
    have hs4 : s.data.toList.length ≤ 4096 := by rw [Array.length_toList]; exact hok.2.2
    have := (By.uv_len s.data.toList.length).1
    unfold By.blob
    rw [List.length_append]
    omega
  rw [if_neg h3]
  by_cases h4 : k = 4
  · subst h4
    rw [if_pos rfl]
    simp only [Nat.reduceEqDiff, if_false, if_true, Bool.and_eq_true, beq_iff_eq, decide_eq_true_eq] at hok
    have := (By.uv_len l.length).1
    rw [List.length_append]
    have := hLl hok.2.2
    omega
  · rw [if_neg h4]
    have := (By.uv_len (Va.zg n)).1
    omega
/-- what Put answers -/
def PtPost (B : Nat) (u : Value) (r : List UInt8) (v : V) (w : World) (e : Ending) (w' : World) : Prop :=
  (Va.right v = true ∧ ∃ v', e = .returned (.tuple #[v', .int .i64 0]) ∧ Ow w' B v' (r ++ Va.enc v) ∧ Gw w w' u v' ∧ v' ≠ .slice none 0 0) ∨ (Va.right v = false ∧ e = .returned (.tuple #[.slice none 0 0, .int .i64 13]) ∧ Below w.heap.size w w')
set_option maxHeartbeats 1600000 in
set_option maxRecDepth 100000 in
theorem Put_any (ok : Nat → Prop) (v : V) (x : Value) (W0 : World) (h : RV ok W0 v x) (w : World) (hw : Below W0.heap.size W0 w) (B : Nat) (hB : W0.heap.size ≤ B) (hBw : B ≤ w.heap.size) (u : Value) (r : List UInt8) (ho : Ow w B u r) (hl : r.length ≤ 137438953472) :
    Calls Try.prog 69 #[u, x] w (PtPost B u r v w) := by
  have hal : ∀ cs : Array Value, Below w.heap.size w (w.alloc (.cells cs 25)) := fun cs => (Below.refl _ _).alloc (Nat.le_refl _) _
  have hke : ∀ W : World, Below W0.heap.size W0 W → RV (fun b => ok b ∧ b < W0.heap.size) W v x := fun W hW => (h.mono (fun b hb hk => ⟨hk, hb⟩)).kept hW.size (fun b hk _ => hW.block b hk.2)
  have CR := Lib.hid (fun W (hW : Below W0.heap.size W0 W) => right_any _ v x W (hke W hW))
  have HP := Lib.hid (put_any v ok W0 x h)
  have HW := Lib.hid hw
  have HO := Lib.hid ho
  obtain ⟨k, n, s, l⟩ := v
  obtain ⟨ba, cap, rfl, hk, hn, hs, hL⟩ := h.inv
  have hca := hL.le
  clear h hL hw ho hke
  generalize hv : V.mk k n s l = v at CR HP ⊢
  clear hv
  go_enter Try.func69, Try.ntmps69
  go_upto_region 1 with (fail)
  have F := Blk.new w #[.int .u8 k, .int .i64 n, .string s, .slice ba l.length cap] 25
  have hbw := hal #[.int .u8 k, .int .i64 n, .string s, .slice ba l.length cap]
  generalize w.alloc (.cells #[.int .u8 k, .int .i64 n, .string s, .slice ba l.length cap] 25) = W at F hbw ⊢
  have d0 := F.cell 0
  have d1 := F.cell 1
  have d2 := F.cell 2
  have d3 := F.cell 3
  have hlt := F.lt
  have hWW : Below W0.heap.size W0 W := HW.out.trans (hbw.mono HW.out.size)
  have C := Lib.hid (CR.out W hWW)
  have HF := Lib.hid F
  have HBW := Lib.hid hbw
  clear F hbw CR hal
  go_wp2_with fail
  refine (C.out).mono ?_
  rintro e w2 ⟨rfl, hb2⟩
  have F2 := HF.out.below hb2
  have e0 := F2.cell 0
  have e1 := F2.cell 1
  have e2 := F2.cell 2
  have e3 := F2.cell 3
  have hlt2 := F2.lt
  have HB2 := Lib.hid (HBW.out.trans (hb2.mono HBW.out.size))
  clear d0 d1 d2 d3 hlt C F2
  cases hr : Va.right v with
  | true =>
    have hr' := hr
    unfold Va.right at hr'
    rw [Bool.and_eq_true, decide_eq_true_eq] at hr'
    have hel := enc_len v 16 hr'.1
    have C2 := Lib.hid (HP.out w2 (HW.out.trans (HB2.out.mono HW.out.size)) B hB (Nat.le_trans hBw HB2.out.size) u r (HO.out.past HB2.out) 16 hr'.1 (by omega))
    clear hr'
    go_wp2_with fail
    refine (C2.out).mono ?_
    rintro e w3 ⟨v3, rfl, ho3, hg3, hn3⟩
    have HO3 := Lib.hid ho3
    have HG3 := Lib.hid (Gw.of HB2.out hg3 (fun i hi => (HO.out.lt i hi).2))
    have HN3 := Lib.hid hn3
    clear ho3 hg3 hn3
    go_wp2
    go_ret2
    exact Or.inl ⟨hr, v3, rfl, HO3.out, HG3.out, HN3.out (by obtain ⟨k, n, s, l⟩ := v; unfold Va.enc; simp)⟩
  | false =>
    go_wp2
    go_ret2
    exact Or.inr ⟨hr, rfl, HB2.out⟩
end Go.Proofs.Ytgamhgeiceakeaa
/- package value: the getter, by contract. -/
set_option linter.unusedVariables false
set_option linter.unusedSimpArgs false
namespace Go.Proofs.Ytgamhgeiceakeaa
open Go.RowKit
open Va (V)
/-- a getter: its bytes, place, how many may come, error -/
def Gv (w : World) (p : Nat) (v : Value) (at' : Nat) (left : Int) (er : Nat) : Prop := Blk w p #[v, .int .i64 at', .int .i64 left, .int .i64 er] 108
def GvPost (p : Nat) (r v : Value) (at' : Nat) (left : Int) (er : Nat) (w : World) (e : Ending) (w' : World) : Prop := e = .returned r ∧ Gv w' p v at' left er ∧ w.grownBy w' (some p)
theorem drewN_grown (w : World) (k : Nat) (r : Option Nat) : w.grownBy (w.drewN k) r := by
  have h := belowN (Below.refl w.heap.size w) k
  exact ⟨h.os, h.tape, h.output, h.size, fun i hi _ => h.block i hi⟩
set_option maxHeartbeats 1600000 in
set_option maxRecDepth 100000 in
theorem vfail_any (p : Nat) (v : Value) (at' : Nat) (left : Int) (er : Nat) (e2 : Int) (e2n : Nat) (he2 : e2 = (e2n : Nat)) (w : World) (hg : Gv w p v at' left er) :
    Calls Try.prog 81 #[.pointer (some ⟨p, 0, none⟩), .int .i64 e2] w (GvPost p (.tuple #[]) v at' left (if er = 0 then e2n else er) w) := by
  subst he2
  have HG := Lib.hid hg
  have c3 := hg.cell 3
  have hf := fun o => hg.free o
  have hlt := hg.lt
  clear hg
  by_cases h : er = 0
  · subst h
    rw [if_pos rfl]
    have hfin : Gv (w.setCell ⟨p, 3, none⟩ (.int .i64 e2n)) p v at' left e2n := HG.out.set 3 _
    have hgr : w.grownBy (w.setCell ⟨p, 3, none⟩ (.int .i64 e2n)) (some p) := grown_set (grown_refl _ _) _ _
    have HF := Lib.hid hfin
    have HR := Lib.hid hgr
    clear hfin hgr
    go_enter Try.func81, Try.ntmps81
    go_wp2
    go_end0
    exact ⟨rfl, HF.out, HR.out⟩
  · rw [if_neg h]
    have h' : ((er : Int) == 0) = false := bneI (by omega)
    go_enter Try.func81, Try.ntmps81
    go_wp2
    go_end0
    exact ⟨rfl, HG.out, grown_refl _ _⟩
set_option maxHeartbeats 1600000 in
set_option maxRecDepth 100000 in
theorem one_no (p : Nat) (v : Value) (at' : Nat) (left : Int) (er : Nat) (w : World) (hg : Gv w p v at' left er) (h : er ≠ 0) :
    Calls Try.prog 82 #[.pointer (some ⟨p, 0, none⟩)] w (GvPost p (.int .u8 0) v at' left er w) := by
  have HG := Lib.hid (fun k => hg.below (belowN (Below.refl w.heap.size w) k))
  have c3 := hg.cell 3
  have hlt := hg.lt
  have h1 : ((er : Int) == 0) = false := bneI (by omega)
  have h2 : ((er : Int) != 0) = true := by rw [bne_iff_ne]; omega
  clear hg
  go_enter Try.func82, Try.ntmps82
  go_wp2_with fail
  go_quiet (fail)
  go_wp2
  go_ret
  exact ⟨rfl, HG.out _, drewN_grown _ _ _⟩
set_option maxHeartbeats 1600000 in
set_option maxRecDepth 100000 in
theorem one_end (p : Nat) (ba : Option Addr) (n cap : Nat) (left : Int) (w : World) (hg : Gv w p (.slice ba n cap) n left 0) :
    Calls Try.prog 82 #[.pointer (some ⟨p, 0, none⟩)] w (GvPost p (.int .u8 0) (.slice ba n cap) n left 11 w) := by
  have CF := Lib.hid (fun k => vfail_any p (.slice ba n cap) n left 0 11 11 rfl (w.drewN k) (hg.below (belowN (Below.refl w.heap.size w) k)))
  have c3 := hg.cell 3
  have c1 := hg.cell 1
  have c0 := hg.cell 0
  have hlt := hg.lt
  clear hg
  go_enter Try.func82, Try.ntmps82
  go_wp2_with fail
  go_quiet (fail)
  go_wp2_with fail
  refine (CF.out _).mono ?_
  rintro e w2 ⟨rfl, hg2, hr2⟩
  have d3 := hg2.cell 3
  have hlt2 := hg2.lt
  have HG2 := Lib.hid hg2
  have HR2 := Lib.hid (grown_trans (drewN_grown w nq (some p)) hr2)
  clear hg2 hr2
  go_wp2
  go_ret
  exact ⟨rfl, HG2.out, HR2.out⟩
set_option maxHeartbeats 1600000 in
set_option maxRecDepth 100000 in
theorem one_yes (p : Nat) (ba : Option Addr) (n cap : Nat) (l : List UInt8) (at' : Nat) (left : Int) (w : World) (hg : Gv w p (.slice ba n cap) at' left 0) (hn : l.length = n) (hr : Rd w ba l) (hp : l ≠ [] → ∀ b o, ba = some (⟨b, o, none⟩ : Addr) → b ≠ p) (ha : at' < n) (hmx : n ≤ 1099511627776) :
    Calls Try.prog 82 #[.pointer (some ⟨p, 0, none⟩)] w (GvPost p (.int .u8 ((l[at']'(hn ▸ ha)).toNat : Nat)) (.slice ba n cap) (at' + 1) left 0 w) := by
  obtain ⟨b, o, rfl, hb, hc⟩ : ∃ b o, ba = some (⟨b, o, none⟩ : Addr) ∧ b < w.heap.size ∧ ∀ i (h : i < l.length), w.cell? ⟨b, o + i, none⟩ = some (.int .u8 (l[i].toNat : Nat)) := by
    rcases hr with h | h
    · exfalso; rw [h] at hn; simp at hn; omega
    · exact h
  have hbp := hp (by rintro rfl; simp at hn; omega) b o rfl
  have hB : ∀ k : Nat, Blk (w.drewN k) p #[.slice (some ⟨b, o, none⟩) n cap, .int .i64 at', .int .i64 left, .int .i64 (0 : Nat)] 108 := fun k => Blk.below hg (belowN (Below.refl w.heap.size w) k)
  have HB := Lib.hid hB
  have hx := hc at' (hn ▸ ha)
  generalize l[at']'(hn ▸ ha) = x at hx ⊢
  have c3 := hg.cell 3
  have c1 := hg.cell 1
  have c0 := hg.cell 0
  have hf := fun o => hg.free o
  have hlt := hg.lt
  have hne : ((at' : Int) == (n : Int)) = false := bneI (by omega)
  clear hg hc hr hp hB
  go_enter Try.func82, Try.ntmps82
  go_wp2_with fail
  go_quiet (fail)
  go_wp2_with fail
  have B2 := (HB.out nq).set 1 (.int .i64 ((at' : Int) + 1))
  have x2 : ((w.drewN nq).setCell ⟨p, 1, none⟩ (.int .i64 ((at' : Int) + 1))).cell? ⟨b, o + at', none⟩ = some (.int .u8 (x.toNat : Nat)) := by
    have e : (w.drewN nq).cell? ⟨b, o + at', none⟩ = some (.int .u8 (x.toNat : Nat)) := by
      rw [(belowN (Below.refl w.heap.size w) nq).cell (p := ⟨b, o + at', none⟩) hb]; exact hx
    rw [← e]
    exact World.cell?_of_block (w := w.drewN nq) (Below.heap_setCell _ _ _ _ (fun e => hbp (show b = p by simpa using e)))
  have g2 : w.grownBy ((w.drewN nq).setCell ⟨p, 1, none⟩ (.int .i64 ((at' : Int) + 1))) (some p) := grown_set (drewN_grown w nq (some p)) _ _
  clear HB hx c0 c1 c3 hf hlt
  generalize (w.drewN nq).setCell ⟨p, 1, none⟩ (.int .i64 ((at' : Int) + 1)) = W2 at B2 x2 g2 ⊢
  have d0 := B2.cell 0
  have d1 := B2.cell 1
  have hlt2 := B2.lt
  have HB2 := Lib.hid (fun k => B2.below (belowN (Below.refl W2.heap.size W2) k))
  have HG2 := Lib.hid g2
  clear B2 g2
  have hb2 : b < W2.heap.size := by
    unfold World.cell? at x2
    split at x2
    · rename_i h; exact (Array.getElem?_eq_some_iff.1 h).1
    · cases x2
  go_quiet (fail)
  go_wp2
  go_ret
  exact ⟨rfl, HB2.out _, grown_trans HG2.out (drewN_grown _ _ _)⟩
end Go.Proofs.Ytgamhgeiceakeaa
/- package value: the getter's value, by contract: where it is refused at once. -/
set_option linter.unusedVariables false
set_option linter.unusedSimpArgs false
namespace Go.Proofs.Ytgamhgeiceakeaa
open Go.RowKit
open Va (V)
def VaPost (p : Nat) (bs : Value) (r : Va.Rs) (w : World) (e : Ending) (w' : World) : Prop := match r with
  | .ok (v, at2, left2) => ∃ x, e = .returned x ∧ RV (fun b => w.heap.size ≤ b) w' v x ∧ Gv w' p bs at2 left2 0 ∧ w.grownBy w' (some p)
  | .error er => ∃ k n s ba m c at2 left2, e = .returned (.agg #[.int .u8 k, .int .i64 n, .string s, .slice ba m c]) ∧ er ≠ 0 ∧ Gv w' p bs at2 left2 er ∧ w.grownBy w' (some p)
/-- what the last stores leave -/
theorem ret_gv {w w3 : World} {p q at' er : Nat} {bs : Value} {left : Int} (hg : Gv w3 p bs at' left er) (hr : w.grownBy w3 (some p)) (hp : p < w.heap.size) (hq : w.heap.size ≤ q) (a b c d : Value) (o : Obj) :
    Gv (((((w3.setCell ⟨q, 0, none⟩ a).setCell ⟨q, 1, none⟩ b).setCell ⟨q, 2, none⟩ c).setCell ⟨q, 3, none⟩ d).alloc o) p bs at' left er ∧ w.grownBy (((((w3.setCell ⟨q, 0, none⟩ a).setCell ⟨q, 1, none⟩ b).setCell ⟨q, 2, none⟩ c).setCell ⟨q, 3, none⟩ d).alloc o) (some p) := by
  have hb : ∀ k, k ≠ q → (((((w3.setCell ⟨q, 0, none⟩ a).setCell ⟨q, 1, none⟩ b).setCell ⟨q, 2, none⟩ c).setCell ⟨q, 3, none⟩ d)).heap[k]? = w3.heap[k]? := fun k hk => by
    rw [Below.heap_setCell _ _ _ _ (fun e => hk (by simpa using e)), Below.heap_setCell _ _ _ _ (fun e => hk (by simpa using e)), Below.heap_setCell _ _ _ _ (fun e => hk (by simpa using e)), Below.heap_setCell _ _ _ _ (fun e => hk (by simpa using e))]
  have hg1 : Gv (((((w3.setCell ⟨q, 0, none⟩ a).setCell ⟨q, 1, none⟩ b).setCell ⟨q, 2, none⟩ c).setCell ⟨q, 3, none⟩ d)) p bs at' left er := by
    unfold Gv Blk; rw [hb p (by omega)]; exact hg
  have hr1 : w.grownBy (((((w3.setCell ⟨q, 0, none⟩ a).setCell ⟨q, 1, none⟩ b).setCell ⟨q, 2, none⟩ c).setCell ⟨q, 3, none⟩ d)) (some p) := ⟨hr.os, hr.tape, hr.output, by simp; exact hr.size, fun k hk hne => by rw [hb k (by omega), hr.block k hk hne]⟩
  exact ⟨hg1.below ((Below.refl _ _).alloc (Nat.le_refl _) _), grown_below hr1 ((Below.refl _ _).alloc (Nat.le_refl _) _)⟩
set_option maxHeartbeats 1600000 in
set_option maxRecDepth 100000 in
theorem value_short (p : Nat) (ba : Option Addr) (n cap : Nat) (at' left lv : Nat) (w : World) (hg : Gv w p (.slice ba n cap) at' left 0) (h : left = 0 ∨ lv = 0) (hl : left ≤ 256) (hlv : lv ≤ 16) :
    Calls Try.prog 72 #[.pointer (some ⟨p, 0, none⟩), .int .i64 lv] w (VaPost p (.slice ba n cap) (.error 13) w) := by
  have hsz : (w.setCell ⟨p, 2, none⟩ (.int .i64 ((left : Int) - 1))).heap.size = w.heap.size := by simp
  have B1 : Gv ((w.setCell ⟨p, 2, none⟩ (.int .i64 ((left : Int) - 1))).alloc (.cells #[.int .u8 0, .int .i64 0, .string ⟨#[]⟩, .slice none 0 0] 25)) p (.slice ba n cap) at' ((left : Int) - 1) 0 := (hg.set 2 _).below ((Below.refl _ _).alloc (Nat.le_refl _) _)
  have Q1 := Blk.new (w.setCell ⟨p, 2, none⟩ (.int .i64 ((left : Int) - 1))) #[.int .u8 0, .int .i64 0, .string ⟨#[]⟩, .slice none 0 0] 25
  rw [hsz] at Q1
  have G1 : w.grownBy ((w.setCell ⟨p, 2, none⟩ (.int .i64 ((left : Int) - 1))).alloc (.cells #[.int .u8 0, .int .i64 0, .string ⟨#[]⟩, .slice none 0 0] 25)) (some p) := grown_below (grown_set (grown_refl _ _) _ _) ((Below.refl _ _).alloc (Nat.le_refl _) _)
  have hpw : p < w.heap.size := hg.lt
  clear hsz
  have c2 := hg.cell 2
  have hf := fun o => hg.free o
  have hlt := hg.lt
  clear hg
  go_enter Try.func72, Try.ntmps72
  go_upto_region 2 with (fail)
  clear c2 hf hlt
  generalize (w.setCell ⟨p, 2, none⟩ (.int .i64 ((left : Int) - 1))).alloc (.cells #[.int .u8 0, .int .i64 0, .string ⟨#[]⟩, .slice none 0 0] 25) = W1 at B1 Q1 G1 ⊢
  have hne : some w.heap.size ≠ some p := fun e => by have := Option.some.inj e; omega
  have CF := Lib.hid (vfail_any p (.slice ba n cap) at' ((left : Int) - 1) 0 13 13 rfl W1 B1)
  have b2 := B1.cell 2
  have hlt1 := B1.lt
  have HQ1 := Lib.hid Q1
  have HG1 := Lib.hid G1
  have hcond : (left : Int) < 1 ∨ (lv : Int) = 0 := by omega
  clear B1 Q1 G1
  by_cases h0 : left = 0
  · subst h0
    go_wp2_with fail
    refine (CF.out).mono ?_
    rintro e w2 ⟨rfl, hg2, hr2⟩
    have CO := Lib.hid (one_no p (.slice ba n cap) at' _ _ w2 hg2 (by simp))
    have HQ2 := Lib.hid (HQ1.out.kept hr2 hne)
    have HG2 := Lib.hid (grown_trans HG1.out hr2)
    clear hg2 hr2 b2 hlt1 CF
    go_wp2_with fail
    refine (CO.out).mono ?_
    rintro e w3 ⟨rfl, hg3, hr3⟩
    have HGV := Lib.hid hg3
    have c3 := hg3.cell 3
    have hlt3 := hg3.lt
    have Q3 := HQ2.out.kept hr3 hne
    have HQ3 := Lib.hid Q3
    have HG3 := Lib.hid (grown_trans HG2.out hr3)
    have q0 := Q3.cell 0
    have q1 := Q3.cell 1
    have q2 := Q3.cell 2
    have q3 := Q3.cell 3
    have qf := fun o => Q3.free o
    have qlt := Q3.lt
    clear hg3 hr3 CO Q3
    go_wp2
    have hsz3 : ((((w3.setCell ⟨w.heap.size, 0, none⟩ (.int .u8 0)).setCell ⟨w.heap.size, 1, none⟩ (.int .i64 0)).setCell ⟨w.heap.size, 2, none⟩ (.string ⟨#[]⟩)).setCell ⟨w.heap.size, 3, none⟩ (.slice none 0 0)).heap.size = w3.heap.size := by simp
    have QF : Blk (((((w3.setCell ⟨w.heap.size, 0, none⟩ (.int .u8 0)).setCell ⟨w.heap.size, 1, none⟩ (.int .i64 0)).setCell ⟨w.heap.size, 2, none⟩ (.string ⟨#[]⟩)).setCell ⟨w.heap.size, 3, none⟩ (.slice none 0 0)).alloc (.cells #[.int .u8 0, .int .i64 0, .string ⟨#[]⟩, .slice none 0 0] 25)) w.heap.size #[.int .u8 0, .int .i64 0, .string ⟨#[]⟩, .slice none 0 0] 25 :=
      Blk.below ((((HQ3.out.set 0 (.int .u8 0)).set 1 (.int .i64 0)).set 2 (.string ⟨#[]⟩)).set 3 (.slice none 0 0)) ((Below.refl _ _).alloc (Nat.le_refl _) _)
    have GF := ret_gv HGV.out HG3.out hpw (Nat.le_refl w.heap.size) (.int .u8 0) (.int .i64 0) (.string ⟨#[]⟩) (.slice none 0 0) (.cells #[.int .u8 0, .int .i64 0, .string ⟨#[]⟩, .slice none 0 0] 25)
    (try simp only [Exit.inBlock, Exit.then])
    refine bodyPost_ret (results_cell_row rfl _ _ w.heap.size 25 _ (0, 0) _ rfl QF Try.underlying25 rfl (by kernel_rfl)) rfl ?_
    exact ⟨0, 0, ⟨#[]⟩, none, 0, 0, at', _, rfl, by decide, GF.1, GF.2⟩
  · obtain rfl : lv = 0 := by omega
    have hpos : (1 : Int) ≤ (left : Int) := by omega
    go_wp2_with fail
    refine (CF.out).mono ?_
    rintro e w2 ⟨rfl, hg2, hr2⟩
    have CO := Lib.hid (one_no p (.slice ba n cap) at' _ _ w2 hg2 (by simp))
    have HQ2 := Lib.hid (HQ1.out.kept hr2 hne)
    have HG2 := Lib.hid (grown_trans HG1.out hr2)
    clear hg2 hr2 b2 hlt1 CF
    go_wp2_with fail
    refine (CO.out).mono ?_
    rintro e w3 ⟨rfl, hg3, hr3⟩
    have HGV := Lib.hid hg3
    have c3 := hg3.cell 3
    have hlt3 := hg3.lt
    have Q3 := HQ2.out.kept hr3 hne
    have HQ3 := Lib.hid Q3
    have HG3 := Lib.hid (grown_trans HG2.out hr3)
    have q0 := Q3.cell 0
    have q1 := Q3.cell 1
    have q2 := Q3.cell 2
    have q3 := Q3.cell 3
    have qf := fun o => Q3.free o
    have qlt := Q3.lt
    clear hg3 hr3 CO Q3
    go_wp2
    have hsz3 : ((((w3.setCell ⟨w.heap.size, 0, none⟩ (.int .u8 0)).setCell ⟨w.heap.size, 1, none⟩ (.int .i64 0)).setCell ⟨w.heap.size, 2, none⟩ (.string ⟨#[]⟩)).setCell ⟨w.heap.size, 3, none⟩ (.slice none 0 0)).heap.size = w3.heap.size := by simp
    have QF : Blk (((((w3.setCell ⟨w.heap.size, 0, none⟩ (.int .u8 0)).setCell ⟨w.heap.size, 1, none⟩ (.int .i64 0)).setCell ⟨w.heap.size, 2, none⟩ (.string ⟨#[]⟩)).setCell ⟨w.heap.size, 3, none⟩ (.slice none 0 0)).alloc (.cells #[.int .u8 0, .int .i64 0, .string ⟨#[]⟩, .slice none 0 0] 25)) w.heap.size #[.int .u8 0, .int .i64 0, .string ⟨#[]⟩, .slice none 0 0] 25 :=
      Blk.below ((((HQ3.out.set 0 (.int .u8 0)).set 1 (.int .i64 0)).set 2 (.string ⟨#[]⟩)).set 3 (.slice none 0 0)) ((Below.refl _ _).alloc (Nat.le_refl _) _)
    have GF := ret_gv HGV.out HG3.out hpw (Nat.le_refl w.heap.size) (.int .u8 0) (.int .i64 0) (.string ⟨#[]⟩) (.slice none 0 0) (.cells #[.int .u8 0, .int .i64 0, .string ⟨#[]⟩, .slice none 0 0] 25)
    (try simp only [Exit.inBlock, Exit.then])
    refine bodyPost_ret (results_cell_row rfl _ _ w.heap.size 25 _ (0, 0) _ rfl QF Try.underlying25 rfl (by kernel_rfl)) rfl ?_
    exact ⟨0, 0, ⟨#[]⟩, none, 0, 0, at', _, rfl, by decide, GF.1, GF.2⟩
end Go.Proofs.Ytgamhgeiceakeaa
/- package value: the getter's value, by contract: bytes' end, a kind that is none. -/
set_option linter.unusedVariables false
set_option linter.unusedSimpArgs false
namespace Go.Proofs.Ytgamhgeiceakeaa
open Go.RowKit
open Va (V)
set_option maxHeartbeats 1600000 in
set_option maxRecDepth 100000 in
theorem value_end (p : Nat) (ba : Option Addr) (n cap : Nat) (left lv : Nat) (w : World) (hg : Gv w p (.slice ba n cap) n left 0) (hl0 : 1 ≤ left) (hlv0 : 1 ≤ lv) (hl : left ≤ 256) (hlv : lv ≤ 16) :
    Calls Try.prog 72 #[.pointer (some ⟨p, 0, none⟩), .int .i64 lv] w (VaPost p (.slice ba n cap) (.error 11) w) := by
  have hsz : (w.setCell ⟨p, 2, none⟩ (.int .i64 ((left : Int) - 1))).heap.size = w.heap.size := by simp
  have B1 : Gv ((w.setCell ⟨p, 2, none⟩ (.int .i64 ((left : Int) - 1))).alloc (.cells #[.int .u8 0, .int .i64 0, .string ⟨#[]⟩, .slice none 0 0] 25)) p (.slice ba n cap) n ((left : Int) - 1) 0 := (hg.set 2 _).below ((Below.refl _ _).alloc (Nat.le_refl _) _)
  have Q1 := Blk.new (w.setCell ⟨p, 2, none⟩ (.int .i64 ((left : Int) - 1))) #[.int .u8 0, .int .i64 0, .string ⟨#[]⟩, .slice none 0 0] 25
  rw [hsz] at Q1
  have G1 : w.grownBy ((w.setCell ⟨p, 2, none⟩ (.int .i64 ((left : Int) - 1))).alloc (.cells #[.int .u8 0, .int .i64 0, .string ⟨#[]⟩, .slice none 0 0] 25)) (some p) := grown_below (grown_set (grown_refl _ _) _ _) ((Below.refl _ _).alloc (Nat.le_refl _) _)
  have hpw : p < w.heap.size := hg.lt
  clear hsz
  have c2 := hg.cell 2
  have hf := fun o => hg.free o
  have hlt := hg.lt
  clear hg
  go_enter Try.func72, Try.ntmps72
  go_upto_region 2 with (fail)
  clear c2 hf hlt
  generalize (w.setCell ⟨p, 2, none⟩ (.int .i64 ((left : Int) - 1))).alloc (.cells #[.int .u8 0, .int .i64 0, .string ⟨#[]⟩, .slice none 0 0] 25) = W1 at B1 Q1 G1 ⊢
  have hne : some w.heap.size ≠ some p := fun e => by have := Option.some.inj e; omega
  have CO := Lib.hid (one_end p ba n cap ((left : Int) - 1) W1 B1)
  have b2 := B1.cell 2
  have hlt1 := B1.lt
  have HQ1 := Lib.hid Q1
  have HG1 := Lib.hid G1
  have hz : ((lv : Int) == 0) = false := bneI (by omega)
  have hpos : (1 : Int) ≤ (left : Int) := by omega
  clear B1 Q1 G1
  go_wp2_with fail
  refine (CO.out).mono ?_
  rintro e w3 ⟨rfl, hg3, hr3⟩
  have HGV := Lib.hid hg3
  have c3 := hg3.cell 3
  have hlt3 := hg3.lt
  have Q3 := HQ1.out.kept hr3 hne
  have HQ3 := Lib.hid Q3
  have HG3 := Lib.hid (grown_trans HG1.out hr3)
  have q0 := Q3.cell 0
  have q1 := Q3.cell 1
  have q2 := Q3.cell 2
  have q3 := Q3.cell 3
  have qf := fun o => Q3.free o
  have qlt := Q3.lt
  clear hg3 hr3 CO Q3 b2 hlt1
  go_wp2
  have QF : Blk (((((w3.setCell ⟨w.heap.size, 0, none⟩ (.int .u8 0)).setCell ⟨w.heap.size, 1, none⟩ (.int .i64 0)).setCell ⟨w.heap.size, 2, none⟩ (.string ⟨#[]⟩)).setCell ⟨w.heap.size, 3, none⟩ (.slice none 0 0)).alloc (.cells #[.int .u8 0, .int .i64 0, .string ⟨#[]⟩, .slice none 0 0] 25)) w.heap.size #[.int .u8 0, .int .i64 0, .string ⟨#[]⟩, .slice none 0 0] 25 :=
    Blk.below ((((HQ3.out.set 0 (.int .u8 0)).set 1 (.int .i64 0)).set 2 (.string ⟨#[]⟩)).set 3 (.slice none 0 0)) ((Below.refl _ _).alloc (Nat.le_refl _) _)
  have GF := ret_gv HGV.out HG3.out hpw (Nat.le_refl w.heap.size) (.int .u8 0) (.int .i64 0) (.string ⟨#[]⟩) (.slice none 0 0) (.cells #[.int .u8 0, .int .i64 0, .string ⟨#[]⟩, .slice none 0 0] 25)
  (try simp only [Exit.inBlock, Exit.then])
  refine bodyPost_ret (results_cell_row rfl _ _ w.heap.size 25 _ (0, 0) _ rfl QF Try.underlying25 rfl (by kernel_rfl)) rfl ?_
  exact ⟨0, 0, ⟨#[]⟩, none, 0, 0, n, _, rfl, by decide, GF.1, GF.2⟩
theorem ret_gv0 {w w3 : World} {p q at' er : Nat} {bs : Value} {left : Int} (hg : Gv w3 p bs at' left er) (hr : w.grownBy w3 (some p)) (hp : p < w.heap.size) (hq : w.heap.size ≤ q) (a b c d : Value) :
    Gv ((((w3.setCell ⟨q, 0, none⟩ a).setCell ⟨q, 1, none⟩ b).setCell ⟨q, 2, none⟩ c).setCell ⟨q, 3, none⟩ d) p bs at' left er ∧ w.grownBy ((((w3.setCell ⟨q, 0, none⟩ a).setCell ⟨q, 1, none⟩ b).setCell ⟨q, 2, none⟩ c).setCell ⟨q, 3, none⟩ d) (some p) := by
  have hb : ∀ k, k ≠ q → (((((w3.setCell ⟨q, 0, none⟩ a).setCell ⟨q, 1, none⟩ b).setCell ⟨q, 2, none⟩ c).setCell ⟨q, 3, none⟩ d)).heap[k]? = w3.heap[k]? := fun k hk => by
    rw [Below.heap_setCell _ _ _ _ (fun e => hk (by simpa using e)), Below.heap_setCell _ _ _ _ (fun e => hk (by simpa using e)), Below.heap_setCell _ _ _ _ (fun e => hk (by simpa using e)), Below.heap_setCell _ _ _ _ (fun e => hk (by simpa using e))]
  have hg1 : Gv (((((w3.setCell ⟨q, 0, none⟩ a).setCell ⟨q, 1, none⟩ b).setCell ⟨q, 2, none⟩ c).setCell ⟨q, 3, none⟩ d)) p bs at' left er := by
    unfold Gv Blk; rw [hb p (by omega)]; exact hg
  have hr1 : w.grownBy (((((w3.setCell ⟨q, 0, none⟩ a).setCell ⟨q, 1, none⟩ b).setCell ⟨q, 2, none⟩ c).setCell ⟨q, 3, none⟩ d)) (some p) := ⟨hr.os, hr.tape, hr.output, by simp; exact hr.size, fun k hk hne => by rw [hb k (by omega), hr.block k hk hne]⟩
  exact ⟨hg1, hr1⟩
theorem rd_grown {w W : World} {ba : Option Addr} {l : List UInt8} {p : Nat} (hr : Rd w ba l) (g : w.grownBy W (some p)) (hp : l ≠ [] → ∀ b o, ba = some (⟨b, o, none⟩ : Addr) → b ≠ p) : Rd W ba l := by
  by_cases hl : l = []
  · exact Or.inl hl
  · exact hr.kept g (hp hl)
set_option maxHeartbeats 1600000 in
set_option maxRecDepth 100000 in
theorem value_kind (p : Nat) (ba : Option Addr) (n cap : Nat) (l : List UInt8) (at' left lv : Nat) (w : World) (hg : Gv w p (.slice ba n cap) at' left 0) (hn : l.length = n) (hr : Rd w ba l) (hp : l ≠ [] → ∀ b o, ba = some (⟨b, o, none⟩ : Addr) → b ≠ p) (ha : at' < n) (hmx : n ≤ 1099511627776) (hl0 : 1 ≤ left) (hlv0 : 1 ≤ lv) (hl : left ≤ 256) (hlv : lv ≤ 16)
    (hx : ¬ ((l[at']'(hn ▸ ha)).toNat = 1 ∨ (l[at']'(hn ▸ ha)).toNat = 2 ∨ (l[at']'(hn ▸ ha)).toNat = 3 ∨ (l[at']'(hn ▸ ha)).toNat = 4 ∨ (l[at']'(hn ▸ ha)).toNat = 5)) :
    Calls Try.prog 72 #[.pointer (some ⟨p, 0, none⟩), .int .i64 lv] w (VaPost p (.slice ba n cap) (.error 10) w) := by
  have hsz : (w.setCell ⟨p, 2, none⟩ (.int .i64 ((left : Int) - 1))).heap.size = w.heap.size := by simp
  have B1 : Gv ((w.setCell ⟨p, 2, none⟩ (.int .i64 ((left : Int) - 1))).alloc (.cells #[.int .u8 0, .int .i64 0, .string ⟨#[]⟩, .slice none 0 0] 25)) p (.slice ba n cap) at' ((left : Int) - 1) 0 := (hg.set 2 _).below ((Below.refl _ _).alloc (Nat.le_refl _) _)
  have Q1 := Blk.new (w.setCell ⟨p, 2, none⟩ (.int .i64 ((left : Int) - 1))) #[.int .u8 0, .int .i64 0, .string ⟨#[]⟩, .slice none 0 0] 25
  rw [hsz] at Q1
  have G1 : w.grownBy ((w.setCell ⟨p, 2, none⟩ (.int .i64 ((left : Int) - 1))).alloc (.cells #[.int .u8 0, .int .i64 0, .string ⟨#[]⟩, .slice none 0 0] 25)) (some p) := grown_below (grown_set (grown_refl _ _) _ _) ((Below.refl _ _).alloc (Nat.le_refl _) _)
  have hpw : p < w.heap.size := hg.lt
  clear hsz
  have c2 := hg.cell 2
  have hf := fun o => hg.free o
  have hlt := hg.lt
  clear hg
  go_enter Try.func72, Try.ntmps72
  go_upto_region 2 with (fail)
  clear c2 hf hlt
  generalize (w.setCell ⟨p, 2, none⟩ (.int .i64 ((left : Int) - 1))).alloc (.cells #[.int .u8 0, .int .i64 0, .string ⟨#[]⟩, .slice none 0 0] 25) = W1 at B1 Q1 G1 ⊢
  have hne : some w.heap.size ≠ some p := fun e => by have := Option.some.inj e; omega
  have CO := Lib.hid (one_yes p ba n cap l at' ((left : Int) - 1) W1 B1 hn (rd_grown hr G1 hp) hp ha hmx)
  have b2 := B1.cell 2
  have hlt1 := B1.lt
  have HQ1 := Lib.hid Q1
  have HG1 := Lib.hid G1
  have hz : ((lv : Int) == 0) = false := bneI (by omega)
  have hpos : (1 : Int) ≤ (left : Int) := by omega
  have HR := Lib.hid (fun W (g : w.grownBy W (some p)) => rd_grown hr g hp)
  generalize l[at']'(hn ▸ ha) = x at CO hx
  have hx8 : x.toNat < 256 := x.toNat_lt
  generalize hxk : x.toNat = k at CO hx hx8
  clear B1 Q1 G1 hr
  go_wp2_with fail
  refine (CO.out).mono ?_
  rintro e w3 ⟨rfl, hg3, hr3⟩
  have HGV := Lib.hid hg3
  have Q3 := HQ1.out.kept hr3 hne
  have HG3 := Lib.hid (grown_trans HG1.out hr3)
  have hs3 : w.heap.size ≤ w3.heap.size := HG3.out.size
  have HQ3 := Lib.hid Q3
  have c3 := hg3.cell 3
  have c1 := hg3.cell 1
  have hlt3 := hg3.lt
  clear hg3 hr3 CO Q3 b2 hlt1
  go_wp2_with fail
  have T4 := Blk.new w3 #[.int .u8 k, .int .i64 0, .string ⟨#[]⟩, .slice none 0 0] 25
  have hal : Below w3.heap.size w3 (w3.alloc (.cells #[.int .u8 k, .int .i64 0, .string ⟨#[]⟩, .slice none 0 0] 25)) := (Below.refl _ _).alloc (Nat.le_refl _) _
  have GV4 : Gv _ p (.slice ba n cap) (at' + 1) ((left : Int) - 1) 0 := HGV.out.below hal
  have Q4 := HQ3.out.below hal
  have G4 := grown_below HG3.out hal
  have hr0 : w.heap.size < w3.heap.size := HQ3.out.lt
  clear HGV HQ3 HG3 c3 c1 hlt3 hal hs3
  generalize w3.alloc (.cells #[.int .u8 k, .int .i64 0, .string ⟨#[]⟩, .slice none 0 0] 25) = W4 at T4 GV4 Q4 G4 ⊢
  generalize w3.heap.size = r0 at T4 hr0 ⊢
  have d1 := GV4.cell 1
  have hlt4 := GV4.lt
  have HF := Lib.hid (fun k => (⟨T4.below (belowN (Below.refl W4.heap.size W4) k), GV4.below (belowN (Below.refl W4.heap.size W4) k), Q4.below (belowN (Below.refl W4.heap.size W4) k), grown_trans G4 (drewN_grown W4 k _)⟩ : _ ∧ _ ∧ _ ∧ _))
  clear T4 GV4 Q4 G4
  go_quiet (fail)
  obtain ⟨T5, GV5, Q5, G5⟩ := HF.out nq
  clear HF d1 hlt4
  generalize W4.drewN nq = W5 at T5 GV5 Q5 G5 ⊢
  have t0 := T5.cell 0
  have t1 := T5.cell 1
  have t2 := T5.cell 2
  have t3 := T5.cell 3
  have tlt := T5.lt
  have HT5 := Lib.hid T5
  have HV5 := Lib.hid GV5
  have HQ5 := Lib.hid Q5
  have HG5 := Lib.hid G5
  have hnr : some r0 ≠ some p := fun e => by have := Option.some.inj e; omega
  clear T5 GV5 Q5 G5
  have CF := Lib.hid (vfail_any p (.slice ba n cap) (at' + 1) ((left : Int) - 1) 0 10 10 rfl W5 HV5.out)
  have z1 : ((k : Int) == 1) = false := bneI (by omega)
  have z2 : ((k : Int) == 2) = false := bneI (by omega)
  have z3 : ((k : Int) == 3) = false := bneI (by omega)
  have z4 : ((k : Int) == 4) = false := bneI (by omega)
  have z5 : ((k : Int) == 5) = false := bneI (by omega)
  go_wp2_with fail
  refine (CF.out).mono ?_
  rintro e w6 ⟨rfl, hg6, hr6⟩
  have T6 := HT5.out.kept hr6 hnr
  have Q6 := HQ5.out.kept hr6 hne
  have v0 := T6.cell 0
  have v1 := T6.cell 1
  have v2 := T6.cell 2
  have v3 := T6.cell 3
  have vlt := T6.lt
  have q0 := Q6.cell 0
  have q1 := Q6.cell 1
  have q2 := Q6.cell 2
  have q3 := Q6.cell 3
  have qf := fun o => Q6.free o
  have qlt := Q6.lt
  have c1 := hg6.cell 1
  have cf := fun o => hg6.free o
  have hlt6 := hg6.lt
  clear t0 t1 t2 t3 tlt
  have HQ6 := Lib.hid Q6
  have HG6 := Lib.hid (grown_set (grown_trans HG5.out hr6) 1 (.int .i64 ((at' : Int) + 1)))
  have HV6 : Hid (Gv (w6.setCell ⟨p, 1, none⟩ (.int .i64 ((at' : Int) + 1))) p (.slice ba n cap) (at' + 1) ((left : Int) - 1) 10) := Lib.hid (hg6.set 1 (.int .i64 ((at' : Int) + 1)))
  have HQ7 : Hid (Blk (w6.setCell ⟨p, 1, none⟩ (.int .i64 ((at' : Int) + 1))) w.heap.size #[.int .u8 0, .int .i64 0, .string ⟨#[]⟩, .slice none 0 0] 25) := Lib.hid (Q6.kept (grown_set (grown_refl w6 (some p)) _ _) hne)
  clear hg6 hr6 T6 Q6
  go_wp2
  have QF := (((HQ7.out.set 0 (.int .u8 k)).set 1 (.int .i64 0)).set 2 (.string ⟨#[]⟩)).set 3 (.slice none 0 0)
  have GF := ret_gv0 HV6.out HG6.out hpw (Nat.le_refl w.heap.size) (.int .u8 k) (.int .i64 0) (.string ⟨#[]⟩) (.slice none 0 0)
  (try simp only [Exit.inBlock, Exit.then])
  refine bodyPost_ret (results_cell_row rfl _ _ w.heap.size 25 _ (0, 0) _ rfl QF Try.underlying25 rfl (by kernel_rfl)) rfl ?_
  exact ⟨k, 0, ⟨#[]⟩, none, 0, 0, at' + 1, _, rfl, by decide, GF.1, GF.2⟩
end Go.Proofs.Ytgamhgeiceakeaa
/- package value: the getter's value, by contract: ints and actors. -/
set_option linter.unusedVariables false
set_option linter.unusedSimpArgs false
namespace Go.Proofs.Ytgamhgeiceakeaa
open Go.RowKit
open Va (V)
theorem grown_fresh {w W : World} {p r0 : Nat} (h : w.grownBy W (some p)) (hr : w.heap.size < r0) (i : Nat) (u : Value) : w.grownBy (W.setCell ⟨r0, i, none⟩ u) (some p) :=
  ⟨h.os, h.tape, h.output, by simp; exact h.size, fun k hk hne => (Below.heap_setCell _ _ _ _ (fun e => by
    have e' : r0 = k ∨ k = r0 := by first | exact Or.inl (by simpa using e) | exact Or.inr (by simpa using e)
    omega)).trans (h.block k hk hne)⟩
set_option maxHeartbeats 3200000 in
set_option maxRecDepth 100000 in
theorem value_int (p : Nat) (ba : Option Addr) (n cap : Nat) (l : List UInt8) (at' left lv : Nat) (w : World) (hg : Gv w p (.slice ba n cap) at' left 0) (hn : l.length = n) (hr : Rd w ba l) (hp : l ≠ [] → ∀ b o, ba = some (⟨b, o, none⟩ : Addr) → b ≠ p) (ha : at' < n) (hmx : n ≤ 1099511627776) (hl0 : 1 ≤ left) (hlv0 : 1 ≤ lv) (hl : left ≤ 256) (hlv : lv ≤ 16)
    (m c er : Nat) (hgu : By.gu (l.drop (at' + 1)) = (m, c, er)) (R : Va.Rs)
    (hx : ((l[at']'(hn ▸ ha)).toNat = 1 ∨ (l[at']'(hn ▸ ha)).toNat = 5) ∧ R = if er ≠ 0 then .error er else if (l[at']'(hn ▸ ha)).toNat = 5 ∧ Va.ung m < 0 then .error 13 else .ok (.mk (l[at']'(hn ▸ ha)).toNat (Va.ung m) Va.em [], at' + 1 + c, left - 1)) :
    Calls Try.prog 72 #[.pointer (some ⟨p, 0, none⟩), .int .i64 lv] w (VaPost p (.slice ba n cap) R w) := by
  obtain ⟨z, hz⟩ : ∃ z : Int, z = Va.ung (if er = 0 then m else 0) := ⟨_, rfl⟩
  obtain ⟨nx, hnx⟩ : ∃ nx : Nat, nx = if er = 0 then at' + 1 + c else 0 := ⟨_, rfl⟩
  have CI : Hid (∀ W, Rd W ba l → Calls Try.prog 36 #[.slice ba n cap, .int .i64 ((at' : Int) + 1)] W fun e W' => e = .returned (.tuple #[.int .i64 z, .int .i64 nx, .int .i64 er]) ∧ W = W') := Lib.hid fun W h => (getInt_any ba n cap l (at' + 1) W hn h (by omega) hmx).mono fun e W' hp => by
    unfold GiPost at hp
    rw [hgu] at hp
    obtain ⟨he, hw⟩ := hp
    exact ⟨by rw [he, hz, hnx], hw⟩
  have HZI : Hid (Va.I64 z) := Lib.hid (by
    rw [hz]
    refine Va.ung_64 ?_
    by_cases h : er = 0
    · subst h; rw [if_pos rfl]; exact (Va.gu_inv _ _ _ hgu).2.2.2
    · rw [if_neg h]; omega)
  have HZ := Lib.hid hz
  have HNX := Lib.hid hnx
  clear hgu hz hnx
  replace hx := Lib.hid hx
  have hsz : (w.setCell ⟨p, 2, none⟩ (.int .i64 ((left : Int) - 1))).heap.size = w.heap.size := by simp
  have B1 : Gv ((w.setCell ⟨p, 2, none⟩ (.int .i64 ((left : Int) - 1))).alloc (.cells #[.int .u8 0, .int .i64 0, .string ⟨#[]⟩, .slice none 0 0] 25)) p (.slice ba n cap) at' ((left : Int) - 1) 0 := (hg.set 2 _).below ((Below.refl _ _).alloc (Nat.le_refl _) _)
  have Q1 := Blk.new (w.setCell ⟨p, 2, none⟩ (.int .i64 ((left : Int) - 1))) #[.int .u8 0, .int .i64 0, .string ⟨#[]⟩, .slice none 0 0] 25
  rw [hsz] at Q1
  have G1 : w.grownBy ((w.setCell ⟨p, 2, none⟩ (.int .i64 ((left : Int) - 1))).alloc (.cells #[.int .u8 0, .int .i64 0, .string ⟨#[]⟩, .slice none 0 0] 25)) (some p) := grown_below (grown_set (grown_refl _ _) _ _) ((Below.refl _ _).alloc (Nat.le_refl _) _)
  have hpw : p < w.heap.size := hg.lt
  clear hsz
  have c2 := hg.cell 2
  have hf := fun o => hg.free o
  have hlt := hg.lt
  clear hg
  go_enter Try.func72, Try.ntmps72
  go_upto_region 2 with (fail)
  clear c2 hf hlt
  generalize (w.setCell ⟨p, 2, none⟩ (.int .i64 ((left : Int) - 1))).alloc (.cells #[.int .u8 0, .int .i64 0, .string ⟨#[]⟩, .slice none 0 0] 25) = W1 at B1 Q1 G1 ⊢
  have hne : some w.heap.size ≠ some p := fun e => by have := Option.some.inj e; omega
  have CO := Lib.hid (one_yes p ba n cap l at' ((left : Int) - 1) W1 B1 hn (rd_grown hr G1 hp) hp ha hmx)
  have b2 := B1.cell 2
  have hlt1 := B1.lt
  have HQ1 := Lib.hid Q1
  have HG1 := Lib.hid G1
  have hz : ((lv : Int) == 0) = false := bneI (by omega)
  have hpos : (1 : Int) ≤ (left : Int) := by omega
  have HR := Lib.hid (fun W (g : w.grownBy W (some p)) => rd_grown hr g hp)
  generalize l[at']'(hn ▸ ha) = x at CO hx
  have hx8 : x.toNat < 256 := x.toNat_lt
  generalize hxk : x.toNat = k at CO hx hx8
  clear B1 Q1 G1 hr
  go_wp2_with fail
  refine (CO.out).mono ?_
  rintro e w3 ⟨rfl, hg3, hr3⟩
  have HGV := Lib.hid hg3
  have Q3 := HQ1.out.kept hr3 hne
  have HG3 := Lib.hid (grown_trans HG1.out hr3)
  have hs3 : w.heap.size ≤ w3.heap.size := HG3.out.size
  have HQ3 := Lib.hid Q3
  have c3 := hg3.cell 3
  have c1 := hg3.cell 1
  have hlt3 := hg3.lt
  clear hg3 hr3 CO Q3 b2 hlt1
  go_wp2_with fail
  have T4 := Blk.new w3 #[.int .u8 k, .int .i64 0, .string ⟨#[]⟩, .slice none 0 0] 25
  have hal : Below w3.heap.size w3 (w3.alloc (.cells #[.int .u8 k, .int .i64 0, .string ⟨#[]⟩, .slice none 0 0] 25)) := (Below.refl _ _).alloc (Nat.le_refl _) _
  have GV4 : Gv _ p (.slice ba n cap) (at' + 1) ((left : Int) - 1) 0 := HGV.out.below hal
  have Q4 := HQ3.out.below hal
  have G4 := grown_below HG3.out hal
  have hr0 : w.heap.size < w3.heap.size := HQ3.out.lt
  clear HGV HQ3 HG3 c3 c1 hlt3 hal hs3
  generalize w3.alloc (.cells #[.int .u8 k, .int .i64 0, .string ⟨#[]⟩, .slice none 0 0] 25) = W4 at T4 GV4 Q4 G4 ⊢
  generalize w3.heap.size = r0 at T4 hr0 ⊢
  have d1 := GV4.cell 1
  have hlt4 := GV4.lt
  have HF := Lib.hid (fun k => (⟨T4.below (belowN (Below.refl W4.heap.size W4) k), GV4.below (belowN (Below.refl W4.heap.size W4) k), Q4.below (belowN (Below.refl W4.heap.size W4) k), grown_trans G4 (drewN_grown W4 k _)⟩ : _ ∧ _ ∧ _ ∧ _))
  clear T4 GV4 Q4 G4
  go_quiet (fail)
  obtain ⟨T5, GV5, Q5, G5⟩ := HF.out nq
  clear HF d1 hlt4
  generalize W4.drewN nq = W5 at T5 GV5 Q5 G5 ⊢
  have t0 := T5.cell 0
  have t1 := T5.cell 1
  have t2 := T5.cell 2
  have t3 := T5.cell 3
  have tlt := T5.lt
  have HT5 := Lib.hid T5
  have HV5 := Lib.hid GV5
  have HQ5 := Lib.hid Q5
  have HG5 := Lib.hid G5
  have hnr : some r0 ≠ some p := fun e => by have := Option.some.inj e; omega
  clear T5 GV5 Q5 G5
  obtain ⟨hK, hR⟩ := hx.out
  clear hx
  have HRR := Lib.hid hR
  clear hR
  have HR5 := Lib.hid (HR.out W5 HG5.out)
  have y0 := HV5.out.cell 0
  have y1 := HV5.out.cell 1
  have tf := fun o => HT5.out.free o
  have hlt5 := HV5.out.lt
  rcases hK with hK | hK
  · subst hK
    go_wp2_with fail
    refine wp_region_T_drew (fun w' => w'.cell? ⟨p, 0, none⟩ = some (.slice ba n cap) ∧ w'.cell? ⟨p, 1, none⟩ = some (.int .i64 ((at' : Int) + 1))) 17 (by kernel_rfl) ⟨y0, y1⟩ (fun hS => ?_)
    refine wpAnyT_take 0 rfl (by kernel_rfl) (by kernel_rfl) (by decide) (by kernel_rfl) (by kernel_rfl) (fun _ _ _ h => h) hS (by kernel_rfl) (v := ?_) ?_ ?_
    rotate_left
    · intro w' hSw; (try dsimp only at hSw); go_simp; (try with_reducible rfl)
    simp only [Act.put, List.setIfInBounds_toArray, List.set_cons_zero, List.set_cons_succ]
    refine wpAnyT_take 1 rfl (by kernel_rfl) (by kernel_rfl) (by decide) (by kernel_rfl) (by kernel_rfl) (fun _ _ _ h => h) hS (by kernel_rfl) (v := ?_) ?_ ?_
    rotate_left
    · intro w' hSw; (try dsimp only at hSw); go_simp; (try with_reducible rfl)
    simp only [Act.put, List.setIfInBounds_toArray, List.set_cons_zero, List.set_cons_succ]
    refine wpAnyT_take 2 rfl (by kernel_rfl) (by kernel_rfl) (by decide) (by kernel_rfl) (by kernel_rfl) (fun _ _ _ h => h) hS (by kernel_rfl) (v := ?_) ?_ ?_
    rotate_left
    · intro w' hSw; (try dsimp only at hSw); go_simp; (try with_reducible rfl)
    simp only [Act.put, List.setIfInBounds_toArray, List.set_cons_zero, List.set_cons_succ]
    refine wpAnyT_take 3 rfl (by kernel_rfl) (by kernel_rfl) (by decide) (by kernel_rfl) (by kernel_rfl) (fun _ _ _ h => h) hS (by kernel_rfl) (v := ?_) ?_ ?_
    rotate_left
    · intro w' hSw; (try dsimp only at hSw); go_simp; (try with_reducible rfl)
    simp only [Act.put, List.setIfInBounds_toArray, List.set_cons_zero, List.set_cons_succ]
    refine wpAnyT_take 4 rfl (by kernel_rfl) (by kernel_rfl) (by decide) (by kernel_rfl) (by kernel_rfl) (fun _ _ _ h => h) hS (by kernel_rfl) (v := ?_) ?_ ?_
    rotate_left
    · intro w' hSw; (try dsimp only at hSw); go_simp; (try with_reducible rfl)
    simp only [Act.put, List.setIfInBounds_toArray, List.set_cons_zero, List.set_cons_succ]
    refine wpAnyT_take 5 rfl (by kernel_rfl) (by kernel_rfl) (by decide) (by kernel_rfl) (by kernel_rfl) (fun _ _ _ h => h) hS (by kernel_rfl) (v := ?_) ?_ ?_
    rotate_left
    · intro w' hSw; (try dsimp only at hSw); go_simp; (try with_reducible rfl)
    simp only [Act.put, List.setIfInBounds_toArray, List.set_cons_zero, List.set_cons_succ]
    refine wpAnyT_take 6 rfl (by kernel_rfl) (by kernel_rfl) (by decide) (by kernel_rfl) (by kernel_rfl) (fun _ _ _ h => h) hS (by kernel_rfl) (v := ?_) ?_ ?_
    rotate_left
    · intro w' hSw; (try dsimp only at hSw); go_simp; (try with_reducible rfl)
    simp only [Act.put, List.setIfInBounds_toArray, List.set_cons_zero, List.set_cons_succ]
    refine wpAnyT_take 7 rfl (by kernel_rfl) (by kernel_rfl) (by decide) (by kernel_rfl) (by kernel_rfl) (fun _ _ _ h => h) hS (by kernel_rfl) (v := ?_) ?_ ?_
    rotate_left
    · intro w' hSw; (try dsimp only at hSw); go_simp; (try with_reducible rfl)
    simp only [Act.put, List.setIfInBounds_toArray, List.set_cons_zero, List.set_cons_succ]
    refine wpAnyT_one 8 (by kernel_rfl) rfl (by kernel_rfl) (fun K hK => ?_)
    go_simp
    refine (CI.out _ (HR5.out.below ((Below.refl _ _).drew))).mono ?_
    rintro e w6 ⟨rfl, rfl⟩
    refine hK _ _ (fun _ => hS) ?_
    clear hK K
    refine wpAnyT_take 9 rfl (by kernel_rfl) (by kernel_rfl) (by decide) (by kernel_rfl) (by kernel_rfl) (fun _ _ _ h => h) hS (by kernel_rfl) (v := ?_) ?_ ?_
    rotate_left
    · intro w' hSw; (try dsimp only at hSw); go_simp; (try with_reducible rfl)
    simp only [Act.put, List.setIfInBounds_toArray, List.set_cons_zero, List.set_cons_succ]
    refine wpAnyT_take 10 rfl (by kernel_rfl) (by kernel_rfl) (by decide) (by kernel_rfl) (by kernel_rfl) (fun _ _ _ h => h) hS (by kernel_rfl) (v := ?_) ?_ ?_
    rotate_left
    · intro w' hSw; (try dsimp only at hSw); go_simp; (try with_reducible rfl)
    simp only [Act.put, List.setIfInBounds_toArray, List.set_cons_zero, List.set_cons_succ]
    refine wpAnyT_take 11 rfl (by kernel_rfl) (by kernel_rfl) (by decide) (by kernel_rfl) (by kernel_rfl) (fun _ _ _ h => h) hS (by kernel_rfl) (v := ?_) ?_ ?_
    rotate_left
    · intro w' hSw; (try dsimp only at hSw); go_simp; (try with_reducible rfl)
    simp only [Act.put, List.setIfInBounds_toArray, List.set_cons_zero, List.set_cons_succ]
    refine wpAnyT_take 12 rfl (by kernel_rfl) (by kernel_rfl) (by decide) (by kernel_rfl) (by kernel_rfl) (fun _ _ _ h => h) hS (by kernel_rfl) (v := ?_) ?_ ?_
    rotate_left
    · intro w' hSw; (try dsimp only at hSw); go_simp; (try with_reducible rfl)
    simp only [Act.put, List.setIfInBounds_toArray, List.set_cons_zero, List.set_cons_succ]
    refine wpAnyT_take 13 rfl (by kernel_rfl) (by kernel_rfl) (by decide) (by kernel_rfl) (by kernel_rfl) (fun _ _ _ h => h) hS (by kernel_rfl) (v := ?_) ?_ ?_
    rotate_left
    · intro w' hSw; (try dsimp only at hSw); go_simp; (try with_reducible rfl)
    simp only [Act.put, List.setIfInBounds_toArray, List.set_cons_zero, List.set_cons_succ]
    refine wpAnyT_one 14 (by kernel_rfl) rfl (by kernel_rfl) (fun K hK => ?_)
    go_simp
    have hV6 := (HV5.out.below (Below.refl W5.heap.size W5).drew).kept (grown_set (grown_refl W5.drew (some r0)) 1 (.int .i64 z)) (fun e => hnr e.symm)
    have hS : _ ∧ _ := ⟨hV6.cell 0, hV6.cell 1⟩
    refine hK _ _ (fun _ => hS) ?_
    clear hK K
    refine wpAnyT_one 15 (by kernel_rfl) rfl (by kernel_rfl) (fun K hK => ?_)
    go_simp
    refine hK _ _ (fun _ => hS) ?_
    clear hK K
    refine wpAnyT_one 16 (by kernel_rfl) rfl (by kernel_rfl) (fun K hK => ?_)
    go_simp
    refine hK _ _ (fun _ => hS) ?_
    clear hK K
    refine wpAnyT_done (by kernel_rfl) ?_
    have hWW : (W5.setCell ⟨r0, 1, none⟩ (.int .i64 z)).drew = W5.drew.setCell ⟨r0, 1, none⟩ (.int .i64 z) := rfl
    have T7 := (HT5.out.below (Below.refl W5.heap.size W5).drew).set 1 (.int .i64 z)
    have V7 : Gv (W5.drew.setCell ⟨r0, 1, none⟩ (.int .i64 z)) p (.slice ba n cap) (at' + 1) ((left : Int) - 1) 0 := hV6
    have Q7 := (HQ5.out.below (Below.refl W5.heap.size W5).drew).kept (grown_set (grown_refl W5.drew (some r0)) 1 (.int .i64 z)) (fun e => by have := Option.some.inj e; omega)
    have G7 : w.grownBy (W5.drew.setCell ⟨r0, 1, none⟩ (.int .i64 z)) (some p) := grown_fresh (grown_below HG5.out (Below.refl W5.heap.size W5).drew) hr0 _ _
    rw [← hWW] at T7 V7 Q7 G7
    clear hWW
    clear hS hV6 y0 y1 tf hlt5 t0 t1 t2 t3 tlt HR5 CI
    generalize (W5.setCell ⟨r0, 1, none⟩ (.int .i64 z)).drew = W7 at T7 V7 Q7 G7 ⊢
    have HT7 := Lib.hid T7
    have HV7 := Lib.hid V7
    have HQ7 := Lib.hid Q7
    have HG7 := Lib.hid G7
    have t0 := T7.cell 0
    have t1 := T7.cell 1
    have t2 := T7.cell 2
    have t3 := T7.cell 3
    have tlt := T7.lt
    have y1 := V7.cell 1
    have yf := fun o => V7.free o
    have ylt := V7.lt
    have q0 := Q7.cell 0
    have q1 := Q7.cell 1
    have q2 := Q7.cell 2
    have q3 := Q7.cell 3
    have qf := fun o => Q7.free o
    have qlt := Q7.lt
    clear T7 V7 Q7 G7
    by_cases he : er = 0
    · subst he
      go_wp2
      have HGA := grown_set HG7.out 1 (.int .i64 (nx : Int))
      have HVA : Gv (W7.setCell ⟨p, 1, none⟩ (.int .i64 (nx : Int))) p (.slice ba n cap) nx ((left : Int) - 1) 0 := HV7.out.set 1 (.int .i64 (nx : Int))
      have HQA := HQ7.out.kept (grown_set (grown_refl W7 (some p)) 1 (.int .i64 (nx : Int))) hne
      have QF := (((HQA.set 0 (.int .u8 1)).set 1 (.int .i64 z)).set 2 (.string ⟨#[]⟩)).set 3 (.slice none 0 0)
      have GF := ret_gv0 HVA HGA hpw (Nat.le_refl w.heap.size) (.int .u8 1) (.int .i64 z) (.string ⟨#[]⟩) (.slice none 0 0)
      (try simp only [Exit.inBlock, Exit.then])
      refine bodyPost_ret (results_cell_row rfl _ _ w.heap.size 25 _ (0, 0) _ rfl QF Try.underlying25 rfl (by kernel_rfl)) rfl ?_
      have hRe : R = .ok (.mk 1 z Va.em [], nx, left - 1) := by rw [HRR.out, HZ.out, HNX.out]; simp 
      rw [hRe]
      have hl1 : ((left - 1 : Nat) : Int) = (left : Int) - 1 := by omega
      refine ⟨_, rfl, RV.mk' (ok := fun b => w.heap.size ≤ b) (k := 1) (l := []) (ba := none) (cap := 0) (s := Va.em) (by decide) HZI.out (by decide) ⟨by simp, by simp [maxLen], fun _ => rfl, fun i hi => by simp at hi⟩, ?_, GF.2⟩
      rw [hl1]
      exact GF.1
    · have he2 : ((er : Int) != 0) = true := by rw [bne_iff_ne]; omega
      have he3 : ((er : Int) == 0) = false := bneI (by omega)
      have CF := Lib.hid (vfail_any p (.slice ba n cap) (at' + 1) ((left : Int) - 1) 0 er er rfl W7 HV7.out)
      rw [if_pos rfl] at CF
      go_wp2_with fail
      refine (CF.out).mono ?_
      rintro e w6 ⟨rfl, hg6, hr6⟩
      have T6 := HT7.out.kept hr6 hnr
      have Q6 := HQ7.out.kept hr6 hne
      clear t0 t1 t2 t3 tlt y1 yf ylt q0 q1 q2 q3 qf qlt
      have v0 := T6.cell 0
      have v1 := T6.cell 1
      have v2 := T6.cell 2
      have v3 := T6.cell 3
      have vlt := T6.lt
      have q0 := Q6.cell 0
      have q1 := Q6.cell 1
      have q2 := Q6.cell 2
      have q3 := Q6.cell 3
      have qf := fun o => Q6.free o
      have qlt := Q6.lt
      have c1 := hg6.cell 1
      have cf := fun o => hg6.free o
      have hlt6 := hg6.lt
      have HG6 := Lib.hid (grown_set (grown_trans HG7.out hr6) 1 (.int .i64 (nx : Int)))
      have HV6 := Lib.hid (hg6.set 1 (.int .i64 (nx : Int)))
      have HQ6 := Lib.hid (Q6.kept (grown_set (grown_refl w6 (some p)) 1 (.int .i64 (nx : Int))) hne)
      clear hg6 hr6 T6 Q6
      go_wp2
      have QF := (((HQ6.out.set 0 (.int .u8 1)).set 1 (.int .i64 z)).set 2 (.string ⟨#[]⟩)).set 3 (.slice none 0 0)
      have HV6b : Gv _ p (.slice ba n cap) nx ((left : Int) - 1) er := HV6.out
      have GF := ret_gv0 HV6b HG6.out hpw (Nat.le_refl w.heap.size) (.int .u8 1) (.int .i64 z) (.string ⟨#[]⟩) (.slice none 0 0)
      (try simp only [Exit.inBlock, Exit.then])
      refine bodyPost_ret (results_cell_row rfl _ _ w.heap.size 25 _ (0, 0) _ rfl QF Try.underlying25 rfl (by kernel_rfl)) rfl ?_
      have hRe : R = .error er := by rw [HRR.out]; simp [he]
      rw [hRe]
      exact ⟨1, z, ⟨#[]⟩, none, 0, 0, nx, _, rfl, he, GF.1, GF.2⟩
  · subst hK
    go_wp2_with fail
    refine wp_region_T_drew (fun w' => w'.cell? ⟨p, 0, none⟩ = some (.slice ba n cap) ∧ w'.cell? ⟨p, 1, none⟩ = some (.int .i64 ((at' : Int) + 1))) 17 (by kernel_rfl) ⟨y0, y1⟩ (fun hS => ?_)
    refine wpAnyT_take 0 rfl (by kernel_rfl) (by kernel_rfl) (by decide) (by kernel_rfl) (by kernel_rfl) (fun _ _ _ h => h) hS (by kernel_rfl) (v := ?_) ?_ ?_
    rotate_left
    · intro w' hSw; (try dsimp only at hSw); go_simp; (try with_reducible rfl)
    simp only [Act.put, List.setIfInBounds_toArray, List.set_cons_zero, List.set_cons_succ]
    refine wpAnyT_take 1 rfl (by kernel_rfl) (by kernel_rfl) (by decide) (by kernel_rfl) (by kernel_rfl) (fun _ _ _ h => h) hS (by kernel_rfl) (v := ?_) ?_ ?_
    rotate_left
    · intro w' hSw; (try dsimp only at hSw); go_simp; (try with_reducible rfl)
    simp only [Act.put, List.setIfInBounds_toArray, List.set_cons_zero, List.set_cons_succ]
    refine wpAnyT_take 2 rfl (by kernel_rfl) (by kernel_rfl) (by decide) (by kernel_rfl) (by kernel_rfl) (fun _ _ _ h => h) hS (by kernel_rfl) (v := ?_) ?_ ?_
    rotate_left
    · intro w' hSw; (try dsimp only at hSw); go_simp; (try with_reducible rfl)
    simp only [Act.put, List.setIfInBounds_toArray, List.set_cons_zero, List.set_cons_succ]
    refine wpAnyT_take 3 rfl (by kernel_rfl) (by kernel_rfl) (by decide) (by kernel_rfl) (by kernel_rfl) (fun _ _ _ h => h) hS (by kernel_rfl) (v := ?_) ?_ ?_
    rotate_left
    · intro w' hSw; (try dsimp only at hSw); go_simp; (try with_reducible rfl)
    simp only [Act.put, List.setIfInBounds_toArray, List.set_cons_zero, List.set_cons_succ]
    refine wpAnyT_take 4 rfl (by kernel_rfl) (by kernel_rfl) (by decide) (by kernel_rfl) (by kernel_rfl) (fun _ _ _ h => h) hS (by kernel_rfl) (v := ?_) ?_ ?_
    rotate_left
    · intro w' hSw; (try dsimp only at hSw); go_simp; (try with_reducible rfl)
    simp only [Act.put, List.setIfInBounds_toArray, List.set_cons_zero, List.set_cons_succ]
    refine wpAnyT_take 5 rfl (by kernel_rfl) (by kernel_rfl) (by decide) (by kernel_rfl) (by kernel_rfl) (fun _ _ _ h => h) hS (by kernel_rfl) (v := ?_) ?_ ?_
    rotate_left
    · intro w' hSw; (try dsimp only at hSw); go_simp; (try with_reducible rfl)
    simp only [Act.put, List.setIfInBounds_toArray, List.set_cons_zero, List.set_cons_succ]
    refine wpAnyT_take 6 rfl (by kernel_rfl) (by kernel_rfl) (by decide) (by kernel_rfl) (by kernel_rfl) (fun _ _ _ h => h) hS (by kernel_rfl) (v := ?_) ?_ ?_
    rotate_left
    · intro w' hSw; (try dsimp only at hSw); go_simp; (try with_reducible rfl)
    simp only [Act.put, List.setIfInBounds_toArray, List.set_cons_zero, List.set_cons_succ]
    refine wpAnyT_take 7 rfl (by kernel_rfl) (by kernel_rfl) (by decide) (by kernel_rfl) (by kernel_rfl) (fun _ _ _ h => h) hS (by kernel_rfl) (v := ?_) ?_ ?_
    rotate_left
    · intro w' hSw; (try dsimp only at hSw); go_simp; (try with_reducible rfl)
    simp only [Act.put, List.setIfInBounds_toArray, List.set_cons_zero, List.set_cons_succ]
    refine wpAnyT_one 8 (by kernel_rfl) rfl (by kernel_rfl) (fun K hK => ?_)
    go_simp
    refine (CI.out _ (HR5.out.below ((Below.refl _ _).drew))).mono ?_
    rintro e w6 ⟨rfl, rfl⟩
    refine hK _ _ (fun _ => hS) ?_
    clear hK K
    refine wpAnyT_take 9 rfl (by kernel_rfl) (by kernel_rfl) (by decide) (by kernel_rfl) (by kernel_rfl) (fun _ _ _ h => h) hS (by kernel_rfl) (v := ?_) ?_ ?_
    rotate_left
    · intro w' hSw; (try dsimp only at hSw); go_simp; (try with_reducible rfl)
    simp only [Act.put, List.setIfInBounds_toArray, List.set_cons_zero, List.set_cons_succ]
    refine wpAnyT_take 10 rfl (by kernel_rfl) (by kernel_rfl) (by decide) (by kernel_rfl) (by kernel_rfl) (fun _ _ _ h => h) hS (by kernel_rfl) (v := ?_) ?_ ?_
    rotate_left
    · intro w' hSw; (try dsimp only at hSw); go_simp; (try with_reducible rfl)
    simp only [Act.put, List.setIfInBounds_toArray, List.set_cons_zero, List.set_cons_succ]
    refine wpAnyT_take 11 rfl (by kernel_rfl) (by kernel_rfl) (by decide) (by kernel_rfl) (by kernel_rfl) (fun _ _ _ h => h) hS (by kernel_rfl) (v := ?_) ?_ ?_
    rotate_left
    · intro w' hSw; (try dsimp only at hSw); go_simp; (try with_reducible rfl)
    simp only [Act.put, List.setIfInBounds_toArray, List.set_cons_zero, List.set_cons_succ]
    refine wpAnyT_take 12 rfl (by kernel_rfl) (by kernel_rfl) (by decide) (by kernel_rfl) (by kernel_rfl) (fun _ _ _ h => h) hS (by kernel_rfl) (v := ?_) ?_ ?_
    rotate_left
    · intro w' hSw; (try dsimp only at hSw); go_simp; (try with_reducible rfl)
    simp only [Act.put, List.setIfInBounds_toArray, List.set_cons_zero, List.set_cons_succ]
    refine wpAnyT_take 13 rfl (by kernel_rfl) (by kernel_rfl) (by decide) (by kernel_rfl) (by kernel_rfl) (fun _ _ _ h => h) hS (by kernel_rfl) (v := ?_) ?_ ?_
    rotate_left
    · intro w' hSw; (try dsimp only at hSw); go_simp; (try with_reducible rfl)
    simp only [Act.put, List.setIfInBounds_toArray, List.set_cons_zero, List.set_cons_succ]
    refine wpAnyT_one 14 (by kernel_rfl) rfl (by kernel_rfl) (fun K hK => ?_)
    go_simp
    have hV6 := (HV5.out.below (Below.refl W5.heap.size W5).drew).kept (grown_set (grown_refl W5.drew (some r0)) 1 (.int .i64 z)) (fun e => hnr e.symm)
    have hS : _ ∧ _ := ⟨hV6.cell 0, hV6.cell 1⟩
    refine hK _ _ (fun _ => hS) ?_
    clear hK K
    refine wpAnyT_one 15 (by kernel_rfl) rfl (by kernel_rfl) (fun K hK => ?_)
    go_simp
    refine hK _ _ (fun _ => hS) ?_
    clear hK K
    refine wpAnyT_one 16 (by kernel_rfl) rfl (by kernel_rfl) (fun K hK => ?_)
    go_simp
    refine hK _ _ (fun _ => hS) ?_
    clear hK K
    refine wpAnyT_done (by kernel_rfl) ?_
    have hWW : (W5.setCell ⟨r0, 1, none⟩ (.int .i64 z)).drew = W5.drew.setCell ⟨r0, 1, none⟩ (.int .i64 z) := rfl
    have T7 := (HT5.out.below (Below.refl W5.heap.size W5).drew).set 1 (.int .i64 z)
    have V7 : Gv (W5.drew.setCell ⟨r0, 1, none⟩ (.int .i64 z)) p (.slice ba n cap) (at' + 1) ((left : Int) - 1) 0 := hV6
    have Q7 := (HQ5.out.below (Below.refl W5.heap.size W5).drew).kept (grown_set (grown_refl W5.drew (some r0)) 1 (.int .i64 z)) (fun e => by have := Option.some.inj e; omega)
    have G7 : w.grownBy (W5.drew.setCell ⟨r0, 1, none⟩ (.int .i64 z)) (some p) := grown_fresh (grown_below HG5.out (Below.refl W5.heap.size W5).drew) hr0 _ _
    rw [← hWW] at T7 V7 Q7 G7
    clear hWW
    clear hS hV6 y0 y1 tf hlt5 t0 t1 t2 t3 tlt HR5 CI
    generalize (W5.setCell ⟨r0, 1, none⟩ (.int .i64 z)).drew = W7 at T7 V7 Q7 G7 ⊢
    have HT7 := Lib.hid T7
    have HV7 := Lib.hid V7
    have HQ7 := Lib.hid Q7
    have HG7 := Lib.hid G7
    have t0 := T7.cell 0
    have t1 := T7.cell 1
    have t2 := T7.cell 2
    have t3 := T7.cell 3
    have tlt := T7.lt
    have y1 := V7.cell 1
    have yf := fun o => V7.free o
    have ylt := V7.lt
    have q0 := Q7.cell 0
    have q1 := Q7.cell 1
    have q2 := Q7.cell 2
    have q3 := Q7.cell 3
    have qf := fun o => Q7.free o
    have qlt := Q7.lt
    clear T7 V7 Q7 G7
    by_cases he : er = 0
    · subst he
      have hzm : z = Va.ung m := by rw [HZ.out, if_pos rfl]
      by_cases h0 : z < 0
      · have hm : Va.ung m < 0 := hzm ▸ h0
        have CF := Lib.hid (vfail_any p (.slice ba n cap) (at' + 1) ((left : Int) - 1) 0 13 13 rfl W7 HV7.out)
        rw [if_pos rfl] at CF
        clear hzm
        have HM := Lib.hid hm
        clear hm
        go_wp2_with fail
        refine (CF.out).mono ?_
        rintro e w6 ⟨rfl, hg6, hr6⟩
        have T6 := HT7.out.kept hr6 hnr
        have Q6 := HQ7.out.kept hr6 hne
        clear t0 t1 t2 t3 tlt y1 yf ylt q0 q1 q2 q3 qf qlt
        have v0 := T6.cell 0
        have v1 := T6.cell 1
        have v2 := T6.cell 2
        have v3 := T6.cell 3
        have vlt := T6.lt
        have q0 := Q6.cell 0
        have q1 := Q6.cell 1
        have q2 := Q6.cell 2
        have q3 := Q6.cell 3
        have qf := fun o => Q6.free o
        have qlt := Q6.lt
        have c1 := hg6.cell 1
        have cf := fun o => hg6.free o
        have hlt6 := hg6.lt
        have HG6 := Lib.hid (grown_set (grown_trans HG7.out hr6) 1 (.int .i64 (nx : Int)))
        have HV6 := Lib.hid (hg6.set 1 (.int .i64 (nx : Int)))
        have HQ6 := Lib.hid (Q6.kept (grown_set (grown_refl w6 (some p)) 1 (.int .i64 (nx : Int))) hne)
        clear hg6 hr6 T6 Q6
        go_wp2
        have QF := (((HQ6.out.set 0 (.int .u8 5)).set 1 (.int .i64 z)).set 2 (.string ⟨#[]⟩)).set 3 (.slice none 0 0)
        have HV6b : Gv _ p (.slice ba n cap) nx ((left : Int) - 1) 13 := HV6.out
        have GF := ret_gv0 HV6b HG6.out hpw (Nat.le_refl w.heap.size) (.int .u8 5) (.int .i64 z) (.string ⟨#[]⟩) (.slice none 0 0)
        (try simp only [Exit.inBlock, Exit.then])
        refine bodyPost_ret (results_cell_row rfl _ _ w.heap.size 25 _ (0, 0) _ rfl QF Try.underlying25 rfl (by kernel_rfl)) rfl ?_
        have hRe : R = .error 13 := by rw [HRR.out]; simp [HM.out]
        rw [hRe]
        exact ⟨5, z, ⟨#[]⟩, none, 0, 0, nx, _, rfl, (by decide), GF.1, GF.2⟩
      · have hm : ¬ Va.ung m < 0 := hzm ▸ h0
        have HM := Lib.hid hm
        clear hm hzm
        go_wp2
        have HGA := grown_set HG7.out 1 (.int .i64 (nx : Int))
        have HVA : Gv (W7.setCell ⟨p, 1, none⟩ (.int .i64 (nx : Int))) p (.slice ba n cap) nx ((left : Int) - 1) 0 := HV7.out.set 1 (.int .i64 (nx : Int))
        have HQA := HQ7.out.kept (grown_set (grown_refl W7 (some p)) 1 (.int .i64 (nx : Int))) hne
        have QF := (((HQA.set 0 (.int .u8 5)).set 1 (.int .i64 z)).set 2 (.string ⟨#[]⟩)).set 3 (.slice none 0 0)
        have GF := ret_gv0 HVA HGA hpw (Nat.le_refl w.heap.size) (.int .u8 5) (.int .i64 z) (.string ⟨#[]⟩) (.slice none 0 0)
        (try simp only [Exit.inBlock, Exit.then])
        refine bodyPost_ret (results_cell_row rfl _ _ w.heap.size 25 _ (0, 0) _ rfl QF Try.underlying25 rfl (by kernel_rfl)) rfl ?_
        have hRe : R = .ok (.mk 5 z Va.em [], nx, left - 1) := by rw [HRR.out, HZ.out, HNX.out]; simp [HM.out]
        rw [hRe]
        have hl1 : ((left - 1 : Nat) : Int) = (left : Int) - 1 := by omega
        refine ⟨_, rfl, RV.mk' (ok := fun b => w.heap.size ≤ b) (k := 5) (l := []) (ba := none) (cap := 0) (s := Va.em) (by decide) HZI.out (by decide) ⟨by simp, by simp [maxLen], fun _ => rfl, fun i hi => by simp at hi⟩, ?_, GF.2⟩
        rw [hl1]
        exact GF.1
    · have he2 : ((er : Int) != 0) = true := by rw [bne_iff_ne]; omega
      have he3 : ((er : Int) == 0) = false := bneI (by omega)
      have CF := Lib.hid (vfail_any p (.slice ba n cap) (at' + 1) ((left : Int) - 1) 0 er er rfl W7 HV7.out)
      rw [if_pos rfl] at CF
      go_wp2_with fail
      refine (CF.out).mono ?_
      rintro e w6 ⟨rfl, hg6, hr6⟩
      have T6 := HT7.out.kept hr6 hnr
      have Q6 := HQ7.out.kept hr6 hne
      clear t0 t1 t2 t3 tlt y1 yf ylt q0 q1 q2 q3 qf qlt
      have v0 := T6.cell 0
      have v1 := T6.cell 1
      have v2 := T6.cell 2
      have v3 := T6.cell 3
      have vlt := T6.lt
      have q0 := Q6.cell 0
      have q1 := Q6.cell 1
      have q2 := Q6.cell 2
      have q3 := Q6.cell 3
      have qf := fun o => Q6.free o
      have qlt := Q6.lt
      have c1 := hg6.cell 1
      have cf := fun o => hg6.free o
      have hlt6 := hg6.lt
      have HG6 := Lib.hid (grown_set (grown_trans HG7.out hr6) 1 (.int .i64 (nx : Int)))
      have HV6 := Lib.hid (hg6.set 1 (.int .i64 (nx : Int)))
      have HQ6 := Lib.hid (Q6.kept (grown_set (grown_refl w6 (some p)) 1 (.int .i64 (nx : Int))) hne)
      clear hg6 hr6 T6 Q6
      go_wp2
      have QF := (((HQ6.out.set 0 (.int .u8 5)).set 1 (.int .i64 z)).set 2 (.string ⟨#[]⟩)).set 3 (.slice none 0 0)
      have HV6b : Gv _ p (.slice ba n cap) nx ((left : Int) - 1) er := HV6.out
      have GF := ret_gv0 HV6b HG6.out hpw (Nat.le_refl w.heap.size) (.int .u8 5) (.int .i64 z) (.string ⟨#[]⟩) (.slice none 0 0)
      (try simp only [Exit.inBlock, Exit.then])
      refine bodyPost_ret (results_cell_row rfl _ _ w.heap.size 25 _ (0, 0) _ rfl QF Try.underlying25 rfl (by kernel_rfl)) rfl ?_
      have hRe : R = .error er := by rw [HRR.out]; simp [he]
      rw [hRe]
      exact ⟨5, z, ⟨#[]⟩, none, 0, 0, nx, _, rfl, he, GF.1, GF.2⟩
end Go.Proofs.Ytgamhgeiceakeaa
/- package value: the getter's value, by contract: truths. -/
set_option linter.unusedVariables false
set_option linter.unusedSimpArgs false
namespace Go.Proofs.Ytgamhgeiceakeaa
open Go.RowKit
open Va (V)
set_option maxHeartbeats 3200000 in
set_option maxRecDepth 100000 in
theorem value_bool_end (p : Nat) (ba : Option Addr) (n cap : Nat) (l : List UInt8) (at' left lv : Nat) (w : World) (hg : Gv w p (.slice ba n cap) at' left 0) (hn : l.length = n) (hr : Rd w ba l) (hp : l ≠ [] → ∀ b o, ba = some (⟨b, o, none⟩ : Addr) → b ≠ p) (ha : at' < n) (hmx : n ≤ 1099511627776) (hl0 : 1 ≤ left) (hlv0 : 1 ≤ lv) (hl : left ≤ 256) (hlv : lv ≤ 16)
    (hx : (l[at']'(hn ▸ ha)).toNat = 2) (hend : at' + 1 = n) :
    Calls Try.prog 72 #[.pointer (some ⟨p, 0, none⟩), .int .i64 lv] w (VaPost p (.slice ba n cap) (.error 11) w) := by
  have HEND := Lib.hid hend
  clear hend
  replace hx := Lib.hid hx
  have hsz : (w.setCell ⟨p, 2, none⟩ (.int .i64 ((left : Int) - 1))).heap.size = w.heap.size := by simp
  have B1 : Gv ((w.setCell ⟨p, 2, none⟩ (.int .i64 ((left : Int) - 1))).alloc (.cells #[.int .u8 0, .int .i64 0, .string ⟨#[]⟩, .slice none 0 0] 25)) p (.slice ba n cap) at' ((left : Int) - 1) 0 := (hg.set 2 _).below ((Below.refl _ _).alloc (Nat.le_refl _) _)
  have Q1 := Blk.new (w.setCell ⟨p, 2, none⟩ (.int .i64 ((left : Int) - 1))) #[.int .u8 0, .int .i64 0, .string ⟨#[]⟩, .slice none 0 0] 25
  rw [hsz] at Q1
  have G1 : w.grownBy ((w.setCell ⟨p, 2, none⟩ (.int .i64 ((left : Int) - 1))).alloc (.cells #[.int .u8 0, .int .i64 0, .string ⟨#[]⟩, .slice none 0 0] 25)) (some p) := grown_below (grown_set (grown_refl _ _) _ _) ((Below.refl _ _).alloc (Nat.le_refl _) _)
  have hpw : p < w.heap.size := hg.lt
  clear hsz
  have c2 := hg.cell 2
  have hf := fun o => hg.free o
  have hlt := hg.lt
  clear hg
  go_enter Try.func72, Try.ntmps72
  go_upto_region 2 with (fail)
  clear c2 hf hlt
  generalize (w.setCell ⟨p, 2, none⟩ (.int .i64 ((left : Int) - 1))).alloc (.cells #[.int .u8 0, .int .i64 0, .string ⟨#[]⟩, .slice none 0 0] 25) = W1 at B1 Q1 G1 ⊢
  have hne : some w.heap.size ≠ some p := fun e => by have := Option.some.inj e; omega
  have CO := Lib.hid (one_yes p ba n cap l at' ((left : Int) - 1) W1 B1 hn (rd_grown hr G1 hp) hp ha hmx)
  have b2 := B1.cell 2
  have hlt1 := B1.lt
  have HQ1 := Lib.hid Q1
  have HG1 := Lib.hid G1
  have hz : ((lv : Int) == 0) = false := bneI (by omega)
  have hpos : (1 : Int) ≤ (left : Int) := by omega
  have HR := Lib.hid (fun W (g : w.grownBy W (some p)) => rd_grown hr g hp)
  generalize l[at']'(hn ▸ ha) = x at CO hx
  have hx8 : x.toNat < 256 := x.toNat_lt
  generalize hxk : x.toNat = k at CO hx hx8
  clear B1 Q1 G1 hr
  go_wp2_with fail
  refine (CO.out).mono ?_
  rintro e w3 ⟨rfl, hg3, hr3⟩
  have HGV := Lib.hid hg3
  have Q3 := HQ1.out.kept hr3 hne
  have HG3 := Lib.hid (grown_trans HG1.out hr3)
  have hs3 : w.heap.size ≤ w3.heap.size := HG3.out.size
  have HQ3 := Lib.hid Q3
  have c3 := hg3.cell 3
  have c1 := hg3.cell 1
  have hlt3 := hg3.lt
  clear hg3 hr3 CO Q3 b2 hlt1
  go_wp2_with fail
  have T4 := Blk.new w3 #[.int .u8 k, .int .i64 0, .string ⟨#[]⟩, .slice none 0 0] 25
  have hal : Below w3.heap.size w3 (w3.alloc (.cells #[.int .u8 k, .int .i64 0, .string ⟨#[]⟩, .slice none 0 0] 25)) := (Below.refl _ _).alloc (Nat.le_refl _) _
  have GV4 : Gv _ p (.slice ba n cap) (at' + 1) ((left : Int) - 1) 0 := HGV.out.below hal
  have Q4 := HQ3.out.below hal
  have G4 := grown_below HG3.out hal
  have hr0 : w.heap.size < w3.heap.size := HQ3.out.lt
  clear HGV HQ3 HG3 c3 c1 hlt3 hal hs3
  generalize w3.alloc (.cells #[.int .u8 k, .int .i64 0, .string ⟨#[]⟩, .slice none 0 0] 25) = W4 at T4 GV4 Q4 G4 ⊢
  generalize w3.heap.size = r0 at T4 hr0 ⊢
  have d1 := GV4.cell 1
  have hlt4 := GV4.lt
  have HF := Lib.hid (fun k => (⟨T4.below (belowN (Below.refl W4.heap.size W4) k), GV4.below (belowN (Below.refl W4.heap.size W4) k), Q4.below (belowN (Below.refl W4.heap.size W4) k), grown_trans G4 (drewN_grown W4 k _)⟩ : _ ∧ _ ∧ _ ∧ _))
  clear T4 GV4 Q4 G4
  go_quiet (fail)
  obtain ⟨T5, GV5, Q5, G5⟩ := HF.out nq
  clear HF d1 hlt4
  generalize W4.drewN nq = W5 at T5 GV5 Q5 G5 ⊢
  have t0 := T5.cell 0
  have t1 := T5.cell 1
  have t2 := T5.cell 2
  have t3 := T5.cell 3
  have tlt := T5.lt
  have HT5 := Lib.hid T5
  have HV5 := Lib.hid GV5
  have HQ5 := Lib.hid Q5
  have HG5 := Lib.hid G5
  have hnr : some r0 ≠ some p := fun e => by have := Option.some.inj e; omega
  clear T5 GV5 Q5 G5
  obtain rfl := hx.out
  clear hx
  have CO := Lib.hid (one_end p ba n cap ((left : Int) - 1) W5 (HEND.out ▸ HV5.out))
  go_wp2_with fail
  refine (CO.out).mono ?_
  rintro e w6 ⟨rfl, hg6, hr6⟩
  have T6 := HT5.out.kept hr6 hnr
  have Q6 := HQ5.out.kept hr6 hne
  clear t0 t1 t2 t3 tlt CO
  have v0 := T6.cell 0
  have v1 := T6.cell 1
  have v2 := T6.cell 2
  have v3 := T6.cell 3
  have vf := fun o => T6.free o
  have vlt := T6.lt
  have q0 := Q6.cell 0
  have q1 := Q6.cell 1
  have q2 := Q6.cell 2
  have q3 := Q6.cell 3
  have qf := fun o => Q6.free o
  have qlt := Q6.lt
  have c1 := hg6.cell 1
  have cf := fun o => hg6.free o
  have hlt6 := hg6.lt
  have G8 := Lib.hid (grown_set (grown_fresh (grown_trans HG5.out hr6) hr0 1 (.int .i64 0)) 1 (.int .i64 (n : Int)))
  have V7 : Gv (w6.setCell ⟨r0, 1, none⟩ (.int .i64 0)) p (.slice ba n cap) n ((left : Int) - 1) 11 := Blk.kept hg6 (grown_set (grown_refl w6 (some r0)) 1 (.int .i64 0)) (fun e => hnr e.symm)
  have V8 : Hid (Gv ((w6.setCell ⟨r0, 1, none⟩ (.int .i64 0)).setCell ⟨p, 1, none⟩ (.int .i64 (n : Int))) p (.slice ba n cap) n ((left : Int) - 1) 11) := Lib.hid (V7.set 1 (.int .i64 (n : Int)))
  have Q8 := Lib.hid ((Q6.kept (grown_set (grown_refl w6 (some r0)) 1 (.int .i64 0)) (fun e => by have := Option.some.inj e; omega)).kept (grown_set (grown_refl (w6.setCell ⟨r0, 1, none⟩ (.int .i64 0)) (some p)) 1 (.int .i64 (n : Int))) hne)
  clear hg6 hr6 T6 Q6 V7
  go_wp2
  have QF := (((Q8.out.set 0 (.int .u8 2)).set 1 (.int .i64 0)).set 2 (.string ⟨#[]⟩)).set 3 (.slice none 0 0)
  have GF := ret_gv0 V8.out G8.out hpw (Nat.le_refl w.heap.size) (.int .u8 2) (.int .i64 0) (.string ⟨#[]⟩) (.slice none 0 0)
  (try simp only [Exit.inBlock, Exit.then])
  refine bodyPost_ret (results_cell_row rfl _ _ w.heap.size 25 _ (0, 0) _ rfl QF Try.underlying25 rfl (by kernel_rfl)) rfl ?_
  exact ⟨2, 0, ⟨#[]⟩, none, 0, 0, n, _, rfl, by decide, GF.1, GF.2⟩
set_option maxHeartbeats 3200000 in
set_option maxRecDepth 100000 in
theorem value_bool_ok (p : Nat) (ba : Option Addr) (n cap : Nat) (l : List UInt8) (at' left lv : Nat) (w : World) (hg : Gv w p (.slice ba n cap) at' left 0) (hn : l.length = n) (hr : Rd w ba l) (hp : l ≠ [] → ∀ b o, ba = some (⟨b, o, none⟩ : Addr) → b ≠ p) (ha : at' < n) (hmx : n ≤ 1099511627776) (hl0 : 1 ≤ left) (hlv0 : 1 ≤ lv) (hl : left ≤ 256) (hlv : lv ≤ 16)
    (hx : (l[at']'(hn ▸ ha)).toNat = 2) (hend : at' + 1 < n) (hy : (l[at' + 1]'(hn ▸ hend)).toNat ≤ 1) :
    Calls Try.prog 72 #[.pointer (some ⟨p, 0, none⟩), .int .i64 lv] w (VaPost p (.slice ba n cap) (.ok (.mk 2 ((l[at' + 1]'(hn ▸ hend)).toNat : Nat) Va.em [], at' + 2, left - 1)) w) := by
  have C1 := Lib.hid (fun W (g : Gv W p (.slice ba n cap) (at' + 1) ((left : Int) - 1) 0) (r : Rd W ba l) => one_yes p ba n cap l (at' + 1) ((left : Int) - 1) W g hn r hp hend hmx)
  generalize (l[at' + 1]'(hn ▸ hend)).toNat = y at C1 hy ⊢
  replace hx := Lib.hid hx
  have hsz : (w.setCell ⟨p, 2, none⟩ (.int .i64 ((left : Int) - 1))).heap.size = w.heap.size := by simp
  have B1 : Gv ((w.setCell ⟨p, 2, none⟩ (.int .i64 ((left : Int) - 1))).alloc (.cells #[.int .u8 0, .int .i64 0, .string ⟨#[]⟩, .slice none 0 0] 25)) p (.slice ba n cap) at' ((left : Int) - 1) 0 := (hg.set 2 _).below ((Below.refl _ _).alloc (Nat.le_refl _) _)
  have Q1 := Blk.new (w.setCell ⟨p, 2, none⟩ (.int .i64 ((left : Int) - 1))) #[.int .u8 0, .int .i64 0, .string ⟨#[]⟩, .slice none 0 0] 25
  rw [hsz] at Q1
  have G1 : w.grownBy ((w.setCell ⟨p, 2, none⟩ (.int .i64 ((left : Int) - 1))).alloc (.cells #[.int .u8 0, .int .i64 0, .string ⟨#[]⟩, .slice none 0 0] 25)) (some p) := grown_below (grown_set (grown_refl _ _) _ _) ((Below.refl _ _).alloc (Nat.le_refl _) _)
  have hpw : p < w.heap.size := hg.lt
  clear hsz
  have c2 := hg.cell 2
  have hf := fun o => hg.free o
  have hlt := hg.lt
  clear hg
  go_enter Try.func72, Try.ntmps72
  go_upto_region 2 with (fail)
  clear c2 hf hlt
  generalize (w.setCell ⟨p, 2, none⟩ (.int .i64 ((left : Int) - 1))).alloc (.cells #[.int .u8 0, .int .i64 0, .string ⟨#[]⟩, .slice none 0 0] 25) = W1 at B1 Q1 G1 ⊢
  have hne : some w.heap.size ≠ some p := fun e => by have := Option.some.inj e; omega
  have CO := Lib.hid (one_yes p ba n cap l at' ((left : Int) - 1) W1 B1 hn (rd_grown hr G1 hp) hp ha hmx)
  have b2 := B1.cell 2
  have hlt1 := B1.lt
  have HQ1 := Lib.hid Q1
  have HG1 := Lib.hid G1
  have hz : ((lv : Int) == 0) = false := bneI (by omega)
  have hpos : (1 : Int) ≤ (left : Int) := by omega
  have HR := Lib.hid (fun W (g : w.grownBy W (some p)) => rd_grown hr g hp)
  generalize l[at']'(hn ▸ ha) = x at CO hx
  have hx8 : x.toNat < 256 := x.toNat_lt
  generalize hxk : x.toNat = k at CO hx hx8
  clear B1 Q1 G1 hr
  go_wp2_with fail
  refine (CO.out).mono ?_
  rintro e w3 ⟨rfl, hg3, hr3⟩
  have HGV := Lib.hid hg3
  have Q3 := HQ1.out.kept hr3 hne
  have HG3 := Lib.hid (grown_trans HG1.out hr3)
  have hs3 : w.heap.size ≤ w3.heap.size := HG3.out.size
  have HQ3 := Lib.hid Q3
  have c3 := hg3.cell 3
  have c1 := hg3.cell 1
  have hlt3 := hg3.lt
  clear hg3 hr3 CO Q3 b2 hlt1
  go_wp2_with fail
  have T4 := Blk.new w3 #[.int .u8 k, .int .i64 0, .string ⟨#[]⟩, .slice none 0 0] 25
  have hal : Below w3.heap.size w3 (w3.alloc (.cells #[.int .u8 k, .int .i64 0, .string ⟨#[]⟩, .slice none 0 0] 25)) := (Below.refl _ _).alloc (Nat.le_refl _) _
  have GV4 : Gv _ p (.slice ba n cap) (at' + 1) ((left : Int) - 1) 0 := HGV.out.below hal
  have Q4 := HQ3.out.below hal
  have G4 := grown_below HG3.out hal
  have hr0 : w.heap.size < w3.heap.size := HQ3.out.lt
  clear HGV HQ3 HG3 c3 c1 hlt3 hal hs3
  generalize w3.alloc (.cells #[.int .u8 k, .int .i64 0, .string ⟨#[]⟩, .slice none 0 0] 25) = W4 at T4 GV4 Q4 G4 ⊢
  generalize w3.heap.size = r0 at T4 hr0 ⊢
  have d1 := GV4.cell 1
  have hlt4 := GV4.lt
  have HF := Lib.hid (fun k => (⟨T4.below (belowN (Below.refl W4.heap.size W4) k), GV4.below (belowN (Below.refl W4.heap.size W4) k), Q4.below (belowN (Below.refl W4.heap.size W4) k), grown_trans G4 (drewN_grown W4 k _)⟩ : _ ∧ _ ∧ _ ∧ _))
  clear T4 GV4 Q4 G4
  go_quiet (fail)
  obtain ⟨T5, GV5, Q5, G5⟩ := HF.out nq
  clear HF d1 hlt4
  generalize W4.drewN nq = W5 at T5 GV5 Q5 G5 ⊢
  have t0 := T5.cell 0
  have t1 := T5.cell 1
  have t2 := T5.cell 2
  have t3 := T5.cell 3
  have tlt := T5.lt
  have HT5 := Lib.hid T5
  have HV5 := Lib.hid GV5
  have HQ5 := Lib.hid Q5
  have HG5 := Lib.hid G5
  have hnr : some r0 ≠ some p := fun e => by have := Option.some.inj e; omega
  clear T5 GV5 Q5 G5
  obtain rfl := hx.out
  clear hx
  have CO := Lib.hid (C1.out W5 HV5.out (HR.out W5 HG5.out))
  clear C1
  go_wp2_with fail
  refine (CO.out).mono ?_
  rintro e w6 ⟨rfl, hg6, hr6⟩
  have T6 := HT5.out.kept hr6 hnr
  have Q6 := HQ5.out.kept hr6 hne
  clear t0 t1 t2 t3 tlt CO
  have v0 := T6.cell 0
  have v1 := T6.cell 1
  have v2 := T6.cell 2
  have v3 := T6.cell 3
  have vf := fun o => T6.free o
  have vlt := T6.lt
  have q0 := Q6.cell 0
  have q1 := Q6.cell 1
  have q2 := Q6.cell 2
  have q3 := Q6.cell 3
  have qf := fun o => Q6.free o
  have qlt := Q6.lt
  have c1 := hg6.cell 1
  have cf := fun o => hg6.free o
  have hlt6 := hg6.lt
  have G8 := Lib.hid (grown_set (grown_fresh (grown_trans HG5.out hr6) hr0 1 (.int .i64 (y : Int))) 1 (.int .i64 ((at' : Int) + 1 + 1)))
  have V7 : Gv (w6.setCell ⟨r0, 1, none⟩ (.int .i64 (y : Int))) p (.slice ba n cap) (at' + 1 + 1) ((left : Int) - 1) 0 := Blk.kept hg6 (grown_set (grown_refl w6 (some r0)) 1 (.int .i64 (y : Int))) (fun e => hnr e.symm)
  have V8 : Hid (Gv ((w6.setCell ⟨r0, 1, none⟩ (.int .i64 (y : Int))).setCell ⟨p, 1, none⟩ (.int .i64 ((at' : Int) + 1 + 1))) p (.slice ba n cap) (at' + 2) ((left : Int) - 1) 0) := Lib.hid (V7.set 1 (.int .i64 ((at' : Int) + 1 + 1)))
  have Q8 := Lib.hid ((Q6.kept (grown_set (grown_refl w6 (some r0)) 1 (.int .i64 (y : Int))) (fun e => by have := Option.some.inj e; omega)).kept (grown_set (grown_refl (w6.setCell ⟨r0, 1, none⟩ (.int .i64 (y : Int))) (some p)) 1 (.int .i64 ((at' : Int) + 1 + 1))) hne)
  clear hg6 hr6 T6 Q6 V7
  go_wp2
  have QF := (((Q8.out.set 0 (.int .u8 2)).set 1 (.int .i64 (y : Int))).set 2 (.string ⟨#[]⟩)).set 3 (.slice none 0 0)
  have GF := ret_gv0 V8.out G8.out hpw (Nat.le_refl w.heap.size) (.int .u8 2) (.int .i64 (y : Int)) (.string ⟨#[]⟩) (.slice none 0 0)
  (try simp only [Exit.inBlock, Exit.then])
  refine bodyPost_ret (results_cell_row rfl _ _ w.heap.size 25 _ (0, 0) _ rfl QF Try.underlying25 rfl (by kernel_rfl)) rfl ?_
  have hl1 : ((left - 1 : Nat) : Int) = (left : Int) - 1 := by omega
  refine ⟨_, rfl, RV.mk' (ok := fun b => w.heap.size ≤ b) (k := 2) (l := []) (ba := none) (cap := 0) (s := Va.em) (by decide) (by unfold Va.I64; omega) (by decide) ⟨by simp, by simp [maxLen], fun _ => rfl, fun i hi => by simp at hi⟩, ?_, GF.2⟩
  rw [hl1]
  exact GF.1
set_option maxHeartbeats 3200000 in
set_option maxRecDepth 100000 in
theorem value_bool_bad (p : Nat) (ba : Option Addr) (n cap : Nat) (l : List UInt8) (at' left lv : Nat) (w : World) (hg : Gv w p (.slice ba n cap) at' left 0) (hn : l.length = n) (hr : Rd w ba l) (hp : l ≠ [] → ∀ b o, ba = some (⟨b, o, none⟩ : Addr) → b ≠ p) (ha : at' < n) (hmx : n ≤ 1099511627776) (hl0 : 1 ≤ left) (hlv0 : 1 ≤ lv) (hl : left ≤ 256) (hlv : lv ≤ 16)
    (hx : (l[at']'(hn ▸ ha)).toNat = 2) (hend : at' + 1 < n) (hy : 1 < (l[at' + 1]'(hn ▸ hend)).toNat) :
    Calls Try.prog 72 #[.pointer (some ⟨p, 0, none⟩), .int .i64 lv] w (VaPost p (.slice ba n cap) (.error 10) w) := by
  have C1 := Lib.hid (fun W (g : Gv W p (.slice ba n cap) (at' + 1) ((left : Int) - 1) 0) (r : Rd W ba l) => one_yes p ba n cap l (at' + 1) ((left : Int) - 1) W g hn r hp hend hmx)
  have hy8 : (l[at' + 1]'(hn ▸ hend)).toNat < 256 := UInt8.toNat_lt _
  generalize (l[at' + 1]'(hn ▸ hend)).toNat = y at C1 hy hy8
  replace hx := Lib.hid hx
  have hsz : (w.setCell ⟨p, 2, none⟩ (.int .i64 ((left : Int) - 1))).heap.size = w.heap.size := by simp
  have B1 : Gv ((w.setCell ⟨p, 2, none⟩ (.int .i64 ((left : Int) - 1))).alloc (.cells #[.int .u8 0, .int .i64 0, .string ⟨#[]⟩, .slice none 0 0] 25)) p (.slice ba n cap) at' ((left : Int) - 1) 0 := (hg.set 2 _).below ((Below.refl _ _).alloc (Nat.le_refl _) _)
  have Q1 := Blk.new (w.setCell ⟨p, 2, none⟩ (.int .i64 ((left : Int) - 1))) #[.int .u8 0, .int .i64 0, .string ⟨#[]⟩, .slice none 0 0] 25
  rw [hsz] at Q1
  have G1 : w.grownBy ((w.setCell ⟨p, 2, none⟩ (.int .i64 ((left : Int) - 1))).alloc (.cells #[.int .u8 0, .int .i64 0, .string ⟨#[]⟩, .slice none 0 0] 25)) (some p) := grown_below (grown_set (grown_refl _ _) _ _) ((Below.refl _ _).alloc (Nat.le_refl _) _)
  have hpw : p < w.heap.size := hg.lt
  clear hsz
  have c2 := hg.cell 2
  have hf := fun o => hg.free o
  have hlt := hg.lt
  clear hg
  go_enter Try.func72, Try.ntmps72
  go_upto_region 2 with (fail)
  clear c2 hf hlt
  generalize (w.setCell ⟨p, 2, none⟩ (.int .i64 ((left : Int) - 1))).alloc (.cells #[.int .u8 0, .int .i64 0, .string ⟨#[]⟩, .slice none 0 0] 25) = W1 at B1 Q1 G1 ⊢
  have hne : some w.heap.size ≠ some p := fun e => by have := Option.some.inj e; omega
  have CO := Lib.hid (one_yes p ba n cap l at' ((left : Int) - 1) W1 B1 hn (rd_grown hr G1 hp) hp ha hmx)
  have b2 := B1.cell 2
  have hlt1 := B1.lt
  have HQ1 := Lib.hid Q1
  have HG1 := Lib.hid G1
  have hz : ((lv : Int) == 0) = false := bneI (by omega)
  have hpos : (1 : Int) ≤ (left : Int) := by omega
  have HR := Lib.hid (fun W (g : w.grownBy W (some p)) => rd_grown hr g hp)
  generalize l[at']'(hn ▸ ha) = x at CO hx
  have hx8 : x.toNat < 256 := x.toNat_lt
  generalize hxk : x.toNat = k at CO hx hx8
  clear B1 Q1 G1 hr
  go_wp2_with fail
  refine (CO.out).mono ?_
  rintro e w3 ⟨rfl, hg3, hr3⟩
  have HGV := Lib.hid hg3
  have Q3 := HQ1.out.kept hr3 hne
  have HG3 := Lib.hid (grown_trans HG1.out hr3)
  have hs3 : w.heap.size ≤ w3.heap.size := HG3.out.size
  have HQ3 := Lib.hid Q3
  have c3 := hg3.cell 3
  have c1 := hg3.cell 1
  have hlt3 := hg3.lt
  clear hg3 hr3 CO Q3 b2 hlt1
  go_wp2_with fail
  have T4 := Blk.new w3 #[.int .u8 k, .int .i64 0, .string ⟨#[]⟩, .slice none 0 0] 25
  have hal : Below w3.heap.size w3 (w3.alloc (.cells #[.int .u8 k, .int .i64 0, .string ⟨#[]⟩, .slice none 0 0] 25)) := (Below.refl _ _).alloc (Nat.le_refl _) _
  have GV4 : Gv _ p (.slice ba n cap) (at' + 1) ((left : Int) - 1) 0 := HGV.out.below hal
  have Q4 := HQ3.out.below hal
  have G4 := grown_below HG3.out hal
  have hr0 : w.heap.size < w3.heap.size := HQ3.out.lt
  clear HGV HQ3 HG3 c3 c1 hlt3 hal hs3
  generalize w3.alloc (.cells #[.int .u8 k, .int .i64 0, .string ⟨#[]⟩, .slice none 0 0] 25) = W4 at T4 GV4 Q4 G4 ⊢
  generalize w3.heap.size = r0 at T4 hr0 ⊢
  have d1 := GV4.cell 1
  have hlt4 := GV4.lt
  have HF := Lib.hid (fun k => (⟨T4.below (belowN (Below.refl W4.heap.size W4) k), GV4.below (belowN (Below.refl W4.heap.size W4) k), Q4.below (belowN (Below.refl W4.heap.size W4) k), grown_trans G4 (drewN_grown W4 k _)⟩ : _ ∧ _ ∧ _ ∧ _))
  clear T4 GV4 Q4 G4
  go_quiet (fail)
  obtain ⟨T5, GV5, Q5, G5⟩ := HF.out nq
  clear HF d1 hlt4
  generalize W4.drewN nq = W5 at T5 GV5 Q5 G5 ⊢
  have t0 := T5.cell 0
  have t1 := T5.cell 1
  have t2 := T5.cell 2
  have t3 := T5.cell 3
  have tlt := T5.lt
  have HT5 := Lib.hid T5
  have HV5 := Lib.hid GV5
  have HQ5 := Lib.hid Q5
  have HG5 := Lib.hid G5
  have hnr : some r0 ≠ some p := fun e => by have := Option.some.inj e; omega
  clear T5 GV5 Q5 G5
  obtain rfl := hx.out
  clear hx
  have CO := Lib.hid (C1.out W5 HV5.out (HR.out W5 HG5.out))
  clear C1
  go_wp2_with fail
  refine (CO.out).mono ?_
  rintro e w6 ⟨rfl, hg6, hr6⟩
  have T6 := HT5.out.kept hr6 hnr
  have Q6 := HQ5.out.kept hr6 hne
  clear t0 t1 t2 t3 tlt CO
  have v0 := T6.cell 0
  have v1 := T6.cell 1
  have v2 := T6.cell 2
  have v3 := T6.cell 3
  have vf := fun o => T6.free o
  have vlt := T6.lt
  have q0 := Q6.cell 0
  have q1 := Q6.cell 1
  have q2 := Q6.cell 2
  have q3 := Q6.cell 3
  have qf := fun o => Q6.free o
  have qlt := Q6.lt
  have c1 := hg6.cell 1
  have cf := fun o => hg6.free o
  have hlt6 := hg6.lt
  have G7 := grown_fresh (grown_trans HG5.out hr6) hr0 1 (.int .i64 (y : Int))
  have V7 : Gv (w6.setCell ⟨r0, 1, none⟩ (.int .i64 (y : Int))) p (.slice ba n cap) (at' + 1 + 1) ((left : Int) - 1) 0 := Blk.kept hg6 (grown_set (grown_refl w6 (some r0)) 1 (.int .i64 (y : Int))) (fun e => hnr e.symm)
  have Q7 := Q6.kept (grown_set (grown_refl w6 (some r0)) 1 (.int .i64 (y : Int))) (fun e => by have := Option.some.inj e; omega)
  have T7 := T6.set 1 (.int .i64 (y : Int))
  have CF := Lib.hid (vfail_any p (.slice ba n cap) (at' + 1 + 1) ((left : Int) - 1) 0 10 10 rfl _ V7)
  rw [if_pos rfl] at CF
  have HG7 := Lib.hid G7
  have HQ7 := Lib.hid Q7
  have HT7 := Lib.hid T7
  clear G7 V7 Q7 T7 hg6 hr6 T6 Q6
  go_wp2_with fail
  refine (CF.out).mono ?_
  rintro e w8 ⟨rfl, hg6, hr6⟩
  have T6 := HT7.out.kept hr6 hnr
  have Q6 := HQ7.out.kept hr6 hne
  clear v0 v1 v2 v3 vf vlt q0 q1 q2 q3 qf qlt c1 cf hlt6
  have v0 := T6.cell 0
  have v1 := T6.cell 1
  have v2 := T6.cell 2
  have v3 := T6.cell 3
  have vlt := T6.lt
  have q0 := Q6.cell 0
  have q1 := Q6.cell 1
  have q2 := Q6.cell 2
  have q3 := Q6.cell 3
  have qf := fun o => Q6.free o
  have qlt := Q6.lt
  have c1 := hg6.cell 1
  have cf := fun o => hg6.free o
  have hlt6 := hg6.lt
  have HG6 := Lib.hid (grown_set (grown_trans HG7.out hr6) 1 (.int .i64 ((at' : Int) + 1 + 1)))
  have HV6 : Hid (Gv (w8.setCell ⟨p, 1, none⟩ (.int .i64 ((at' : Int) + 1 + 1))) p (.slice ba n cap) (at' + 1 + 1) ((left : Int) - 1) 10) := Lib.hid (hg6.set 1 (.int .i64 ((at' : Int) + 1 + 1)))
  have HQ6 := Lib.hid (Q6.kept (grown_set (grown_refl w8 (some p)) 1 (.int .i64 ((at' : Int) + 1 + 1))) hne)
  clear hg6 hr6 T6 Q6
  go_wp2
  have QF := (((HQ6.out.set 0 (.int .u8 2)).set 1 (.int .i64 (y : Int))).set 2 (.string ⟨#[]⟩)).set 3 (.slice none 0 0)
  have GF := ret_gv0 HV6.out HG6.out hpw (Nat.le_refl w.heap.size) (.int .u8 2) (.int .i64 (y : Int)) (.string ⟨#[]⟩) (.slice none 0 0)
  (try simp only [Exit.inBlock, Exit.then])
  refine bodyPost_ret (results_cell_row rfl _ _ w.heap.size 25 _ (0, 0) _ rfl QF Try.underlying25 rfl (by kernel_rfl)) rfl ?_
  exact ⟨2, y, ⟨#[]⟩, none, 0, 0, at' + 1 + 1, _, rfl, by decide, GF.1, GF.2⟩
end Go.Proofs.Ytgamhgeiceakeaa
/- package value: the getter's value, by contract: bytes. -/
set_option linter.unusedVariables false
set_option linter.unusedSimpArgs false
namespace Go.Proofs.Ytgamhgeiceakeaa
open Go.RowKit
open Va (V)
theorem conv_rd {w : World} {ba : Option Addr} {n cap : Nat} {l : List UInt8} (hn : l.length = n) (hr : Rd w ba l) (hb : ba = none → n = 0) :
    (convert 27 9 (.slice ba n cap)).run Try.prog w = .ok (.string ⟨l.toArray⟩) w := by
  subst hn
  cases ba with
  | none =>
    have h0 := hb rfl
    obtain rfl : l = [] := List.eq_nil_of_length_eq_zero h0
    exact run_convert_bytes_nil w 27 5 Try.underlying27 Try.underlying5 0 cap 9 Try.underlying9
  | some a =>
    refine run_convert_bytes_back w 27 9 5 a cap l Try.underlying27 Try.underlying5 Try.underlying9 fun j hj => ?_
    rcases hr with h | ⟨b, o, e, hlt, hc⟩
    · rw [h] at hj; simp at hj
    · cases e; rw [addPl]; exact hc j hj
theorem Ow.rd {w : World} {B : Nat} {v : Value} {l : List UInt8} (h : Ow w B v l) : ∃ ba cap, v = .slice ba l.length cap ∧ Rd w ba l ∧ (ba = none → l.length = 0) ∧ l.length ≤ cap := by
  rcases h.2 with ⟨rfl, h0⟩ | ⟨g, cap, cur, rfl, hb, hg, hcap, _⟩
  · exact ⟨none, 0, by rw [h0], Or.inl (List.eq_nil_of_length_eq_zero h0), fun _ => h0, by omega⟩
  · refine ⟨_, cap, rfl, Or.inr ⟨g, 0, rfl, (Array.getElem?_eq_some_iff.1 hg).1, fun i hi => ?_⟩, (fun e => by cases e), hcap⟩
    have := h.cells (g := g) rfl i (.int .u8 (l[i].toNat : Nat)) (by unfold u8s; simp [hi])
    rw [addPl] at this; exact this
theorem getBlob_len {n : Nat} (most : Nat) (l : List UInt8) (at' : Nat) (hmx : n ≤ 1099511627776) (hn : l.length = n) : (By.getBlob most (l.drop at')).1.length ≤ 1099511627776 := by
  unfold By.getBlob
  split
  · simp
  · split
    · simp
    · split
      · simp
      · simp only [List.length_take, List.length_drop]; omega
set_option maxHeartbeats 3200000 in
set_option maxRecDepth 100000 in
theorem value_blob (p : Nat) (ba : Option Addr) (n cap : Nat) (l : List UInt8) (at' left lv : Nat) (w : World) (hg : Gv w p (.slice ba n cap) at' left 0) (hn : l.length = n) (hr : Rd w ba l) (hp : l ≠ [] → ∀ b o, ba = some (⟨b, o, none⟩ : Addr) → b ≠ p) (ha : at' < n) (hmx : n ≤ 1099511627776) (hl0 : 1 ≤ left) (hlv0 : 1 ≤ lv) (hl : left ≤ 256) (hlv : lv ≤ 16)
    (hb0 : ba = none → n = 0) (hnc : n ≤ cap) (d : List UInt8) (c er : Nat) (hgb : By.getBlob 4096 (l.drop (at' + 1)) = (d, c, er)) (R : Va.Rs)
    (hx : (l[at']'(hn ▸ ha)).toNat = 3 ∧ R = if er ≠ 0 then .error er else .ok (.mk 3 0 ⟨d.toArray⟩ [], at' + 1 + c, left - 1)) :
    Calls Try.prog 72 #[.pointer (some ⟨p, 0, none⟩), .int .i64 lv] w (VaPost p (.slice ba n cap) R w) := by
  obtain ⟨nx, hnx⟩ : ∃ nx : Nat, nx = if er = 0 then at' + 1 + c else 0 := ⟨_, rfl⟩
  have hdl : d.length ≤ 1099511627776 := by
    have h1 : d = (By.getBlob 4096 (l.drop (at' + 1))).1 := by rw [hgb]
    rw [h1]
    exact getBlob_len 4096 l (at' + 1) hmx hn
  have CB : Hid (∀ W, Rd W ba l → Calls Try.prog 73 #[.slice ba n cap, .int .i64 ((at' : Int) + 1), .int .i64 4096] W fun e W' => ∃ b2 c2, e = .returned (.tuple #[.slice b2 d.length c2, .int .i64 nx, .int .i64 er]) ∧ (convert 27 9 (.slice b2 d.length c2)).run Try.prog W' = .ok (.string ⟨d.toArray⟩) W' ∧ Below W.heap.size W W') := Lib.hid fun W h => (getBlob_any ba n cap l (at' + 1) 4096 W hn h hb0 (by omega) hnc hmx (by decide)).mono fun e W' hp => by
    unfold GbPost at hp
    rw [hgb] at hp
    obtain ⟨v', he, ho, hb⟩ := hp
    obtain ⟨b2, c2, rfl, h1, h2, _⟩ := ho.rd
    exact ⟨b2, c2, by rw [he, hnx], conv_rd rfl h1 h2, hb⟩
  have hd : d.length ≤ maxLen := by unfold maxLen; omega
  have HD := Lib.hid hd
  have HNX := Lib.hid hnx
  clear hgb hnx hb0 hnc hd hdl
  replace hx := Lib.hid hx
  have hsz : (w.setCell ⟨p, 2, none⟩ (.int .i64 ((left : Int) - 1))).heap.size = w.heap.size := by simp
  have B1 : Gv ((w.setCell ⟨p, 2, none⟩ (.int .i64 ((left : Int) - 1))).alloc (.cells #[.int .u8 0, .int .i64 0, .string ⟨#[]⟩, .slice none 0 0] 25)) p (.slice ba n cap) at' ((left : Int) - 1) 0 := (hg.set 2 _).below ((Below.refl _ _).alloc (Nat.le_refl _) _)
  have Q1 := Blk.new (w.setCell ⟨p, 2, none⟩ (.int .i64 ((left : Int) - 1))) #[.int .u8 0, .int .i64 0, .string ⟨#[]⟩, .slice none 0 0] 25
  rw [hsz] at Q1
  have G1 : w.grownBy ((w.setCell ⟨p, 2, none⟩ (.int .i64 ((left : Int) - 1))).alloc (.cells #[.int .u8 0, .int .i64 0, .string ⟨#[]⟩, .slice none 0 0] 25)) (some p) := grown_below (grown_set (grown_refl _ _) _ _) ((Below.refl _ _).alloc (Nat.le_refl _) _)
  have hpw : p < w.heap.size := hg.lt
  clear hsz
  have c2 := hg.cell 2
  have hf := fun o => hg.free o
  have hlt := hg.lt
  clear hg
  go_enter Try.func72, Try.ntmps72
  go_upto_region 2 with (fail)
  clear c2 hf hlt
  generalize (w.setCell ⟨p, 2, none⟩ (.int .i64 ((left : Int) - 1))).alloc (.cells #[.int .u8 0, .int .i64 0, .string ⟨#[]⟩, .slice none 0 0] 25) = W1 at B1 Q1 G1 ⊢
  have hne : some w.heap.size ≠ some p := fun e => by have := Option.some.inj e; omega
  have CO := Lib.hid (one_yes p ba n cap l at' ((left : Int) - 1) W1 B1 hn (rd_grown hr G1 hp) hp ha hmx)
  have b2 := B1.cell 2
  have hlt1 := B1.lt
  have HQ1 := Lib.hid Q1
  have HG1 := Lib.hid G1
  have hz : ((lv : Int) == 0) = false := bneI (by omega)
  have hpos : (1 : Int) ≤ (left : Int) := by omega
  have HR := Lib.hid (fun W (g : w.grownBy W (some p)) => rd_grown hr g hp)
  generalize l[at']'(hn ▸ ha) = x at CO hx
  have hx8 : x.toNat < 256 := x.toNat_lt
  generalize hxk : x.toNat = k at CO hx hx8
  clear B1 Q1 G1 hr
  go_wp2_with fail
  refine (CO.out).mono ?_
  rintro e w3 ⟨rfl, hg3, hr3⟩
  have HGV := Lib.hid hg3
  have Q3 := HQ1.out.kept hr3 hne
  have HG3 := Lib.hid (grown_trans HG1.out hr3)
  have hs3 : w.heap.size ≤ w3.heap.size := HG3.out.size
  have HQ3 := Lib.hid Q3
  have c3 := hg3.cell 3
  have c1 := hg3.cell 1
  have hlt3 := hg3.lt
  clear hg3 hr3 CO Q3 b2 hlt1
  go_wp2_with fail
  have T4 := Blk.new w3 #[.int .u8 k, .int .i64 0, .string ⟨#[]⟩, .slice none 0 0] 25
  have hal : Below w3.heap.size w3 (w3.alloc (.cells #[.int .u8 k, .int .i64 0, .string ⟨#[]⟩, .slice none 0 0] 25)) := (Below.refl _ _).alloc (Nat.le_refl _) _
  have GV4 : Gv _ p (.slice ba n cap) (at' + 1) ((left : Int) - 1) 0 := HGV.out.below hal
  have Q4 := HQ3.out.below hal
  have G4 := grown_below HG3.out hal
  have hr0 : w.heap.size < w3.heap.size := HQ3.out.lt
  clear HGV HQ3 HG3 c3 c1 hlt3 hal hs3
  generalize w3.alloc (.cells #[.int .u8 k, .int .i64 0, .string ⟨#[]⟩, .slice none 0 0] 25) = W4 at T4 GV4 Q4 G4 ⊢
  generalize w3.heap.size = r0 at T4 hr0 ⊢
  have d1 := GV4.cell 1
  have hlt4 := GV4.lt
  have HF := Lib.hid (fun k => (⟨T4.below (belowN (Below.refl W4.heap.size W4) k), GV4.below (belowN (Below.refl W4.heap.size W4) k), Q4.below (belowN (Below.refl W4.heap.size W4) k), grown_trans G4 (drewN_grown W4 k _)⟩ : _ ∧ _ ∧ _ ∧ _))
  clear T4 GV4 Q4 G4
  go_quiet (fail)
  obtain ⟨T5, GV5, Q5, G5⟩ := HF.out nq
  clear HF d1 hlt4
  generalize W4.drewN nq = W5 at T5 GV5 Q5 G5 ⊢
  have t0 := T5.cell 0
  have t1 := T5.cell 1
  have t2 := T5.cell 2
  have t3 := T5.cell 3
  have tlt := T5.lt
  have HT5 := Lib.hid T5
  have HV5 := Lib.hid GV5
  have HQ5 := Lib.hid Q5
  have HG5 := Lib.hid G5
  have hnr : some r0 ≠ some p := fun e => by have := Option.some.inj e; omega
  clear T5 GV5 Q5 G5
  obtain ⟨hK, hR⟩ := hx.out
  clear hx
  have HRR := Lib.hid hR
  clear hR
  have HR5 := Lib.hid (HR.out W5 HG5.out)
  have y0 := HV5.out.cell 0
  have y1 := HV5.out.cell 1
  have hlt5 := HV5.out.lt
  subst hK
  go_wp2_with fail
  refine wp_region_T_drew (fun w' => w'.cell? ⟨p, 0, none⟩ = some (.slice ba n cap) ∧ w'.cell? ⟨p, 1, none⟩ = some (.int .i64 ((at' : Int) + 1))) 16 (by kernel_rfl) ⟨y0, y1⟩ (fun hS => ?_)
  refine wpAnyT_take 0 rfl (by kernel_rfl) (by kernel_rfl) (by decide) (by kernel_rfl) (by kernel_rfl) (fun _ _ _ h => h) hS (by kernel_rfl) (v := ?_) ?_ ?_
  rotate_left
  · intro w' hSw; (try dsimp only at hSw); go_simp; (try with_reducible rfl)
  simp only [Act.put, List.setIfInBounds_toArray, List.set_cons_zero, List.set_cons_succ]
  refine wpAnyT_take 1 rfl (by kernel_rfl) (by kernel_rfl) (by decide) (by kernel_rfl) (by kernel_rfl) (fun _ _ _ h => h) hS (by kernel_rfl) (v := ?_) ?_ ?_
  rotate_left
  · intro w' hSw; (try dsimp only at hSw); go_simp; (try with_reducible rfl)
  simp only [Act.put, List.setIfInBounds_toArray, List.set_cons_zero, List.set_cons_succ]
  refine wpAnyT_take 2 rfl (by kernel_rfl) (by kernel_rfl) (by decide) (by kernel_rfl) (by kernel_rfl) (fun _ _ _ h => h) hS (by kernel_rfl) (v := ?_) ?_ ?_
  rotate_left
  · intro w' hSw; (try dsimp only at hSw); go_simp; (try with_reducible rfl)
  simp only [Act.put, List.setIfInBounds_toArray, List.set_cons_zero, List.set_cons_succ]
  refine wpAnyT_take 3 rfl (by kernel_rfl) (by kernel_rfl) (by decide) (by kernel_rfl) (by kernel_rfl) (fun _ _ _ h => h) hS (by kernel_rfl) (v := ?_) ?_ ?_
  rotate_left
  · intro w' hSw; (try dsimp only at hSw); go_simp; (try with_reducible rfl)
  simp only [Act.put, List.setIfInBounds_toArray, List.set_cons_zero, List.set_cons_succ]
  refine wpAnyT_take 4 rfl (by kernel_rfl) (by kernel_rfl) (by decide) (by kernel_rfl) (by kernel_rfl) (fun _ _ _ h => h) hS (by kernel_rfl) (v := ?_) ?_ ?_
  rotate_left
  · intro w' hSw; (try dsimp only at hSw); go_simp; (try with_reducible rfl)
  simp only [Act.put, List.setIfInBounds_toArray, List.set_cons_zero, List.set_cons_succ]
  refine wpAnyT_take 5 rfl (by kernel_rfl) (by kernel_rfl) (by decide) (by kernel_rfl) (by kernel_rfl) (fun _ _ _ h => h) hS (by kernel_rfl) (v := ?_) ?_ ?_
  rotate_left
  · intro w' hSw; (try dsimp only at hSw); go_simp; (try with_reducible rfl)
  simp only [Act.put, List.setIfInBounds_toArray, List.set_cons_zero, List.set_cons_succ]
  refine wpAnyT_take 6 rfl (by kernel_rfl) (by kernel_rfl) (by decide) (by kernel_rfl) (by kernel_rfl) (fun _ _ _ h => h) hS (by kernel_rfl) (v := ?_) ?_ ?_
  rotate_left
  · intro w' hSw; (try dsimp only at hSw); go_simp; (try with_reducible rfl)
  simp only [Act.put, List.setIfInBounds_toArray, List.set_cons_zero, List.set_cons_succ]
  refine wpAnyT_take 7 rfl (by kernel_rfl) (by kernel_rfl) (by decide) (by kernel_rfl) (by kernel_rfl) (fun _ _ _ h => h) hS (by kernel_rfl) (v := ?_) ?_ ?_
  rotate_left
  · intro w' hSw; (try dsimp only at hSw); go_simp; (try with_reducible rfl)
  simp only [Act.put, List.setIfInBounds_toArray, List.set_cons_zero, List.set_cons_succ]
  refine wpAnyT_one 8 (by kernel_rfl) rfl (by kernel_rfl) (fun K hK => ?_)
  go_simp
  refine (CB.out _ (HR5.out.below ((Below.refl _ _).drew))).mono ?_
  rintro e w6 ⟨b2, c2, rfl, hcv, hb6⟩
  have hb7 : Below W5.heap.size W5 w6 := ((Below.refl W5.heap.size W5).drew).trans hb6
  have HCV := Lib.hid hcv
  have V6 := HV5.out.below hb7
  have T6 := HT5.out.below hb7
  have Q6 := HQ5.out.below hb7
  have G6 := grown_below HG5.out hb7
  have hS : _ ∧ _ := ⟨V6.cell 0, V6.cell 1⟩
  have HV6 := Lib.hid V6
  have HT6 := Lib.hid T6
  have HQ6 := Lib.hid Q6
  have HG6 := Lib.hid G6
  clear V6 T6 Q6 G6 hb7 hb6 hcv
  refine hK _ _ (fun _ => hS) ?_
  clear hK K
  refine wpAnyT_take 9 rfl (by kernel_rfl) (by kernel_rfl) (by decide) (by kernel_rfl) (by kernel_rfl) (fun _ _ _ h => h) hS (by kernel_rfl) (v := ?_) ?_ ?_
  rotate_left
  · intro w' hSw; (try dsimp only at hSw); go_simp; (try with_reducible rfl)
  simp only [Act.put, List.setIfInBounds_toArray, List.set_cons_zero, List.set_cons_succ]
  refine wpAnyT_take 10 rfl (by kernel_rfl) (by kernel_rfl) (by decide) (by kernel_rfl) (by kernel_rfl) (fun _ _ _ h => h) hS (by kernel_rfl) (v := ?_) ?_ ?_
  rotate_left
  · intro w' hSw; (try dsimp only at hSw); go_simp; (try with_reducible rfl)
  simp only [Act.put, List.setIfInBounds_toArray, List.set_cons_zero, List.set_cons_succ]
  refine wpAnyT_take 11 rfl (by kernel_rfl) (by kernel_rfl) (by decide) (by kernel_rfl) (by kernel_rfl) (fun _ _ _ h => h) hS (by kernel_rfl) (v := ?_) ?_ ?_
  rotate_left
  · intro w' hSw; (try dsimp only at hSw); go_simp; (try with_reducible rfl)
  simp only [Act.put, List.setIfInBounds_toArray, List.set_cons_zero, List.set_cons_succ]
  refine wpAnyT_take 12 rfl (by kernel_rfl) (by kernel_rfl) (by decide) (by kernel_rfl) (by kernel_rfl) (fun _ _ _ h => h) hS (by kernel_rfl) (v := ?_) ?_ ?_
  rotate_left
  · intro w' hSw; (try dsimp only at hSw); go_simp; (try with_reducible rfl)
  simp only [Act.put, List.setIfInBounds_toArray, List.set_cons_zero, List.set_cons_succ]
  refine wpAnyT_one 13 (by kernel_rfl) rfl (by kernel_rfl) (fun K hK => ?_)
  go_simp
  refine hK _ _ (fun _ => hS) ?_
  clear hK K
  refine wpAnyT_one 14 (by kernel_rfl) rfl (by kernel_rfl) (fun K hK => ?_)
  go_simp
  refine hK _ _ (fun _ => hS) ?_
  clear hK K
  refine wpAnyT_one 15 (by kernel_rfl) rfl (by kernel_rfl) (fun K hK => ?_)
  go_simp
  refine hK _ _ (fun _ => hS) ?_
  clear hK K
  refine wpAnyT_done (by kernel_rfl) ?_
  clear hS y0 y1 hlt5 t0 t1 t2 t3 tlt HR5 CB
  have t0 := HT6.out.cell 0
  have t1 := HT6.out.cell 1
  have t2 := HT6.out.cell 2
  have t3 := HT6.out.cell 3
  have tf := fun o => HT6.out.free o
  have tlt := HT6.out.lt
  have y1 := HV6.out.cell 1
  have yf := fun o => HV6.out.free o
  have ylt := HV6.out.lt
  have q0 := HQ6.out.cell 0
  have q1 := HQ6.out.cell 1
  have q2 := HQ6.out.cell 2
  have q3 := HQ6.out.cell 3
  have qf := fun o => HQ6.out.free o
  have qlt := HQ6.out.lt
  have kcv := HCV.out
  by_cases he : er = 0
  · subst he
    have G8 := Lib.hid (grown_set (grown_fresh HG6.out hr0 2 (.string ⟨d.toArray⟩)) 1 (.int .i64 (nx : Int)))
    have V7 : Gv (w6.setCell ⟨r0, 2, none⟩ (.string ⟨d.toArray⟩)) p (.slice ba n cap) (at' + 1) ((left : Int) - 1) 0 := Blk.kept HV6.out (grown_set (grown_refl w6 (some r0)) 2 (.string ⟨d.toArray⟩)) (fun e => hnr e.symm)
    have V8 : Hid (Gv ((w6.setCell ⟨r0, 2, none⟩ (.string ⟨d.toArray⟩)).setCell ⟨p, 1, none⟩ (.int .i64 (nx : Int))) p (.slice ba n cap) nx ((left : Int) - 1) 0) := Lib.hid (V7.set 1 (.int .i64 (nx : Int)))
    have Q8 := Lib.hid ((HQ6.out.kept (grown_set (grown_refl w6 (some r0)) 2 (.string ⟨d.toArray⟩)) (fun e => by have := Option.some.inj e; omega)).kept (grown_set (grown_refl (w6.setCell ⟨r0, 2, none⟩ (.string ⟨d.toArray⟩)) (some p)) 1 (.int .i64 (nx : Int))) hne)
    clear V7
    go_wp2
    have QF := (((Q8.out.set 0 (.int .u8 3)).set 1 (.int .i64 0)).set 2 (.string ⟨d.toArray⟩)).set 3 (.slice none 0 0)
    have GF := ret_gv0 V8.out G8.out hpw (Nat.le_refl w.heap.size) (.int .u8 3) (.int .i64 0) (.string ⟨d.toArray⟩) (.slice none 0 0)
    (try simp only [Exit.inBlock, Exit.then])
    refine bodyPost_ret (results_cell_row rfl _ _ w.heap.size 25 _ (0, 0) _ rfl QF Try.underlying25 rfl (by kernel_rfl)) rfl ?_
    have hRe : R = .ok (.mk 3 0 ⟨d.toArray⟩ [], nx, left - 1) := by rw [HRR.out, HNX.out]; simp
    rw [hRe]
    have hl1 : ((left - 1 : Nat) : Int) = (left : Int) - 1 := by omega
    refine ⟨_, rfl, RV.mk' (ok := fun b => w.heap.size ≤ b) (k := 3) (l := []) (ba := none) (cap := 0) (s := ⟨d.toArray⟩) (by decide) (by unfold Va.I64; omega) HD.out ⟨by simp, by simp [maxLen], fun _ => rfl, fun i hi => by simp at hi⟩, ?_, GF.2⟩
    rw [hl1]
    exact GF.1
  · have he2 : ((er : Int) != 0) = true := by rw [bne_iff_ne]; omega
    have G7 := grown_fresh HG6.out hr0 2 (.string ⟨d.toArray⟩)
    have V7 : Gv (w6.setCell ⟨r0, 2, none⟩ (.string ⟨d.toArray⟩)) p (.slice ba n cap) (at' + 1) ((left : Int) - 1) 0 := Blk.kept HV6.out (grown_set (grown_refl w6 (some r0)) 2 (.string ⟨d.toArray⟩)) (fun e => hnr e.symm)
    have Q7 := HQ6.out.kept (grown_set (grown_refl w6 (some r0)) 2 (.string ⟨d.toArray⟩)) (fun e => by have := Option.some.inj e; omega)
    have T7 := HT6.out.set 2 (.string ⟨d.toArray⟩)
    have CF := Lib.hid (vfail_any p (.slice ba n cap) (at' + 1) ((left : Int) - 1) 0 er er rfl _ V7)
    rw [if_pos rfl] at CF
    have HG7 := Lib.hid G7
    have HQ7 := Lib.hid Q7
    have HT7 := Lib.hid T7
    clear G7 V7 Q7 T7
    go_wp2_with fail
    refine (CF.out).mono ?_
    rintro e w8 ⟨rfl, hg6, hr6⟩
    have T8 := HT7.out.kept hr6 hnr
    have Q8 := HQ7.out.kept hr6 hne
    clear t0 t1 t2 t3 tf tlt y1 yf ylt q0 q1 q2 q3 qf qlt kcv
    have v0 := T8.cell 0
    have v1 := T8.cell 1
    have v2 := T8.cell 2
    have v3 := T8.cell 3
    have vlt := T8.lt
    have q0 := Q8.cell 0
    have q1 := Q8.cell 1
    have q2 := Q8.cell 2
    have q3 := Q8.cell 3
    have qf := fun o => Q8.free o
    have qlt := Q8.lt
    have c1 := hg6.cell 1
    have cf := fun o => hg6.free o
    have hlt6 := hg6.lt
    have HG8 := Lib.hid (grown_set (grown_trans HG7.out hr6) 1 (.int .i64 (nx : Int)))
    have HV8 : Hid (Gv (w8.setCell ⟨p, 1, none⟩ (.int .i64 (nx : Int))) p (.slice ba n cap) nx ((left : Int) - 1) er) := Lib.hid (hg6.set 1 (.int .i64 (nx : Int)))
    have HQ8 := Lib.hid (Q8.kept (grown_set (grown_refl w8 (some p)) 1 (.int .i64 (nx : Int))) hne)
    clear hg6 hr6 T8 Q8
    go_wp2
    have QF := (((HQ8.out.set 0 (.int .u8 3)).set 1 (.int .i64 0)).set 2 (.string ⟨d.toArray⟩)).set 3 (.slice none 0 0)
    have GF := ret_gv0 HV8.out HG8.out hpw (Nat.le_refl w.heap.size) (.int .u8 3) (.int .i64 0) (.string ⟨d.toArray⟩) (.slice none 0 0)
    (try simp only [Exit.inBlock, Exit.then])
    refine bodyPost_ret (results_cell_row rfl _ _ w.heap.size 25 _ (0, 0) _ rfl QF Try.underlying25 rfl (by kernel_rfl)) rfl ?_
    have hRe : R = .error er := by rw [HRR.out]; simp [he]
    rw [hRe]
    exact ⟨3, 0, ⟨d.toArray⟩, none, 0, 0, nx, _, rfl, he, GF.1, GF.2⟩
end Go.Proofs.Ytgamhgeiceakeaa
/- package value: the getter's value: a tuple's parts in their row, without the walk. -/
set_option linter.unusedVariables false
set_option linter.unusedSimpArgs false
namespace Go.Proofs.Ytgamhgeiceakeaa
open Go.RowKit
open Va (V)
theorem Try.info_value : (Try.prog.info? 25).map (fun i => (i.zero, i.size, i.bytes)) = some (some (.agg #[.int .u8 0, .int .i64 0, .string ⟨#[]⟩, .slice none 0 0]), 4, 56) := by kernel_rfl
def c4 : Value → List Value
  | .agg cs => cs.toList
  | v => [v]
def vcs (xs : List Value) : List Value := xs.flatMap c4
theorem vcs_snoc (xs : List Value) (a b c d : Value) : vcs (xs ++ [.agg #[a, b, c, d]]) = vcs xs ++ [a, b, c, d] := by
  unfold vcs; simp [c4]
def Four (xs : List Value) : Prop := ∀ x ∈ xs, ∃ a b c d, x = Value.agg #[a, b, c, d]
theorem vcs_at : ∀ (xs : List Value), Four xs → ∀ (i k : Nat) (h : i < xs.length), k < 4 → (vcs xs)[i * 4 + k]? = (c4 xs[i])[k]?
  | [], _, i, _, h, _ => by simp at h
  | x :: xs, hf, i, k, h, hk => by
    obtain ⟨a, b, c, d, rfl⟩ := hf x (List.mem_cons_self ..)
    have e : vcs (.agg #[a, b, c, d] :: xs) = [a, b, c, d] ++ vcs xs := by unfold vcs; simp [c4]
    rw [e]
    match i, h with
    | 0, h =>
      rw [List.getElem?_append_left (by simp; omega)]
      simp [c4]
    | i + 1, h =>
      rw [List.getElem?_append_right (by simp; omega)]
      rw [show (i + 1) * 4 + k - [a, b, c, d].length = i * 4 + k by simp; omega]
      rw [vcs_at xs (fun y hy => hf y (List.mem_cons_of_mem _ hy)) i k (by simpa using h) hk]
      rfl
/-- the parts told so far: each reads so, and lies above r0, and not in the row -/
def Prs (r0 : Nat) (w : World) (sv : Value) (acc : List V) (xs : List Value) : Prop := acc.length = xs.length ∧ ∀ i (h : i < acc.length) (h' : i < xs.length), RV (fun b => r0 < b ∧ some b ≠ sv.ownBlock) w acc[i] xs[i]
theorem prs_rl {w : World} {r0 B : Nat} {sv : Value} {acc : List V} {xs : List Value} (hB : B ≤ r0 + 1) (hf : Four xs) (ho : w.ownsRow (r0 + 1) 25 4 sv xs.length (vcs xs)) (hp : Prs r0 w sv acc xs) :
    ∃ g cap, sv = .slice g acc.length cap ∧ RL (fun b => B ≤ b) w acc g cap := by
  obtain ⟨hl, hr⟩ := hp
  rcases ho.2 with ⟨rfl, h0⟩ | ⟨g, cap, cur, rfl, hb, hg, hcap, hm, _⟩
  · exact ⟨none, 0, by rw [hl, h0], ⟨by omega, by unfold maxLen; omega, fun _ => by omega, fun i h => by omega⟩⟩
  · refine ⟨_, cap, by rw [hl], ⟨by omega, hm, (fun e => by cases e), fun i h => ?_⟩⟩
    have hi : i < xs.length := by omega
    have hx := hr i h hi
    obtain ⟨a, b, c, d, e⟩ := hf xs[i] (List.getElem_mem hi)
    have hc : ∀ k, k < 4 → ∀ u, (c4 xs[i])[k]? = some u → w.cell? ⟨g, 0 + i * 4 + k, none⟩ = some u := fun k hk u hu => by
      have := ho.cells (g := g) rfl (i * 4 + k) u (by rw [vcs_at xs hf i k hi hk]; exact hu)
      rw [addPl] at this
      rw [Nat.add_assoc]; exact this
    rw [e] at hc
    refine ⟨g, 0, xs[i], rfl, by omega, ⟨(Array.getElem?_eq_some_iff.1 hg).1, a, b, c, d, e, hc 0 (by omega) _ rfl, hc 1 (by omega) _ rfl, hc 2 (by omega) _ rfl, hc 3 (by omega) _ rfl⟩, hx.mono fun b _ hb => by omega⟩
/-- the state of the loop over a tuple's parts -/
structure TuS (w : World) (p r0 : Nat) (bs : Value) (k a : Nat) (lf : Int) (er : Nat) (sv : Value) (xs : List Value) (W : World) : Prop where
  g : Gv W p bs a lf er
  t : Blk W r0 #[.int .u8 4, .int .i64 0, .string ⟨#[]⟩, sv] 25
  q : Blk W w.heap.size #[.int .u8 0, .int .i64 0, .string ⟨#[]⟩, .slice none 0 0] 25
  gr : w.grownBy W (some p)
  own : W.ownsRow (r0 + 1) 25 4 sv xs.length (vcs xs)
  four : Four xs
  len : xs.length + k ≤ 256
def TuR (RES : Except Nat (List V × Nat × Nat)) (n : Nat) (f : Nat → Nat → Va.Rs) (r0 k a : Nat) (lf : Int) (er : Nat) (sv : Value) (xs : List Value) (W : World) : Prop :=
  (er = 0 ∧ ∃ (lfn : Nat) (acc : List V), lf = (lfn : Nat) ∧ lfn ≤ 256 ∧ a ≤ n ∧ Va.gvN f k a lfn acc = RES ∧ Prs r0 W sv acc xs) ∨ (er ≠ 0 ∧ RES = .error er)
theorem TuS.past {w W W' : World} {p r0 k a er : Nat} {bs sv : Value} {lf : Int} {xs : List Value} (h : TuS w p r0 bs k a lf er sv xs W) (hb : Below W.heap.size W W') : TuS w p r0 bs k a lf er sv xs W' :=
  ⟨h.g.below hb, h.t.below hb, h.q.below hb, grown_below h.gr hb, row_below h.own hb, h.four, h.len⟩
theorem Prs.past {r0 : Nat} {W W' : World} {sv : Value} {acc : List V} {xs : List Value} (h : Prs r0 W sv acc xs) (hb : Below W.heap.size W W') : Prs r0 W' sv acc xs := ⟨h.1, fun i h1 h2 => (h.2 i h1 h2).past hb⟩
/-- what a part's call tells -/
def PartPost (p : Nat) (bs : Value) (R : Va.Rs) (W : World) (e : Ending) (W' : World) : Prop := ∃ (kk nn : Int) (s : ByteArray) (b2 : Option Addr) (m2 c2 a2 : Nat) (lf2 : Int) (er2 : Nat), e = .returned (.agg #[.int .u8 kk, .int .i64 nn, .string s, .slice b2 m2 c2]) ∧ Gv W' p bs a2 lf2 er2 ∧ W.grownBy W' (some p) ∧
  ((er2 = 0 ∧ ∃ (v : V) (lfn : Nat), R = .ok (v, a2, lfn) ∧ lf2 = (lfn : Nat) ∧ RV (fun b => W.heap.size ≤ b) W' v (.agg #[.int .u8 kk, .int .i64 nn, .string s, .slice b2 m2 c2])) ∨ (er2 ≠ 0 ∧ R = .error er2))
theorem part_of {p : Nat} {bs : Value} {R : Va.Rs} {W W' : World} {e : Ending} (h : VaPost p bs R W e W') : PartPost p bs R W e W' := by
  unfold VaPost at h
  rcases R with er | ⟨v, a2, lfn⟩
  · obtain ⟨k, n, s, ba, m, c, at2, left2, he, hne, hg, hr⟩ := h
    exact ⟨k, n, s, ba, m, c, at2, left2, er, he, hg, hr, Or.inr ⟨hne, rfl⟩⟩
  · obtain ⟨x, he, hrv, hg, hr⟩ := h
    obtain ⟨k, n, s, l⟩ := v
    obtain ⟨ba, cap, rfl, _⟩ := hrv.inv
    exact ⟨(k : Int), n, s, ba, l.length, cap, a2, _, 0, he, hg, hr, Or.inl ⟨rfl, _, lfn, rfl, rfl, hrv⟩⟩
/-- one part more -/
theorem tu_step {w W0 W w2 : World} {p r0 k a a2 er2 : Nat} {bs sv sv' : Value} {lf lf2 : Int} {xs : List Value} {o : Obj} {c0 c1 c2 c3 : Value} (hr0 : w.heap.size < r0) (hp : p < w.heap.size) (h : TuS w p r0 bs (k + 1) a lf 0 sv xs W0)
    (hV : Gv W p bs a2 lf2 er2) (hG : W0.grownBy W (some p)) (hgw : Gw (W.alloc o) w2 sv sv') (hown : w2.ownsRow (r0 + 1) 25 4 sv' (xs.length + 1) (vcs xs ++ [c0, c1, c2, c3])) :
    TuS w p r0 bs k a2 lf2 er2 sv' (xs ++ [.agg #[c0, c1, c2, c3]]) (w2.setCell ⟨r0, 3, none⟩ sv') := by
  have hlt := h.own.lt
  have hne : sv.ownBlock ≠ some r0 := fun e => by have := (hlt r0 e).1; omega
  have hneq : sv.ownBlock ≠ some w.heap.size := fun e => by have := (hlt _ e).1; omega
  have hnep : sv.ownBlock ≠ some p := fun e => by have := (hlt _ e).1; omega
  have hset : w2.grownBy (w2.setCell ⟨r0, 3, none⟩ sv') (some r0) := grown_set (grown_refl _ _) _ _
  have hal : Below W.heap.size W (W.alloc o) := (Below.refl _ _).alloc (Nat.le_refl _) _
  have e1 : some p ≠ some r0 := fun e => by cases e; omega
  have e2 : some w.heap.size ≠ some r0 := fun e => by cases e; omega
  have hlt' := hown.lt
  refine ⟨?_, ?_, ?_, ?_, ?_, ?_, ?_⟩
  · exact Blk.kept (Blk.kept (hV.below hal) hgw.grown (fun e => hnep e.symm)) hset e1
  · have h1 := Blk.kept ((h.t.kept hG (fun e => e1 e.symm)).below hal) hgw.grown (fun e => hne e.symm)
    exact h1.set 3 sv'
  · exact Blk.kept (Blk.kept ((h.q.kept hG (fun e => by cases e; omega)).below hal) hgw.grown (fun e => hneq e.symm)) hset e2
  · have h1 := grown_below (grown_trans h.gr hG) hal
    refine ⟨hset.os.trans (hgw.grown.os.trans h1.os), hset.tape.trans (hgw.grown.tape.trans h1.tape), hset.output.trans (hgw.grown.output.trans h1.output), Nat.le_trans h1.size (Nat.le_trans hgw.grown.size hset.size), fun i hi hnp => ?_⟩
    have hi1 : i < (W.alloc o).heap.size := Nat.lt_of_lt_of_le hi h1.size
    rw [hset.block i (Nat.lt_of_lt_of_le hi1 hgw.grown.size) (fun e => by cases e; omega), hgw.grown.block i hi1 (fun e => by have := (hlt i e.symm).1; omega), h1.block i hi hnp]
  · rw [vcs_snoc, List.length_append]
    exact World.ownsRow.kept hown hset (by
      cases hv : sv'.ownBlock with
      | none => exact Or.inl rfl
      | some j => exact Or.inr (fun e => by cases e; have := (hlt' _ hv).1; omega))
  · intro x hx
    rcases List.mem_append.1 hx with hx | hx
    · exact h.four x hx
    · obtain rfl := List.mem_singleton.1 hx; exact ⟨_, _, _, _, rfl⟩
  · have := h.len; rw [List.length_append, List.length_singleton]; omega
theorem prs_step {w W0 W w2 : World} {p r0 k a : Nat} {bs sv sv' : Value} {lf : Int} {xs : List Value} {acc : List V} {o : Obj} {v : V} {x : Value} (hr0 : w.heap.size < r0) (hp : p < w.heap.size) (h : TuS w p r0 bs (k + 1) a lf 0 sv xs W0)
    (hG : W0.grownBy W (some p)) (hgw : Gw (W.alloc o) w2 sv sv') (hx : RV (fun b => W0.heap.size ≤ b) W v x) (hpr : Prs r0 W0 sv acc xs) :
    Prs r0 (w2.setCell ⟨r0, 3, none⟩ sv') sv' (acc ++ [v]) (xs ++ [x]) := by
  have hlt := h.own.lt
  have htl := h.t.lt
  have hal : Below W.heap.size W (W.alloc o) := (Below.refl _ _).alloc (Nat.le_refl _) _
  have key : ∀ (u : V) (y : Value), RV (fun b => r0 < b ∧ some b ≠ sv.ownBlock) W u y → RV (fun b => r0 < b ∧ some b ≠ sv'.ownBlock) (w2.setCell ⟨r0, 3, none⟩ sv') u y := fun u y hu => by
    have h1 : RV (fun b => (r0 < b ∧ some b ≠ sv.ownBlock) ∧ some b ≠ sv'.ownBlock) W u y := hu.mono fun b hb ho => ⟨ho, fun e => by
      rcases hgw.own with q | ⟨j, q, hj⟩
      · exact ho.2 (e.trans q)
      · rw [q] at e; cases e; have := hal.size; omega⟩
    have h2 : RV (fun b => (r0 < b ∧ some b ≠ sv.ownBlock) ∧ some b ≠ sv'.ownBlock) (w2.setCell ⟨r0, 3, none⟩ sv') u y := h1.kept (by simp; exact Nat.le_trans hal.size hgw.grown.size) fun b ho hb => by
      rw [Below.heap_setCell _ _ _ _ (fun e => by
        have e' : r0 = b ∨ b = r0 := by first | exact Or.inl (by simpa using e) | exact Or.inr (by simpa using e)
        omega), hgw.grown.block b (Nat.lt_of_lt_of_le hb hal.size) ho.1.2, hal.block b hb]
    exact h2.mono fun b _ ho => ⟨ho.1.1, ho.2⟩
  have hl := hpr.1
  refine ⟨by simp [hl], fun i h1 h2 => ?_⟩
  by_cases hi : i < acc.length
  · rw [List.getElem_append_left hi, List.getElem_append_left (by omega)]
    refine key _ _ ((hpr.2 i hi (by omega)).kept hG.size fun b ho hb => hG.block b hb (fun e => by cases e; omega))
  · have : i = acc.length := by simp at h1; omega
    subst this
    have e1 : (acc ++ [v])[acc.length] = v := by simp
    have e2 : (xs ++ [x])[acc.length]'h2 = x := by simp [hl]
    rw [e1, e2]
    refine key _ _ (hx.mono fun b _ ho => ⟨by omega, fun e => ?_⟩)
    have := (hlt b e.symm).2
    omega
/-- what the tuple's loop leaves in the end -/
theorem tu_end {w W : World} {p r0 a er : Nat} {bs sv : Value} {lf : Int} {xs : List Value} {n k : Nat} {f : Nat → Nat → Va.Rs} {RES : Except Nat (List V × Nat × Nat)} (hr0 : w.heap.size < r0) (hk : er = 0 → k = 0) (hs : TuS w p r0 bs k a lf er sv xs W) (hr : TuR RES n f r0 k a lf er sv xs W) :
    (er ≠ 0 ∧ RES = .error er) ∨ (er = 0 ∧ ∃ (acc : List V) (lfn : Nat) (g : Option Addr) (cap : Nat), RES = .ok (acc, a, lfn) ∧ lf = (lfn : Nat) ∧ sv = .slice g acc.length cap ∧ RL (fun b => r0 < b) W acc g cap) := by
  rcases hr with ⟨he, lfn, acc, hlf, hl2, ha, hg, hp⟩ | h
  · right
    have := hk he
    subst this
    obtain ⟨g, cap, e, hrl⟩ := prs_rl (Nat.le_refl _) hs.four hs.own hp
    exact ⟨he, acc, lfn, g, cap, by rw [← hg]; rfl, hlf, e, hrl⟩
  · exact Or.inl h
theorem RL.kept {ok : Nat → Prop} {w w' : World} {l : List V} {g : Option Addr} {cap : Nat} (h : RL ok w l g cap) (hs : w.heap.size ≤ w'.heap.size) (hk : ∀ b, ok b → b < w.heap.size → w'.heap[b]? = w.heap[b]?) : RL ok w' l g cap :=
  ⟨h.le, h.max, h.nil, fun i hi => by
    obtain ⟨b, o, x, e, ho, h4, hx⟩ := h.at_ i hi
    exact ⟨b, o, x, e, ho, h4.kept hs (hk b ho h4.lt), hx.kept hs hk⟩⟩
theorem RL.mono {ok ok' : Nat → Prop} {w : World} {l : List V} {g : Option Addr} {cap : Nat} (h : RL ok w l g cap) (hk : ∀ b, b < w.heap.size → ok b → ok' b) : RL ok' w l g cap :=
  ⟨h.le, h.max, h.nil, fun i hi => by
    obtain ⟨b, o, x, e, ho, h4, hx⟩ := h.at_ i hi
    exact ⟨b, o, x, e, hk b h4.lt ho, h4, hx.mono hk⟩⟩
theorem rl_ret {W : World} {p q r0 : Nat} {acc : List V} {g : Option Addr} {cap : Nat} (h : RL (fun b => r0 < b) W acc g cap) (hp : p < q) (hq : q < r0) (u a b c d : Value) :
    RL (fun b => q ≤ b) (((((W.setCell ⟨p, 1, none⟩ u).setCell ⟨q, 0, none⟩ a).setCell ⟨q, 1, none⟩ b).setCell ⟨q, 2, none⟩ c).setCell ⟨q, 3, none⟩ d) acc g cap := by
  refine (h.kept (by simp) fun k hk hlt => ?_).mono fun b _ hb => by omega
  have e1 : ∀ (j : Nat) (i : Nat), j < r0 → ¬ ((⟨j, i, none⟩ : Addr).block = k) := fun j i hj e => by have e' : j = k := e; omega
  have e2 : ∀ (j : Nat) (i : Nat), j < r0 → ¬ (k = (⟨j, i, none⟩ : Addr).block) := fun j i hj e => by have e' : k = j := e; omega
  rw [Below.heap_setCell _ _ _ _ (by first | exact e1 q _ hq | exact e2 q _ hq), Below.heap_setCell _ _ _ _ (by first | exact e1 q _ hq | exact e2 q _ hq), Below.heap_setCell _ _ _ _ (by first | exact e1 q _ hq | exact e2 q _ hq), Below.heap_setCell _ _ _ _ (by first | exact e1 q _ hq | exact e2 q _ hq), Below.heap_setCell _ _ _ _ (by first | exact e1 p _ (by omega) | exact e2 p _ (by omega))]
theorem tur_step {RES : Except Nat (List V × Nat × Nat)} {n lv r0 k a lfn a5 er5 : Nat} {l : List UInt8} {F : Nat → Nat → Va.Rs} {lf5 : Int} {sv' x : Value} {xs : List Value} {acc : List V} {W0 W W3 : World}
    (hk : 0 < k) (hgv : Va.gvN F k a lfn acc = RES) (hl2 : lfn ≤ 256) (ht : Va.Told l lv a lfn (F a lfn)) (hn : l.length = n)
    (hres : (er5 = 0 ∧ ∃ (v : V) (lfn5 : Nat), F a lfn = .ok (v, a5, lfn5) ∧ lf5 = (lfn5 : Nat) ∧ RV (fun b => W0.heap.size ≤ b) W v x) ∨ (er5 ≠ 0 ∧ F a lfn = .error er5))
    (hp : ∀ v, RV (fun b => W0.heap.size ≤ b) W v x → Prs r0 W3 sv' (acc ++ [v]) (xs ++ [x])) : TuR RES n F r0 (k - 1) a5 lf5 er5 sv' (xs ++ [x]) W3 := by
  obtain ⟨j, rfl⟩ : ∃ j, k = j + 1 := ⟨k - 1, by omega⟩
  rw [Nat.add_sub_cancel]
  unfold Va.gvN at hgv
  rcases hres with ⟨he, v, lfn5, hf, hl, hx⟩ | ⟨he, hf⟩
  · rw [hf] at hgv ht
    obtain ⟨_, t2, t3, t4, _⟩ := ht v a5 lfn5 rfl
    exact Or.inl ⟨he, lfn5, acc ++ [v], hl, by omega, by omega, hgv, hp v hx⟩
  · rw [hf] at hgv
    exact Or.inr ⟨he, hgv.symm⟩
end Go.Proofs.Ytgamhgeiceakeaa
/- package value: the getter's value, by contract: tuples, their parts' contract given. -/
set_option linter.unusedVariables false
set_option linter.unusedSimpArgs false
namespace Go.Proofs.Ytgamhgeiceakeaa
open Go.RowKit
open Va (V)
/-- a tuple of the parts -/
def tupled : Except Nat (List V × Nat × Nat) → Va.Rs
  | .error e => .error e
  | .ok (l, a2, l2) => .ok (.mk 4 0 Va.em l, a2, l2)
set_option maxHeartbeats 3200000 in
set_option maxRecDepth 100000 in
theorem value_tuple (p : Nat) (ba : Option Addr) (n cap : Nat) (l : List UInt8) (at' left lv : Nat) (w : World) (hg : Gv w p (.slice ba n cap) at' left 0) (hn : l.length = n) (hr : Rd w ba l) (hp : l ≠ [] → ∀ b o, ba = some (⟨b, o, none⟩ : Addr) → b ≠ p) (ha : at' < n) (hmx : n ≤ 1099511627776) (hl0 : 1 ≤ left) (hlv0 : 1 ≤ lv) (hl : left ≤ 256) (hlv : lv ≤ 16)
    (CI : ∀ (a lf : Nat) (W : World), Gv W p (.slice ba n cap) a lf 0 → w.grownBy W (some p) → a ≤ n → lf ≤ 256 → Calls Try.prog 72 #[.pointer (some ⟨p, 0, none⟩), .int .i64 ((lv : Int) - 1)] W (VaPost p (.slice ba n cap) (Va.gv l (lv - 1) a lf) W))
    (m c er : Nat) (hgu : By.gu (l.drop (at' + 1)) = (m, c, er)) (RES : Except Nat (List V × Nat × Nat)) (hRES : RES = Va.gvN (Va.gv l (lv - 1)) m (at' + 1 + c) (left - 1) []) (R : Va.Rs)
    (hx : (l[at']'(hn ▸ ha)).toNat = 4 ∧ R = if er ≠ 0 then .error er else if 256 < m then .error 13 else tupled RES) :
    Calls Try.prog 72 #[.pointer (some ⟨p, 0, none⟩), .int .i64 lv] w (VaPost p (.slice ba n cap) R w) := by
  obtain ⟨nx, hnx⟩ : ∃ nx : Nat, nx = if er = 0 then at' + 1 + c else 0 := ⟨_, rfl⟩
  obtain ⟨F, hF⟩ : ∃ F : Nat → Nat → Va.Rs, F = Va.gv l (lv - 1) := ⟨_, rfl⟩
  have hRES2 : RES = Va.gvN F m (at' + 1 + c) (left - 1) [] := by rw [hF]; exact hRES
  rw [← hF] at CI
  clear hRES
  obtain ⟨mm, hmm⟩ : ∃ mm : Nat, mm = if er = 0 then m else 0 := ⟨_, rfl⟩
  have CU : Hid (∀ W, Rd W ba l → Calls Try.prog 71 #[.slice ba n cap, .int .i64 ((at' : Int) + 1)] W fun e W' => e = .returned (.tuple #[.int .u64 mm, .int .i64 nx, .int .i64 er]) ∧ W = W') := Lib.hid fun W h => (getUint_any ba n cap l (at' + 1) W hn h (by omega) hmx).mono fun e W' hp => by
    unfold GuPost at hp
    rw [hgu] at hp
    obtain ⟨he, hw⟩ := hp
    exact ⟨by rw [he, hmm, hnx], hw⟩
  have HIN : Hid (er = 0 → at' + 1 + c ≤ n) := Lib.hid (fun h => by
    subst h
    have := (Va.gu_inv _ _ _ hgu).2.1
    rw [List.length_drop] at this; omega)
  have CI' : Hid (∀ (a lf : Nat) (W : World), Gv W p (.slice ba n cap) a lf 0 → w.grownBy W (some p) → a ≤ n → lf ≤ 256 → Calls Try.prog 72 #[.pointer (some ⟨p, 0, none⟩), .int .i64 ((lv : Int) - 1)] W (PartPost p (.slice ba n cap) (F a lf) W)) := Lib.hid fun a lf W h1 h2 h3 h4 => (CI a lf W h1 h2 h3 h4).mono fun _ _ h => part_of h
  have HTOLD : Hid (∀ (a lf : Nat), a ≤ n → Va.Told l (lv - 1) a lf (F a lf)) := Lib.hid fun a lf h => by rw [hF]; exact Va.gv_told l (lv - 1) a lf (by omega)
  have HNX := Lib.hid hnx
  have HMM := Lib.hid hmm
  have HRES := Lib.hid hRES2
  clear hgu hnx hmm hRES2 CI hF
  replace hx := Lib.hid hx
  have hsz : (w.setCell ⟨p, 2, none⟩ (.int .i64 ((left : Int) - 1))).heap.size = w.heap.size := by simp
  have B1 : Gv ((w.setCell ⟨p, 2, none⟩ (.int .i64 ((left : Int) - 1))).alloc (.cells #[.int .u8 0, .int .i64 0, .string ⟨#[]⟩, .slice none 0 0] 25)) p (.slice ba n cap) at' ((left : Int) - 1) 0 := (hg.set 2 _).below ((Below.refl _ _).alloc (Nat.le_refl _) _)
  have Q1 := Blk.new (w.setCell ⟨p, 2, none⟩ (.int .i64 ((left : Int) - 1))) #[.int .u8 0, .int .i64 0, .string ⟨#[]⟩, .slice none 0 0] 25
  rw [hsz] at Q1
  have G1 : w.grownBy ((w.setCell ⟨p, 2, none⟩ (.int .i64 ((left : Int) - 1))).alloc (.cells #[.int .u8 0, .int .i64 0, .string ⟨#[]⟩, .slice none 0 0] 25)) (some p) := grown_below (grown_set (grown_refl _ _) _ _) ((Below.refl _ _).alloc (Nat.le_refl _) _)
  have hpw : p < w.heap.size := hg.lt
  clear hsz
  have c2 := hg.cell 2
  have hf := fun o => hg.free o
  have hlt := hg.lt
  clear hg
  go_enter Try.func72, Try.ntmps72
  go_upto_region 2 with (fail)
  clear c2 hf hlt
  generalize (w.setCell ⟨p, 2, none⟩ (.int .i64 ((left : Int) - 1))).alloc (.cells #[.int .u8 0, .int .i64 0, .string ⟨#[]⟩, .slice none 0 0] 25) = W1 at B1 Q1 G1 ⊢
  have hne : some w.heap.size ≠ some p := fun e => by have := Option.some.inj e; omega
  have CO := Lib.hid (one_yes p ba n cap l at' ((left : Int) - 1) W1 B1 hn (rd_grown hr G1 hp) hp ha hmx)
  have b2 := B1.cell 2
  have hlt1 := B1.lt
  have HQ1 := Lib.hid Q1
  have HG1 := Lib.hid G1
  have hz : ((lv : Int) == 0) = false := bneI (by omega)
  have hpos : (1 : Int) ≤ (left : Int) := by omega
  have HR := Lib.hid (fun W (g : w.grownBy W (some p)) => rd_grown hr g hp)
  generalize l[at']'(hn ▸ ha) = x at CO hx
  have hx8 : x.toNat < 256 := x.toNat_lt
  generalize hxk : x.toNat = k at CO hx hx8
  clear B1 Q1 G1 hr
  go_wp2_with fail
  refine (CO.out).mono ?_
  rintro e w3 ⟨rfl, hg3, hr3⟩
  have HGV := Lib.hid hg3
  have Q3 := HQ1.out.kept hr3 hne
  have HG3 := Lib.hid (grown_trans HG1.out hr3)
  have hs3 : w.heap.size ≤ w3.heap.size := HG3.out.size
  have HQ3 := Lib.hid Q3
  have c3 := hg3.cell 3
  have c1 := hg3.cell 1
  have hlt3 := hg3.lt
  clear hg3 hr3 CO Q3 b2 hlt1
  go_wp2_with fail
  have T4 := Blk.new w3 #[.int .u8 k, .int .i64 0, .string ⟨#[]⟩, .slice none 0 0] 25
  have hal : Below w3.heap.size w3 (w3.alloc (.cells #[.int .u8 k, .int .i64 0, .string ⟨#[]⟩, .slice none 0 0] 25)) := (Below.refl _ _).alloc (Nat.le_refl _) _
  have GV4 : Gv _ p (.slice ba n cap) (at' + 1) ((left : Int) - 1) 0 := HGV.out.below hal
  have Q4 := HQ3.out.below hal
  have G4 := grown_below HG3.out hal
  have hr0 : w.heap.size < w3.heap.size := HQ3.out.lt
  clear HGV HQ3 HG3 c3 c1 hlt3 hal hs3
  generalize w3.alloc (.cells #[.int .u8 k, .int .i64 0, .string ⟨#[]⟩, .slice none 0 0] 25) = W4 at T4 GV4 Q4 G4 ⊢
  generalize w3.heap.size = r0 at T4 hr0 ⊢
  have d1 := GV4.cell 1
  have hlt4 := GV4.lt
  have HF := Lib.hid (fun k => (⟨T4.below (belowN (Below.refl W4.heap.size W4) k), GV4.below (belowN (Below.refl W4.heap.size W4) k), Q4.below (belowN (Below.refl W4.heap.size W4) k), grown_trans G4 (drewN_grown W4 k _)⟩ : _ ∧ _ ∧ _ ∧ _))
  clear T4 GV4 Q4 G4
  go_quiet (fail)
  obtain ⟨T5, GV5, Q5, G5⟩ := HF.out nq
  clear HF d1 hlt4
  generalize W4.drewN nq = W5 at T5 GV5 Q5 G5 ⊢
  have t0 := T5.cell 0
  have t1 := T5.cell 1
  have t2 := T5.cell 2
  have t3 := T5.cell 3
  have tlt := T5.lt
  have HT5 := Lib.hid T5
  have HV5 := Lib.hid GV5
  have HQ5 := Lib.hid Q5
  have HG5 := Lib.hid G5
  have hnr : some r0 ≠ some p := fun e => by have := Option.some.inj e; omega
  clear T5 GV5 Q5 G5
  obtain ⟨hK, hR⟩ := hx.out
  clear hx
  have HRR := Lib.hid hR
  clear hR
  have HR5 := Lib.hid (HR.out W5 HG5.out)
  have y0 := HV5.out.cell 0
  have y1 := HV5.out.cell 1
  have hlt5 := HV5.out.lt
  subst hK
  go_wp2_with fail
  refine wp_region_T_drew (fun w' => w'.cell? ⟨p, 0, none⟩ = some (.slice ba n cap) ∧ w'.cell? ⟨p, 1, none⟩ = some (.int .i64 ((at' : Int) + 1))) 16 (by kernel_rfl) ⟨y0, y1⟩ (fun hS => ?_)
  refine wpAnyT_take 0 rfl (by kernel_rfl) (by kernel_rfl) (by decide) (by kernel_rfl) (by kernel_rfl) (fun _ _ _ h => h) hS (by kernel_rfl) (v := ?_) ?_ ?_
  rotate_left
  · intro w' hSw; (try dsimp only at hSw); go_simp; (try with_reducible rfl)
  simp only [Act.put, List.setIfInBounds_toArray, List.set_cons_zero, List.set_cons_succ]
  refine wpAnyT_take 1 rfl (by kernel_rfl) (by kernel_rfl) (by decide) (by kernel_rfl) (by kernel_rfl) (fun _ _ _ h => h) hS (by kernel_rfl) (v := ?_) ?_ ?_
  rotate_left
  · intro w' hSw; (try dsimp only at hSw); go_simp; (try with_reducible rfl)
  simp only [Act.put, List.setIfInBounds_toArray, List.set_cons_zero, List.set_cons_succ]
  refine wpAnyT_take 2 rfl (by kernel_rfl) (by kernel_rfl) (by decide) (by kernel_rfl) (by kernel_rfl) (fun _ _ _ h => h) hS (by kernel_rfl) (v := ?_) ?_ ?_
  rotate_left
  · intro w' hSw; (try dsimp only at hSw); go_simp; (try with_reducible rfl)
  simp only [Act.put, List.setIfInBounds_toArray, List.set_cons_zero, List.set_cons_succ]
  refine wpAnyT_take 3 rfl (by kernel_rfl) (by kernel_rfl) (by decide) (by kernel_rfl) (by kernel_rfl) (fun _ _ _ h => h) hS (by kernel_rfl) (v := ?_) ?_ ?_
  rotate_left
  · intro w' hSw; (try dsimp only at hSw); go_simp; (try with_reducible rfl)
  simp only [Act.put, List.setIfInBounds_toArray, List.set_cons_zero, List.set_cons_succ]
  refine wpAnyT_take 4 rfl (by kernel_rfl) (by kernel_rfl) (by decide) (by kernel_rfl) (by kernel_rfl) (fun _ _ _ h => h) hS (by kernel_rfl) (v := ?_) ?_ ?_
  rotate_left
  · intro w' hSw; (try dsimp only at hSw); go_simp; (try with_reducible rfl)
  simp only [Act.put, List.setIfInBounds_toArray, List.set_cons_zero, List.set_cons_succ]
  refine wpAnyT_take 5 rfl (by kernel_rfl) (by kernel_rfl) (by decide) (by kernel_rfl) (by kernel_rfl) (fun _ _ _ h => h) hS (by kernel_rfl) (v := ?_) ?_ ?_
  rotate_left
  · intro w' hSw; (try dsimp only at hSw); go_simp; (try with_reducible rfl)
  simp only [Act.put, List.setIfInBounds_toArray, List.set_cons_zero, List.set_cons_succ]
  refine wpAnyT_take 6 rfl (by kernel_rfl) (by kernel_rfl) (by decide) (by kernel_rfl) (by kernel_rfl) (fun _ _ _ h => h) hS (by kernel_rfl) (v := ?_) ?_ ?_
  rotate_left
  · intro w' hSw; (try dsimp only at hSw); go_simp; (try with_reducible rfl)
  simp only [Act.put, List.setIfInBounds_toArray, List.set_cons_zero, List.set_cons_succ]
  refine wpAnyT_take 7 rfl (by kernel_rfl) (by kernel_rfl) (by decide) (by kernel_rfl) (by kernel_rfl) (fun _ _ _ h => h) hS (by kernel_rfl) (v := ?_) ?_ ?_
  rotate_left
  · intro w' hSw; (try dsimp only at hSw); go_simp; (try with_reducible rfl)
  simp only [Act.put, List.setIfInBounds_toArray, List.set_cons_zero, List.set_cons_succ]
  refine wpAnyT_one 8 (by kernel_rfl) rfl (by kernel_rfl) (fun K hK => ?_)
  go_simp
  refine (CU.out _ (HR5.out.below ((Below.refl _ _).drew))).mono ?_
  rintro e w6 ⟨rfl, rfl⟩
  refine hK _ _ (fun _ => hS) ?_
  clear hK K
  refine wpAnyT_take 9 rfl (by kernel_rfl) (by kernel_rfl) (by decide) (by kernel_rfl) (by kernel_rfl) (fun _ _ _ h => h) hS (by kernel_rfl) (v := ?_) ?_ ?_
  rotate_left
  · intro w' hSw; (try dsimp only at hSw); go_simp; (try with_reducible rfl)
  simp only [Act.put, List.setIfInBounds_toArray, List.set_cons_zero, List.set_cons_succ]
  refine wpAnyT_take 10 rfl (by kernel_rfl) (by kernel_rfl) (by decide) (by kernel_rfl) (by kernel_rfl) (fun _ _ _ h => h) hS (by kernel_rfl) (v := ?_) ?_ ?_
  rotate_left
  · intro w' hSw; (try dsimp only at hSw); go_simp; (try with_reducible rfl)
  simp only [Act.put, List.setIfInBounds_toArray, List.set_cons_zero, List.set_cons_succ]
  refine wpAnyT_take 11 rfl (by kernel_rfl) (by kernel_rfl) (by decide) (by kernel_rfl) (by kernel_rfl) (fun _ _ _ h => h) hS (by kernel_rfl) (v := ?_) ?_ ?_
  rotate_left
  · intro w' hSw; (try dsimp only at hSw); go_simp; (try with_reducible rfl)
  simp only [Act.put, List.setIfInBounds_toArray, List.set_cons_zero, List.set_cons_succ]
  refine wpAnyT_take 12 rfl (by kernel_rfl) (by kernel_rfl) (by decide) (by kernel_rfl) (by kernel_rfl) (fun _ _ _ h => h) hS (by kernel_rfl) (v := ?_) ?_ ?_
  rotate_left
  · intro w' hSw; (try dsimp only at hSw); go_simp; (try with_reducible rfl)
  simp only [Act.put, List.setIfInBounds_toArray, List.set_cons_zero, List.set_cons_succ]
  refine wpAnyT_one 13 (by kernel_rfl) rfl (by kernel_rfl) (fun K hK => ?_)
  go_simp
  refine hK _ _ (fun _ => hS) ?_
  clear hK K
  refine wpAnyT_one 14 (by kernel_rfl) rfl (by kernel_rfl) (fun K hK => ?_)
  go_simp
  refine hK _ _ (fun _ => hS) ?_
  clear hK K
  refine wpAnyT_one 15 (by kernel_rfl) rfl (by kernel_rfl) (fun K hK => ?_)
  go_simp
  refine hK _ _ (fun _ => hS) ?_
  clear hK K
  refine wpAnyT_done (by kernel_rfl) ?_
  have hdr : Below W5.heap.size W5 W5.drew := (Below.refl W5.heap.size W5).drew
  have HT6 := Lib.hid (HT5.out.below hdr)
  have HV6 := Lib.hid (HV5.out.below hdr)
  have HQ6 := Lib.hid (HQ5.out.below hdr)
  have HG6 := Lib.hid (grown_below HG5.out hdr)
  clear hS y0 y1 hlt5 t0 t1 t2 t3 tlt HR5 CU hdr HT5 HV5 HQ5 HG5
  generalize W5.drew = W6 at HT6 HV6 HQ6 HG6 ⊢
  have t0 := HT6.out.cell 0
  have t1 := HT6.out.cell 1
  have t2 := HT6.out.cell 2
  have t3 := HT6.out.cell 3
  have tlt := HT6.out.lt
  have y1 := HV6.out.cell 1
  have yf := fun o => HV6.out.free o
  have ylt := HV6.out.lt
  have q0 := HQ6.out.cell 0
  have q1 := HQ6.out.cell 1
  have q2 := HQ6.out.cell 2
  have q3 := HQ6.out.cell 3
  have qf := fun o => HQ6.out.free o
  have qlt := HQ6.out.lt
  by_cases he : er = 0
  · subst he
    obtain rfl : mm = m := by rw [HMM.out, if_pos rfl]
    by_cases hm : 256 < mm
    · skip
      have CF := Lib.hid (vfail_any p (.slice ba n cap) (at' + 1) ((left : Int) - 1) 0 13 13 rfl W6 HV6.out)
      rw [if_pos rfl] at CF
      go_wp2_with fail
      refine (CF.out).mono ?_
      rintro e w8 ⟨rfl, hg6, hr6⟩
      have T8 := HT6.out.kept hr6 hnr
      have Q8 := HQ6.out.kept hr6 hne
      clear t0 t1 t2 t3 tlt y1 yf ylt q0 q1 q2 q3 qf qlt
      have v0 := T8.cell 0
      have v1 := T8.cell 1
      have v2 := T8.cell 2
      have v3 := T8.cell 3
      have vlt := T8.lt
      have q0 := Q8.cell 0
      have q1 := Q8.cell 1
      have q2 := Q8.cell 2
      have q3 := Q8.cell 3
      have qf := fun o => Q8.free o
      have qlt := Q8.lt
      have c1 := hg6.cell 1
      have cf := fun o => hg6.free o
      have hlt6 := hg6.lt
      have HG8 := Lib.hid (grown_set (grown_trans HG6.out hr6) 1 (.int .i64 (nx : Int)))
      have HV8 : Hid (Gv (w8.setCell ⟨p, 1, none⟩ (.int .i64 (nx : Int))) p (.slice ba n cap) nx ((left : Int) - 1) 13) := Lib.hid (hg6.set 1 (.int .i64 (nx : Int)))
      have HQ8 := Lib.hid (Q8.kept (grown_set (grown_refl w8 (some p)) 1 (.int .i64 (nx : Int))) hne)
      clear hg6 hr6 T8 Q8
      go_wp2
      have QF := (((HQ8.out.set 0 (.int .u8 4)).set 1 (.int .i64 0)).set 2 (.string ⟨#[]⟩)).set 3 (.slice none 0 0)
      have GF := ret_gv0 HV8.out HG8.out hpw (Nat.le_refl w.heap.size) (.int .u8 4) (.int .i64 0) (.string ⟨#[]⟩) (.slice none 0 0)
      (try simp only [Exit.inBlock, Exit.then])
      refine bodyPost_ret (results_cell_row rfl _ _ w.heap.size 25 _ (0, 0) _ rfl QF Try.underlying25 rfl (by kernel_rfl)) rfl ?_
      have hRe : R = .error 13 := by rw [HRR.out]; simp [hm]
      rw [hRe]
      exact ⟨4, 0, ⟨#[]⟩, none, 0, 0, nx, _, rfl, (by decide), GF.1, GF.2⟩
    · have hm' : ¬ (256 : Int) < (mm : Int) := by omega
      have hc1 : nx = at' + 1 + c := by rw [HNX.out, if_pos rfl]
      have HC1 := Lib.hid hc1
      clear hc1
      go_wp2_with fail
      have V7 : Gv (W6.setCell ⟨p, 1, none⟩ (.int .i64 (nx : Int))) p (.slice ba n cap) nx ((left : Int) - 1) 0 := HV6.out.set 1 _
      have T7 := HT6.out.kept (grown_set (grown_refl W6 (some p)) 1 (.int .i64 (nx : Int))) hnr
      have Q7 := HQ6.out.kept (grown_set (grown_refl W6 (some p)) 1 (.int .i64 (nx : Int))) hne
      have G7 := grown_set HG6.out 1 (.int .i64 (nx : Int))
      have S7 : TuS w p r0 (.slice ba n cap) mm nx ((left : Int) - 1) 0 (.slice none 0 0) [] _ := ⟨V7, T7, Q7, G7, World.ownsRow_nil _ _ _ _, (fun x hx => by cases hx), (by simp; omega)⟩
      have R7 : TuR RES n F r0 mm nx ((left : Int) - 1) 0 (.slice none 0 0) [] (W6.setCell ⟨p, 1, none⟩ (.int .i64 (nx : Int))) := Or.inl ⟨rfl, left - 1, [], by omega, by omega, (by have := HIN.out (by trivial); have := HC1.out; omega), (by rw [HRES.out, ← HC1.out]), ⟨rfl, fun i h => by simp at h⟩⟩
      clear t0 t1 t2 t3 tlt y1 yf ylt q0 q1 q2 q3 qf qlt V7 T7 Q7 G7 HV6 HT6 HQ6 HG6
      generalize W6.setCell ⟨p, 1, none⟩ (.int .i64 (nx : Int)) = W7 at S7 R7 ⊢
      have HS7 := Lib.hid S7
      have HR7 := Lib.hid R7
      clear S7 R7
      go_loopw [9] (fun nv wr => ∃ (k a : Nat) (lf : Int) (er : Nat) (sv : Value) (xs : List Value), nv = .int .u64 k ∧ TuS w p r0 (.slice ba n cap) k a lf er sv xs wr ∧ TuR RES n F r0 k a lf er sv xs wr) (fun nv _ => (intOf nv).toNat)
      case atStart => exact ⟨mm, nx, _, 0, _, [], rfl, HS7.out, HR7.out⟩
      case round =>
        obtain ⟨k, a, lf, er, sv, xs, rfl, hs, hrr⟩ := hrel
        obtain ⟨g, cg, rfl⟩ : ∃ g cg, sv = Value.slice g xs.length cg := by
          rcases hs.own.2 with ⟨e, h0⟩ | ⟨g, cap, cur, q1, _⟩
          · exact ⟨none, 0, by rw [e, h0]⟩
          · exact ⟨_, cap, q1⟩
        have c3 := hs.g.cell 3
        have clt := hs.g.lt
        have t0 := hs.t.cell 0
        have t1 := hs.t.cell 1
        have t2 := hs.t.cell 2
        have t3 := hs.t.cell 3
        have tf := fun o => hs.t.free o
        have tlt := hs.t.lt
        by_cases hgo : 0 < k ∧ er = 0
        · obtain ⟨hk, rfl⟩ := hgo
          obtain ⟨lfn, acc, rfl, hl2, ha2, hgv, hpr⟩ : ∃ (lfn : Nat) (acc : List V), lf = (lfn : Nat) ∧ lfn ≤ 256 ∧ a ≤ n ∧ Va.gvN F k a lfn acc = RES ∧ Prs r0 wr (.slice g xs.length cg) acc xs := by
            rcases hrr with ⟨_, h⟩ | ⟨h, _⟩
            · exact h
            · exact absurd rfl h
          have hdr : Below wr.heap.size wr wr.drew := (Below.refl wr.heap.size wr).drew
          have CIr := Lib.hid (CI'.out a lfn wr.drew (hs.g.below hdr) (grown_below hs.gr hdr) ha2 hl2)
          have hk1 : k - 1 + 1 = k := by omega
          have HS := Lib.hid (show TuS w p r0 (.slice ba n cap) (k - 1 + 1) a lfn 0 (.slice g xs.length cg) xs wr.drew by rw [hk1]; exact hs.past hdr)
          have HP := Lib.hid (hpr.past hdr)
          have HGV := Lib.hid hgv
          have HTO := Lib.hid (HTOLD.out a lfn ha2)
          have hpos : (0 : Int) < (k : Int) := by omega
          have hxl : xs.length < 256 := by have := hs.len; omega
          have hku : (k : Int) ≤ 256 := by have := hs.len; omega
          clear hs hrr hgv hpr hk1 hdr
          go_wp2_with fail
          have hwr : IntKind.i64.wrap ((lv : Int) - 1) = (lv : Int) - 1 := IntWalk.i64_in _ (by omega)
          refine wp_region_T_drew (fun w' => w'.cell? ⟨r0, 3, none⟩ = some (.slice g xs.length cg)) 9 (by kernel_rfl) t3 (fun hS => ?_)
          refine wpAnyT_take 0 rfl (by kernel_rfl) (by kernel_rfl) (by decide) (by kernel_rfl) (by kernel_rfl) (fun _ _ _ h => h) hS (by kernel_rfl) (v := ?_) ?_ ?_
          rotate_left
          · intro w' hSw; (try dsimp only at hSw); go_simp; (try with_reducible rfl)
          simp only [Act.put, List.setIfInBounds_toArray, List.set_cons_zero, List.set_cons_succ]
          refine wpAnyT_take 1 rfl (by kernel_rfl) (by kernel_rfl) (by decide) (by kernel_rfl) (by kernel_rfl) (fun _ _ _ h => h) hS (by kernel_rfl) (v := ?_) ?_ ?_
          rotate_left
          · intro w' hSw; (try dsimp only at hSw); go_simp; (try with_reducible rfl)
          simp only [Act.put, List.setIfInBounds_toArray, List.set_cons_zero, List.set_cons_succ]
          refine wpAnyT_take 2 rfl (by kernel_rfl) (by kernel_rfl) (by decide) (by kernel_rfl) (by kernel_rfl) (fun _ _ _ h => h) hS (by kernel_rfl) (v := ?_) ?_ ?_
          rotate_left
          · intro w' hSw; (try dsimp only at hSw); go_simp; (try with_reducible rfl)
          simp only [Act.put, List.setIfInBounds_toArray, List.set_cons_zero, List.set_cons_succ]
          refine wpAnyT_take 3 rfl (by kernel_rfl) (by kernel_rfl) (by decide) (by kernel_rfl) (by kernel_rfl) (fun _ _ _ h => h) hS (by kernel_rfl) (v := ?_) ?_ ?_
          rotate_left
          · intro w' hSw; (try dsimp only at hSw); go_simp; (try with_reducible rfl)
          simp only [Act.put, List.setIfInBounds_toArray, List.set_cons_zero, List.set_cons_succ]
          refine wpAnyT_take 4 rfl (by kernel_rfl) (by kernel_rfl) (by decide) (by kernel_rfl) (by kernel_rfl) (fun _ _ _ h => h) hS (by kernel_rfl) (v := ?_) ?_ ?_
          rotate_left
          · intro w' hSw; (try dsimp only at hSw); go_simp; (try with_reducible rfl)
          simp only [Act.put, List.setIfInBounds_toArray, List.set_cons_zero, List.set_cons_succ]
          refine wpAnyT_one 5 (by kernel_rfl) rfl (by kernel_rfl) (fun K hK => ?_)
          go_simp
          (try rw [hwr])
          clear hwr
          with_reducible refine (CIr.out).mono ?_
          rintro e w5 ⟨kk, nn, s5, b5, m5, c5, a5, lf5, er5, rfl, hg5, hr5, hres⟩
          have T5 := HS.out.t.kept hr5 hnr
          have hS := T5.cell 3
          have O5 : w5.ownsRow (r0 + 1) 25 4 (.slice g xs.length cg) xs.length (vcs xs) := World.ownsRow.kept HS.out.own hr5 (by
            cases hv : Value.ownBlock (.slice g xs.length cg) with
            | none => exact Or.inl rfl
            | some j => exact Or.inr (fun e => by cases e; have := (HS.out.own.lt _ hv).1; omega))
          have HG5' := Lib.hid hg5
          have HR5' := Lib.hid hr5
          have HRES5 := Lib.hid hres
          have hsz5 : r0 + 1 ≤ w5.heap.size := T5.lt
          have HT5' := Lib.hid T5
          clear hg5 hr5 hres T5
          refine hK _ _ (fun _ => hS) ?_
          clear hK K
          refine wpAnyT_one 6 (by kernel_rfl) rfl (by kernel_rfl) (fun K hK => ?_)
          go_simp
          have hS := (HT5'.out.below ((Below.refl _ _).alloc (Nat.le_refl _) (.cells #[.int .u8 kk, .int .i64 nn, .string s5, .slice b5 m5 c5] 25))).cell 3
          refine hK _ _ (fun _ => hS) ?_
          clear hK K
          refine wpAnyT_one 7 (by kernel_rfl) rfl (by kernel_rfl) (fun K hK => ?_)
          obtain ⟨i0, hi0, hz0, hz1, hz2⟩ := info_parts Try.info_value
          refine op_append_gw _ (.tmp 142) (.tmp 147) 23 rfl (r0 + 1) 25 i0 _ 4 56 Try.underlying23 hi0 hz0 hz1 hz2 rfl (by decide) (.slice g xs.length cg) xs.length (vcs xs) rfl (O5.alloc _) ⟨w5.heap.size, 0, none⟩ 1 1 [.int .u8 kk, .int .i64 nn, .string s5, .slice b5 m5 c5] rfl rfl ?_ ?_ ?_ ?_ ?_ ?_
          · intro j u hj
            exact cells_new _ #[.int .u8 kk, .int .i64 nn, .string s5, .slice b5 m5 c5] _ _ rfl j u (by simpa using hj)
          · intro u hu; simp only [List.mem_cons, List.not_mem_nil, or_false] at hu; rcases hu with rfl | rfl | rfl | rfl <;> rfl
          · unfold maxLen; omega
          · omega
          · simp; omega
          intro v6 w6 hown6 hg6 hn6
          obtain ⟨g6, cap6, rfl⟩ : ∃ g6 cap6, v6 = Value.slice (some ⟨g6, 0, none⟩) (xs.length + 1) cap6 := by
            rcases hown6.2 with ⟨_, h0⟩ | ⟨g6, cap6, _, e6, _⟩
            · omega
            · exact ⟨g6, cap6, e6⟩
          have HST := Lib.hid (tu_step hr0 hpw HS.out HG5'.out HR5'.out hg6 hown6)
          have HRT := Lib.hid (tur_step hk HGV.out hl2 HTO.out hn HRES5.out (fun v hx => prs_step hr0 hpw HS.out HR5'.out hg6 hx HP.out))
          have T6 := Blk.kept (HT5'.out.below ((Below.refl _ _).alloc (Nat.le_refl _) (.cells #[.int .u8 kk, .int .i64 nn, .string s5, .slice b5 m5 c5] 25))) hg6.grown (fun e => by have := (O5.lt _ e.symm).1; omega)
          have hS := T6.cell 3
          have z3 := T6.cell 3
          have zf := fun o => T6.free o
          have zlt := T6.lt
          clear hown6 hg6 hn6 T6 hi0 hz0 hz1 hz2
          refine hK _ _ (fun _ => hS) ?_
          clear hK K
          refine wpAnyT_pure 8 rfl (by kernel_rfl) (by decide) (by kernel_rfl) (by kernel_rfl) (fun _ _ _ h => h) hS (by kernel_rfl) (v := ?_) ?_ ?_
          rotate_left
          · intro w'; go_simp; (try with_reducible rfl)
          simp only [Act.put, List.setIfInBounds_toArray, List.set_cons_zero, List.set_cons_succ]
          refine wpAnyT_one 9 (by kernel_rfl) rfl (by kernel_rfl) (fun K hK => ?_)
          go_simp
          refine hK _ _ (fun h => absurd rfl h) ?_
          clear hK K
          refine wpAnyT_done (by kernel_rfl) ?_
          clear hS z3 zf zlt t0 t1 t2 t3 tf tlt c3 clt O5
          go_wp2
          go_roundw
          case rel => exact ⟨k - 1, a5, lf5, er5, _, _, (by show Value.int .u64 ((k : Int) - 1) = Value.int .u64 ((k - 1 : Nat) : Int); congr 1; omega), HST.out, HRT.out⟩
          case measure => simp [intOf]; omega
        · have HS := Lib.hid hs
          have HRR2 := Lib.hid hrr
          have q0 := hs.q.cell 0
          have q1 := hs.q.cell 1
          have q2 := hs.q.cell 2
          have q3 := hs.q.cell 3
          have qf := fun o => hs.q.free o
          have qlt := hs.q.lt
          have c1 := hs.g.cell 1
          have cf := fun o => hs.g.free o
          clear hs hrr
          by_cases hk : k = 0
          · subst hk
            have HE := Lib.hid (tu_end hr0 (fun _ => rfl) HS.out HRR2.out)
            go_wp2
            have QF := ((((HS.out.q.kept (grown_set (grown_refl wr (some p)) 1 (.int .i64 (a : Int))) hne).set 0 (.int .u8 4)).set 1 (.int .i64 0)).set 2 (.string ⟨#[]⟩)).set 3 (.slice g xs.length cg)
            have GF := ret_gv0 (HS.out.g.set 1 (.int .i64 (a : Int))) (grown_set HS.out.gr 1 (.int .i64 (a : Int))) hpw (Nat.le_refl w.heap.size) (.int .u8 4) (.int .i64 0) (.string ⟨#[]⟩) (.slice g xs.length cg)
            (try simp only [Exit.inBlock, Exit.then])
            refine bodyPost_ret (results_cell_row rfl _ _ w.heap.size 25 _ (0, 0) _ rfl QF Try.underlying25 rfl (by kernel_rfl)) rfl ?_
            rcases HE.out with ⟨he, h1⟩ | ⟨he, acc, lfn, g', cap', h1, hlf, hsv, hrl⟩
            · have hRe : R = .error er := by rw [HRR.out, h1]; simp [hm, tupled]
              rw [hRe]
              exact ⟨4, 0, ⟨#[]⟩, g, xs.length, cg, a, lf, rfl, he, GF.1, GF.2⟩
            · have hRe : R = .ok (.mk 4 0 Va.em acc, a, lfn) := by rw [HRR.out, h1]; simp [hm, tupled]
              rw [hRe]
              subst he
              subst hlf
              injection hsv with e1 e2 e3
              subst e1
              subst e3
              rw [e2] at GF ⊢
              exact ⟨_, rfl, RV.mk' (ok := fun b => w.heap.size ≤ b) (k := 4) (l := acc) (s := Va.em) (by decide) (by unfold Va.I64; omega) (by decide) (rl_ret hrl hpw hr0 _ _ _ _ _), GF.1, GF.2⟩
          · have hk' : (0 : Int) < (k : Int) := by omega
            have her : er ≠ 0 := fun e => hgo ⟨by omega, e⟩
            have he3 : ((er : Int) == 0) = false := bneI (by omega)
            have HE := Lib.hid (tu_end hr0 (fun e => absurd e her) HS.out HRR2.out)
            go_wp2
            have QF := ((((HS.out.q.kept (grown_set (grown_refl wr (some p)) 1 (.int .i64 (a : Int))) hne).set 0 (.int .u8 4)).set 1 (.int .i64 0)).set 2 (.string ⟨#[]⟩)).set 3 (.slice g xs.length cg)
            have GF := ret_gv0 (HS.out.g.set 1 (.int .i64 (a : Int))) (grown_set HS.out.gr 1 (.int .i64 (a : Int))) hpw (Nat.le_refl w.heap.size) (.int .u8 4) (.int .i64 0) (.string ⟨#[]⟩) (.slice g xs.length cg)
            (try simp only [Exit.inBlock, Exit.then])
            refine bodyPost_ret (results_cell_row rfl _ _ w.heap.size 25 _ (0, 0) _ rfl QF Try.underlying25 rfl (by kernel_rfl)) rfl ?_
            rcases HE.out with ⟨he, h1⟩ | ⟨he, acc, lfn, g', cap', h1, hlf, hsv, hrl⟩
            · have hRe : R = .error er := by rw [HRR.out, h1]; simp [hm, tupled]
              rw [hRe]
              exact ⟨4, 0, ⟨#[]⟩, g, xs.length, cg, a, lf, rfl, he, GF.1, GF.2⟩
            · have hRe : R = .ok (.mk 4 0 Va.em acc, a, lfn) := by rw [HRR.out, h1]; simp [hm, tupled]
              rw [hRe]
              subst he
              subst hlf
              injection hsv with e1 e2 e3
              subst e1
              subst e3
              rw [e2] at GF ⊢
              exact ⟨_, rfl, RV.mk' (ok := fun b => w.heap.size ≤ b) (k := 4) (l := acc) (s := Va.em) (by decide) (by unfold Va.I64; omega) (by decide) (rl_ret hrl hpw hr0 _ _ _ _ _), GF.1, GF.2⟩
  · have he2 : ((er : Int) != 0) = true := by rw [bne_iff_ne]; omega
    have he3 : ((er : Int) == 0) = false := bneI (by omega)
    have CF := Lib.hid (vfail_any p (.slice ba n cap) (at' + 1) ((left : Int) - 1) 0 er er rfl W6 HV6.out)
    rw [if_pos rfl] at CF
    go_wp2_with fail
    refine (CF.out).mono ?_
    rintro e w8 ⟨rfl, hg6, hr6⟩
    have T8 := HT6.out.kept hr6 hnr
    have Q8 := HQ6.out.kept hr6 hne
    clear t0 t1 t2 t3 tlt y1 yf ylt q0 q1 q2 q3 qf qlt
    have v0 := T8.cell 0
    have v1 := T8.cell 1
    have v2 := T8.cell 2
    have v3 := T8.cell 3
    have vlt := T8.lt
    have q0 := Q8.cell 0
    have q1 := Q8.cell 1
    have q2 := Q8.cell 2
    have q3 := Q8.cell 3
    have qf := fun o => Q8.free o
    have qlt := Q8.lt
    have c1 := hg6.cell 1
    have cf := fun o => hg6.free o
    have hlt6 := hg6.lt
    have HG8 := Lib.hid (grown_set (grown_trans HG6.out hr6) 1 (.int .i64 (nx : Int)))
    have HV8 : Hid (Gv (w8.setCell ⟨p, 1, none⟩ (.int .i64 (nx : Int))) p (.slice ba n cap) nx ((left : Int) - 1) er) := Lib.hid (hg6.set 1 (.int .i64 (nx : Int)))
    have HQ8 := Lib.hid (Q8.kept (grown_set (grown_refl w8 (some p)) 1 (.int .i64 (nx : Int))) hne)
    clear hg6 hr6 T8 Q8
    go_wp2
    have QF := (((HQ8.out.set 0 (.int .u8 4)).set 1 (.int .i64 0)).set 2 (.string ⟨#[]⟩)).set 3 (.slice none 0 0)
    have GF := ret_gv0 HV8.out HG8.out hpw (Nat.le_refl w.heap.size) (.int .u8 4) (.int .i64 0) (.string ⟨#[]⟩) (.slice none 0 0)
    (try simp only [Exit.inBlock, Exit.then])
    refine bodyPost_ret (results_cell_row rfl _ _ w.heap.size 25 _ (0, 0) _ rfl QF Try.underlying25 rfl (by kernel_rfl)) rfl ?_
    have hRe : R = .error er := by rw [HRR.out]; simp [he]
    rw [hRe]
    exact ⟨4, 0, ⟨#[]⟩, none, 0, 0, nx, _, rfl, he, GF.1, GF.2⟩
end Go.Proofs.Ytgamhgeiceakeaa
