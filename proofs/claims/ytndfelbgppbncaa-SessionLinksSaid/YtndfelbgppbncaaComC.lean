/- Texts of this claim, part 3: BSpec, BOwn, BOne, BTwo, BThree, BFour, BFive, BSix, BSeven, BEight, BNine, BTen, BEleven, BTwelve, BThirteen, SOne, STwo, SThree, SFour, SSix, SSeven, BDraw, SEight, SCmp, SLs, SPks, SDel. -/
import Derived.Test.YtndfelbgppbncaaComB
import Derived.Laws.AppendOwn
import Derived.Laws.OwnMore
import Derived.Below
import Derived.Test.YtndfelbgppbncaaProg
import Derived.WalkKit
import Derived.OwnWalk
import Derived.WalkSmall
import Derived.Laws.IdiomStrings
import Derived.Laws.BytesArg
import Derived.IntWalk
import Derived.Lib.Hide
import Derived.Lib.Zigzag
import Derived.Lib.VarintBits
import Derived.Deep.QuietTactic
import Derived.BigQuiet
import Derived.Deep.RegionWith
import Derived.WalkSpells
import Derived.Laws.Rows
import Derived.Lib.BufferMore
import Derived.OneCell
import Derived.Deep.RegionHeld3
import Derived.OrdersHeld
import Derived.Tactics
import Derived.Laws.World
import Derived.Deep.RegionLaw
import Derived.Outline
import Derived.Lib.SliceRun
/- Numbers, sums and packets as plain functions on lists of bytes: what package bytes and the packets of package frame come to. No program stands here. -/
set_option linter.unusedVariables false
namespace Go.Proofs.Ytndfelbgppbncaa
namespace By
abbrev Bs := List UInt8
def uvF : Nat → Nat → Bs
  | 0, n => [UInt8.ofNat n]
  | f + 1, n => if n < 128 then [UInt8.ofNat n] else UInt8.ofNat (n % 128 + 128) :: uvF f (n / 128)
/-- a number's bytes -/
def uv (n : Nat) : Bs := uvF 9 n
theorem uvF_enough : ∀ (f g n : Nat), n < 128 ^ (f + 1) → n < 128 ^ (g + 1) → uvF f n = uvF g n
  | 0, 0, n, _, _ => rfl
  | 0, g + 1, n, h, _ => by
    unfold uvF; rw [if_pos (by simpa using h)]
  | f + 1, 0, n, _, h => by
    conv => rhs; unfold uvF
    unfold uvF; rw [if_pos (by simpa using h)]
  | f + 1, g + 1, n, h, h' => by
    unfold uvF
    by_cases hn : n < 128
    · rw [if_pos hn, if_pos hn]
    · rw [if_neg hn, if_neg hn, uvF_enough f g (n / 128) (Nat.div_lt_of_lt_mul (by rw [Nat.pow_succ, Nat.mul_comm] at h; exact h)) (Nat.div_lt_of_lt_mul (by rw [Nat.pow_succ, Nat.mul_comm] at h'; exact h'))]
theorem uv_small (n : Nat) (h : n < 128) : uv n = [UInt8.ofNat n] := by
  unfold uv uvF; rw [if_pos h]
theorem p64 : (18446744073709551616 : Nat) ≤ 128 ^ 10 := by decide
theorem p57 : (18446744073709551616 : Nat) ≤ 128 ^ 9 * 128 := by decide
theorem uv_big (n : Nat) (h : 128 ≤ n) (h64 : n < 18446744073709551616) : uv n = UInt8.ofNat (n % 128 + 128) :: uv (n / 128) := by
  unfold uv
  conv => lhs; unfold uvF
  rw [if_neg (by omega), uvF_enough 8 9 (n / 128) (Nat.div_lt_of_lt_mul (by have := p57; rw [Nat.mul_comm]; omega)) (by have := p64; have h1 : n / 128 ≤ n := Nat.div_le_self _ _; exact Nat.lt_of_le_of_lt h1 (Nat.lt_of_lt_of_le h64 this))]
theorem uvF_len : ∀ f n, (uvF f n).length ≤ f + 1 ∧ 1 ≤ (uvF f n).length
  | 0, n => ⟨Nat.le_refl _, Nat.le_refl _⟩
  | f + 1, n => by
    have := uvF_len f (n / 128)
    unfold uvF; split
    · simp
    · simp only [List.length_cons]; omega
theorem uv_len (n : Nat) : (uv n).length ≤ 10 ∧ 1 ≤ (uv n).length := uvF_len 9 n
/-- a number at a list's begin: it, how many bytes say it, the error -/
def guF : Nat → Nat → Bs → Nat × Nat × Nat
  | _, _, [] => (0, 0, 11)
  | i, acc, x :: r => if (i = 9 ∧ 1 < x.toNat) ∨ (x.toNat = 0 ∧ 0 < i) then (0, 0, 10) else
    if x.toNat < 128 then (acc + x.toNat % 128 * 128 ^ i, i + 1, 0) else if i = 9 then (0, 0, 10) else guF (i + 1) (acc + x.toNat % 128 * 128 ^ i) r
def gu (l : Bs) : Nat × Nat × Nat := guF 0 0 l
theorem pow9 : (128 : Nat) ^ 9 = 9223372036854775808 := by decide
theorem guF_uvF (r : Bs) : ∀ (f i acc n : Nat), n < 128 ^ (f + 1) → i + f = 9 → n * 128 ^ i < 18446744073709551616 → (0 < i → 0 < n) → guF i acc (uvF f n ++ r) = (acc + n * 128 ^ i, i + (uvF f n).length, 0)
  | 0, i, acc, n, h, hi, h1, h0 => by
    obtain rfl : i = 9 := by omega
    have hn : n ≤ 1 := by rw [pow9] at h1; omega
    have e : (UInt8.ofNat n).toNat = n := by simp; omega
    show guF 9 acc (UInt8.ofNat n :: ([] ++ r)) = _
    unfold guF
    rw [e, if_neg (by omega), if_pos (by omega), Nat.mod_eq_of_lt (by omega)]; rfl
  | f + 1, i, acc, n, h, hi, h1, h0 => by
    by_cases hn : n < 128
    · have e : (UInt8.ofNat n).toNat = n := by simp; omega
      have ee : uvF (f + 1) n = [UInt8.ofNat n] := by unfold uvF; rw [if_pos hn]
      rw [ee]
      show guF i acc (UInt8.ofNat n :: ([] ++ r)) = _
      unfold guF
      rw [e, if_neg (by omega), if_pos hn, Nat.mod_eq_of_lt hn]; rfl
    · have ee : uvF (f + 1) n = UInt8.ofNat (n % 128 + 128) :: uvF f (n / 128) := if_neg hn
      have e : (UInt8.ofNat (n % 128 + 128)).toNat = n % 128 + 128 := by simp; omega
      rw [ee, List.cons_append]
      unfold guF
      rw [e, if_neg (by omega), if_neg (by omega), if_neg (by omega)]
      have hlt : n / 128 < 128 ^ (f + 1) := Nat.div_lt_of_lt_mul (by rw [Nat.pow_succ, Nat.mul_comm] at h; exact h)
      have hdm := Nat.div_add_mod n 128
      have e3 : n / 128 * (128 ^ i * 128) = 128 * (n / 128) * 128 ^ i := by rw [Nat.mul_comm (128 ^ i) 128, ← Nat.mul_assoc, Nat.mul_comm (n / 128) 128]
      have e4 : n * 128 ^ i = 128 * (n / 128) * 128 ^ i + n % 128 * 128 ^ i := by rw [← Nat.add_mul, hdm]
      rw [guF_uvF r f (i + 1) _ (n / 128) hlt (by omega) (by rw [Nat.pow_succ, e3]; omega) (fun _ => by omega)]
      simp only [List.length_cons]
      have e2 : (n % 128 + 128) % 128 = n % 128 := by omega
      rw [e2, Nat.pow_succ, e3, e4]
      congr 1
      · omega
      · congr 1; omega
/-- what a number was put as is got -/
theorem gu_uv (n : Nat) (h : n < 18446744073709551616) (r : Bs) : gu (uv n ++ r) = (n, (uv n).length, 0) := by
  have := guF_uvF r 9 0 0 n (Nat.lt_of_lt_of_le h p64) rfl (by simpa using h) (fun h => absurd h (Nat.lt_irrefl 0))
  unfold gu uv
  rw [this]; simp
theorem guF_len : ∀ (l : Bs) (i acc : Nat), (guF i acc l).2.2 = 0 → (guF i acc l).2.1 ≤ i + l.length ∧ i < (guF i acc l).2.1
  | [], i, acc, h => by cases h
  | x :: r, i, acc, h => by
    unfold guF at h ⊢
    split at h
    · cases h
    · rename_i h1
      rw [if_neg h1]
      split at h
      · rename_i h2; rw [if_pos h2]; simp
      · rename_i h2
        rw [if_neg h2]
        split at h
        · cases h
        · rename_i h3
          rw [if_neg h3]
          have := guF_len r (i + 1) _ h
          simp only [List.length_cons]; omega
theorem gu_len (l : Bs) (h : (gu l).2.2 = 0) : (gu l).2.1 ≤ l.length ∧ 0 < (gu l).2.1 := by
  have := guF_len l 0 0 h; unfold gu; omega
/-- the sum -/
def crc1 (c : Nat) : Nat := c / 2 ^^^ (if c % 2 = 1 then 3988292384 else 0)
def crc8 (c : Nat) : Nat := crc1 (crc1 (crc1 (crc1 (crc1 (crc1 (crc1 (crc1 c)))))))
def crcB (c : Nat) (x : UInt8) : Nat := crc8 (c ^^^ x.toNat)
def crcF (c : Nat) (l : Bs) : Nat := l.foldl crcB c
def crc (l : Bs) : Nat := 4294967295 - crcF 4294967295 l
theorem crc1_lt (c : Nat) (h : c < 4294967296) : crc1 c < 4294967296 := by
  unfold crc1
  refine Nat.xor_lt_two_pow (n := 32) (by omega) ?_
  split <;> omega
theorem crc8_lt (c : Nat) (h : c < 4294967296) : crc8 c < 4294967296 := by
  unfold crc8
  exact crc1_lt _ (crc1_lt _ (crc1_lt _ (crc1_lt _ (crc1_lt _ (crc1_lt _ (crc1_lt _ (crc1_lt _ h)))))))
theorem crcB_lt (c : Nat) (x : UInt8) (h : c < 4294967296) : crcB c x < 4294967296 :=
  crc8_lt _ (Nat.xor_lt_two_pow (n := 32) h (by have := x.toNat_lt; omega))
theorem crcF_lt : ∀ (l : Bs) (c : Nat), c < 4294967296 → crcF c l < 4294967296
  | [], c, h => h
  | x :: l, c, h => crcF_lt l _ (crcB_lt c x h)
theorem crc_lt (l : Bs) : crc l < 4294967296 := by unfold crc; omega
theorem crcF_snoc (l : Bs) (c : Nat) (x : UInt8) : crcF c (l ++ [x]) = crcB (crcF c l) x := by unfold crcF; rw [List.foldl_append]; rfl
/-- four bytes, the highest first -/
def be4 (n : Nat) : Bs := [UInt8.ofNat (n / 16777216), UInt8.ofNat (n / 65536), UInt8.ofNat (n / 256), UInt8.ofNat n]
def num4 (l : Bs) : Nat := l.foldl (fun n x => n * 256 + x.toNat) 0
theorem num4_be4 (n : Nat) (h : n < 4294967296) : num4 (be4 n) = n := by
  unfold num4 be4
  simp only [List.foldl_cons, List.foldl_nil, UInt8.toNat_ofNat']
  omega
def shut (l : Bs) : Bs := l ++ be4 (crc l)
/-- without the sum; the error -/
def opn (l : Bs) : Bs × Nat :=
  if l.length < 4 then ([], 11) else if num4 (l.drop (l.length - 4)) = crc (l.take (l.length - 4)) then (l.take (l.length - 4), 0) else ([], 12)
theorem shut_len (l : Bs) : (shut l).length = l.length + 4 := by unfold shut; rw [List.length_append]; rfl
theorem open_shut (l : Bs) : opn (shut l) = (l, 0) := by
  unfold opn
  rw [shut_len, if_neg (by omega), Nat.add_sub_cancel]
  have h1 : (shut l).drop l.length = be4 (crc l) := by unfold shut; rw [List.drop_left]
  have h2 : (shut l).take l.length = l := by unfold shut; rw [List.take_left]
  rw [h1, h2, num4_be4 _ (crc_lt l), if_pos rfl]
/-- a packet -/
structure Pk where
  fr : Nat
  life : Nat
  seq : Nat
  ack : Nat
  data : Bs
def top : Nat := 4611686018427387904
def Pk.right (p : Pk) : Prop := p.fr ≤ top ∧ p.life ≤ top ∧ p.seq ≤ top ∧ p.ack ≤ top ∧ p.data.length ≤ 1048576 ∧ (0 < p.seq ∨ p.data = [])
def blob (l : Bs) : Bs := uv l.length ++ l
def pk (p : Pk) : Bs := uv p.fr ++ (uv p.life ++ (uv p.seq ++ (uv p.ack ++ blob p.data)))
def pack (p : Pk) : Bs := shut (pk p)
/-- numbers, one behind the other, each at most 'top': them, what is left, the error -/
def nums : Nat → Bs → List Nat × Bs × Nat
  | 0, l => ([], l, 0)
  | k + 1, l => if (gu l).2.2 ≠ 0 then ([], [], (gu l).2.2) else if top < (gu l).1 then ([], [], 14) else
    ((gu l).1 :: (nums k (l.drop (gu l).2.1)).1, (nums k (l.drop (gu l).2.1)).2.1, (nums k (l.drop (gu l).2.1)).2.2)
/-- some bytes: them, how many say it, the error -/
def getBlob (most : Nat) (l : Bs) : Bs × Nat × Nat :=
  if (gu l).2.2 ≠ 0 then ([], 0, (gu l).2.2) else if most < (gu l).1 then ([], 0, 3) else if l.length - (gu l).2.1 < (gu l).1 then ([], 0, 11) else
    ((l.drop (gu l).2.1).take (gu l).1, (gu l).2.1 + (gu l).1, 0)
theorem getBlob_blob (most : Nat) (l r : Bs) (h : l.length ≤ most) (h64 : l.length < 18446744073709551616) : getBlob most (blob l ++ r) = (l, (blob l).length, 0) := by
  unfold getBlob blob
  rw [List.append_assoc, gu_uv _ h64]
  simp only
  rw [if_neg (by simp), if_neg (by omega), if_neg (by rw [List.length_append, List.length_append]; omega), List.drop_left, List.take_left, List.length_append]
def zeroPk : Pk := ⟨0, 0, 0, 0, []⟩
def unpack (b : Bs) : Pk × Nat :=
  if 1048640 < b.length then (zeroPk, 3) else if (opn b).2 ≠ 0 then (zeroPk, (opn b).2) else
  let r := nums 4 (opn b).1
  if r.2.2 ≠ 0 then (zeroPk, r.2.2) else
  let d := getBlob 1048576 r.2.1
  if d.2.2 ≠ 0 then (zeroPk, d.2.2) else
  if r.1.getD 2 0 = 0 ∧ d.1 ≠ [] then (zeroPk, 14) else
  if d.2.1 < r.2.1.length then (zeroPk, 10) else (⟨r.1.getD 0 0, r.1.getD 1 0, r.1.getD 2 0, r.1.getD 3 0, d.1⟩, 0)
theorem nums_cons (k n : Nat) (r : Bs) (h : n ≤ top) : nums (k + 1) (uv n ++ r) = (n :: (nums k r).1, (nums k r).2.1, (nums k r).2.2) := by
  have h64 : n < 18446744073709551616 := by unfold top at h; omega
  conv => lhs; unfold nums
  rw [gu_uv n h64]
  simp only
  rw [if_neg (by simp), if_neg (by omega), List.drop_left]
theorem pk_len (p : Pk) : (pk p).length ≤ p.data.length + 50 := by
  have h1 := uv_len p.fr
  have h2 := uv_len p.life
  have h3 := uv_len p.seq
  have h4 := uv_len p.ack
  have h5 := uv_len p.data.length
  unfold pk blob
  simp only [List.length_append]
  omega
/-- a right packet comes back -/
theorem unpack_pack (p : Pk) (h : p.right) : unpack (pack p) = (p, 0) := by
  obtain ⟨h1, h2, h3, h4, h5, h6⟩ := h
  have hl := pk_len p
  have hn : nums 4 (pk p) = ([p.fr, p.life, p.seq, p.ack], blob p.data, 0) := by
    unfold pk
    rw [nums_cons 3 _ _ h1, nums_cons 2 _ _ h2, nums_cons 1 _ _ h3, nums_cons 0 _ _ h4]; rfl
  have hb := getBlob_blob 1048576 p.data [] h5 (by omega)
  rw [List.append_nil] at hb
  unfold unpack pack
  rw [shut_len, if_neg (by omega), open_shut]
  simp only
  rw [if_neg (by simp), hn]
  simp only
  rw [if_neg (by simp), hb]
  simp only
  rw [if_neg (by simp), if_neg (by
    intro ⟨q1, q2⟩
    rcases h6 with h | h
    · have : p.seq = 0 := q1
      omega
    · exact q2 h), if_neg (Nat.lt_irrefl _)]
  rfl
end By
end Go.Proofs.Ytndfelbgppbncaa
/- What an append to a slice of the call's own leaves: the row it lay in, or a new one, and nothing else, has turned. -/
set_option linter.unusedVariables false
namespace Go.Proofs.Ytndfelbgppbncaa
open Go.RowKit
/-- v' has come of v: but for the row of v nothing that there was has turned -/
structure Gw (w w' : World) (v v' : Value) : Prop where
  grown : w.grownBy w' v.ownBlock
  own : v'.ownBlock = v.ownBlock ∨ ∃ k, v'.ownBlock = some k ∧ w.heap.size ≤ k
theorem grown_refl (w : World) (r : Option Nat) : w.grownBy w r := ⟨rfl, rfl, rfl, Nat.le_refl _, fun _ _ _ => rfl⟩
theorem Gw.refl (w : World) (v : Value) : Gw w w v v := ⟨grown_refl _ _, Or.inl rfl⟩
theorem Gw.trans {w w1 w2 : World} {v v1 v2 : Value} (h : Gw w w1 v v1) (k : Gw w1 w2 v1 v2) : Gw w w2 v v2 := by
  refine ⟨⟨k.grown.os.trans h.grown.os, k.grown.tape.trans h.grown.tape, k.grown.output.trans h.grown.output, Nat.le_trans h.grown.size k.grown.size, fun i hi hne => ?_⟩, ?_⟩
  · rw [k.grown.block i (Nat.lt_of_lt_of_le hi h.grown.size) (fun e => by
      rcases h.own with o | ⟨j, o, hj⟩
      · exact hne (e.trans o)
      · rw [o] at e; cases e; omega), h.grown.block i hi hne]
  · rcases k.own with o | ⟨j, o, hj⟩
    · rcases h.own with o' | ⟨j, o', hj⟩
      · exact Or.inl (o.trans o')
      · exact Or.inr ⟨j, o.trans o', hj⟩
    · exact Or.inr ⟨j, o, Nat.le_trans h.grown.size hj⟩
theorem Gw.below {w w1 w2 : World} {v v1 : Value} (h : Gw w w1 v v1) (k : Below w1.heap.size w1 w2) : Gw w w2 v v1 := by
  refine ⟨⟨k.os.trans h.grown.os, k.tape.trans h.grown.tape, k.output.trans h.grown.output, Nat.le_trans h.grown.size k.size, fun i hi hne => ?_⟩, h.own⟩
  rw [k.block i (Nat.lt_of_lt_of_le hi h.grown.size), h.grown.block i hi hne]
theorem Gw.alloc {w w1 : World} {v v1 : Value} (h : Gw w w1 v v1) (o : Obj) : Gw w (w1.alloc o) v v1 := h.below ((Below.refl _ _).alloc (Nat.le_refl _) o)
theorem Gw.of {w w1 w2 : World} {v v1 : Value} (k : Below w.heap.size w w1) (h : Gw w1 w2 v v1) (hv : ∀ i, v.ownBlock = some i → i < w.heap.size) : Gw w w2 v v1 := by
  refine ⟨⟨h.grown.os.trans k.os, h.grown.tape.trans k.tape, h.grown.output.trans k.output, Nat.le_trans k.size h.grown.size, fun i hi hne => ?_⟩, ?_⟩
  · rw [h.grown.block i (Nat.lt_of_lt_of_le hi k.size) hne, k.block i hi]
  · rcases h.own with o | ⟨j, o, hj⟩
    · exact Or.inl o
    · exact Or.inr ⟨j, o, Nat.le_trans k.size hj⟩
/-- below a bound that the row lies above, nothing has turned -/
theorem Gw.less {B : Nat} {a w w' : World} {v v' : Value} (h : Below B a w) (g : Gw w w' v v') (hB : B ≤ w.heap.size) (hv : ∀ i, v.ownBlock = some i → B ≤ i) : Below B a w' := h.grown g.grown hB hv
theorem Gw.base {B : Nat} {w w' : World} {v v' : Value} (g : Gw w w' v v') (hB : B ≤ w.heap.size) (hv : ∀ i, v.ownBlock = some i → B ≤ i) : ∀ i, v'.ownBlock = some i → B ≤ i := by
  intro i hi
  rcases g.own with o | ⟨j, o, hj⟩
  · exact hv i (o ▸ hi)
  · rw [hi] at o; cases o; omega
section
variable {P : Program} (w : World)
theorem own_after (base : Nat) (t ty e : TypeId) (i : TypeInfo) (z : Value) (size bytes : Nat) (ht : P.underlying t = some (.slice e)) (hi : P.info? e = some i) (hz : i.zero = some z)
    (hsize : i.size = size) (hby : i.bytes = bytes) (hzs : z.cells.size = size) (hsz : 0 < size)
    (v : Value) (n : Nat) (xs : List Value) (hown : w.ownsRow base e size v n xs)
    (a : Addr) (m c : Nat) (news : List Value) (hl : news.length = m * size) (hnews : ∀ j u, news[j]? = some u → w.cell? (a.add j) = some u) (h1 : ∀ u ∈ news, u.oneCell' = true)
    (h63 : n + m ≤ maxLen) (hbytes : (n + m) * bytes ≤ 140737488355328) {v' : Value} {w' : World} (hr : (Builtin.append_ #[t, t] ty #[v, .slice (some a) m c]).run P w = .ok v' w') (hnil : v' = .slice none 0 0 ↔ v = .slice none 0 0 ∧ m = 0) :
    v'.ownBlock = v.ownBlock ∨ ∃ k, v'.ownBlock = some k ∧ w.heap.size ≤ k := by
  subst hsize
  subst hby
  have hsmall : n + m ≤ 9223372036854775807 := by simp only [maxLen] at h63; omega
  rcases hown.2 with ⟨rfl, rfl⟩ | ⟨g, cap, cur, rfl, hbg, hg, hnc, hcm, hcs, htake⟩
  · by_cases hm : m = 0
    · rw [hnil.2 ⟨rfl, hm⟩]; exact Or.inl rfl
    · have hr2 := run_append_nil (P := P) w t ty e i z ht hi hz a m c news hl hnews (by omega) (by omega) (by have hb := hbytes; simp only [Nat.zero_add] at hb; omega)
      rw [hr2] at hr
      cases hr
      exact Or.inr ⟨w.heap.size, rfl, Nat.le_refl _⟩
  · by_cases hroom : n + m ≤ cap
    · have hfit : n * i.size + news.length ≤ cur.size := by rw [hl, hcs, ← Nat.add_mul]; exact Nat.mul_le_mul_right _ hroom
      have hr2 := run_append_room (P := P) w t ty e i ht hi g n cap cur hg a m c news hl hnews h1 hroom hfit
      rw [hr2] at hr
      cases hr
      exact Or.inl rfl
    · have hr2 := run_append_grow (P := P) w t ty e i z ht hi hz ⟨g, 0, none⟩ n cap xs hown.1 (hown.cells (g := g) rfl) a m c news hl hnews (by omega) (by omega) (growslice_fits (by omega) hbytes)
      rw [hr2] at hr
      cases hr
      exact Or.inr ⟨w.heap.size, rfl, Nat.le_refl _⟩
theorem wpList_append_gw {ops : Array Oper} {rest : List Oper} {o : Oper} {a : Act} {Q : Exit → Act → World → Prop} (hgd : o.guard = none) (s x : Operand) (t : TypeId)
    (ho : o.op = .call { callee := .builtin .append, args := #[s, x], argTypes := #[t, t] })
    (base : Nat) (e : TypeId) (i : TypeInfo) (z : Value) (size bytes : Nat) (ht : P.underlying t = some (.slice e)) (hi : P.info? e = some i) (hz : i.zero = some z)
    (hsize : i.size = size) (hby : i.bytes = bytes) (hzs : z.cells.size = size) (hsz : 0 < size)
    (v : Value) (n : Nat) (xs : List Value) (hs : a.eval s = v) (hown : w.ownsRow base e size v n xs)
    (ad : Addr) (m c : Nat) (news : List Value) (hx : a.eval x = .slice (some ad) m c) (hl : news.length = m * size) (hnews : ∀ j u, news[j]? = some u → w.cell? (ad.add j) = some u) (h1 : ∀ u ∈ news, u.oneCell' = true)
    (h63 : n + m ≤ maxLen) (hbytes : (n + m) * bytes ≤ 140737488355328) (hbase : base ≤ w.heap.size)
    (h : ∀ v' w', w'.ownsRow base e size v' (n + m) (xs ++ news) → Gw w w' v v' → (v' = .slice none 0 0 ↔ v = .slice none 0 0 ∧ m = 0) → wpList P ops Q rest (a.put o.dst v') w') : wpList P ops Q (o :: rest) a w :=
  wpList_plain hgd fun K hK => by
    obtain ⟨v', w', hr, h2, h3, h4⟩ := run_append_own (P := P) w base t o.type e i z size bytes ht hi hz hsize hby hzs hsz v n xs hown ad m c news hl hnews h1 h63 hbytes hbase
    have h5 := own_after (P := P) w base t o.type e i z size bytes ht hi hz hsize hby hzs hsz v n xs hown ad m c news hl hnews h1 h63 hbytes hr h4
    unfold Oper.wp execOp
    simp only [ho, resolve, invoke, builtin, Sem.run_bind, Sem.run_pure, Result.andThen_ok, List.map_toArray, List.map_cons, List.map_nil, hs, hx, hr]
    exact hK _ _ (h v' w' h2 ⟨h3, h5⟩ h4)
theorem run_append_of_none (base : Nat) (t ty e : TypeId) (i : TypeInfo) (size : Nat) (ht : P.underlying t = some (.slice e)) (hi : P.info? e = some i)
    (v : Value) (n : Nat) (xs : List Value) (hown : w.ownsRow base e size v n xs) (c : Nat) : (Builtin.append_ #[t, t] ty #[v, .slice none 0 c]).run P w = .ok v w := by
  rcases hown.2 with ⟨rfl, rfl⟩ | ⟨g, cap, cur, rfl, _, _, hnc, _⟩
  · simp [Builtin.append_, run_underlying ht, sizeOf, typeInfo, hi, Builtin.lenOf, Builtin.firstCells]
  · simp [Builtin.append_, run_underlying ht, sizeOf, typeInfo, hi, Builtin.lenOf, Builtin.firstCells, hnc, storeCells]
/-- the same where the source may be nil -/
theorem wpList_append_rd {ops : Array Oper} {rest : List Oper} {o : Oper} {a : Act} {Q : Exit → Act → World → Prop} (hgd : o.guard = none) (s x : Operand) (t : TypeId)
    (ho : o.op = .call { callee := .builtin .append, args := #[s, x], argTypes := #[t, t] })
    (base : Nat) (e : TypeId) (i : TypeInfo) (z : Value) (size bytes : Nat) (ht : P.underlying t = some (.slice e)) (hi : P.info? e = some i) (hz : i.zero = some z)
    (hsize : i.size = size) (hby : i.bytes = bytes) (hzs : z.cells.size = size) (hsz : 0 < size)
    (v : Value) (n : Nat) (xs : List Value) (hs : a.eval s = v) (hown : w.ownsRow base e size v n xs)
    (ba : Option Addr) (m c : Nat) (news : List Value) (hx : a.eval x = .slice ba m c) (hl : news.length = m * size) (hba : ba = none → m = 0) (hnews : ∀ ad, ba = some ad → ∀ j u, news[j]? = some u → w.cell? (ad.add j) = some u) (h1 : ∀ u ∈ news, u.oneCell' = true)
    (h63 : n + m ≤ maxLen) (hbytes : (n + m) * bytes ≤ 140737488355328) (hbase : base ≤ w.heap.size)
    (h : ∀ v' w', w'.ownsRow base e size v' (n + m) (xs ++ news) → Gw w w' v v' → (v' = .slice none 0 0 ↔ v = .slice none 0 0 ∧ m = 0) → wpList P ops Q rest (a.put o.dst v') w') : wpList P ops Q (o :: rest) a w := by
  cases ba with
  | some ad => exact wpList_append_gw w hgd s x t ho base e i z size bytes ht hi hz hsize hby hzs hsz v n xs hs hown ad m c news hx hl (hnews ad rfl) h1 h63 hbytes hbase h
  | none =>
    have hm := hba rfl
    subst hm
    have hn : news = [] := List.eq_nil_of_length_eq_zero (by rw [hl, Nat.zero_mul])
    subst hn
    refine wpList_plain hgd fun K hK => ?_
    have hr := run_append_of_none (P := P) w base t o.type e i size ht hi v n xs hown c
    unfold Oper.wp execOp
    simp only [ho, resolve, invoke, builtin, Sem.run_bind, Sem.run_pure, Result.andThen_ok, List.map_toArray, List.map_cons, List.map_nil, hs, hx, hr]
    exact hK _ _ (h v w (by simpa using hown) (Gw.refl _ _) (by simp))
end
end Go.Proofs.Ytndfelbgppbncaa
/- package bytes: numbers, by contract. -/
set_option linter.unusedVariables false
namespace Go.Proofs.Ytndfelbgppbncaa
open Go.RowKit
def u8s (l : List UInt8) : List Value := l.map fun b => Value.int .u8 b.toNat
theorem u8s_app (l r : List UInt8) : u8s (l ++ r) = u8s l ++ u8s r := by unfold u8s; simp
theorem u8s_len (l : List UInt8) : (u8s l).length = l.length := by unfold u8s; simp
theorem u8s_one (l : List UInt8) : ∀ u ∈ u8s l, u.oneCell' = true := by
  intro u hu; unfold u8s at hu; obtain ⟨x, _, rfl⟩ := List.mem_map.1 hu; rfl
theorem Try.info_u8 : (Try.prog.info? 5).map (fun i => (i.zero, i.size, i.bytes)) = some (some (.int .u8 0), 1, 1) := by kernel_rfl
/-- a slice of bytes of the call's own -/
def Ow (w : World) (B : Nat) (v : Value) (l : List UInt8) : Prop := w.ownsRow B 5 1 v l.length (u8s l)
theorem Ow.nil (w : World) (B : Nat) : Ow w B (.slice none 0 0) [] := World.ownsRow_nil _ _ _ _
def OwPost (B : Nat) (v : Value) (l : List UInt8) (w : World) (e : Ending) (w' : World) : Prop := ∃ v', e = .returned v' ∧ Ow w' B v' l ∧ Gw w w' v v' ∧ (l ≠ [] → v' ≠ .slice none 0 0)
theorem beqI {a b : Int} (h : a = b) : (a == b) = true := beq_iff_eq.2 h
theorem bneI {a b : Int} (h : a ≠ b) : (a == b) = false := beq_eq_false_iff_ne.2 h
theorem cell_new1 (w : World) (v : Value) (T : TypeId) : (w.alloc (.cells #[v] T)).cell? ⟨w.heap.size, 0, none⟩ = some v := by simp
/-- one byte more: 'out = append(out, c)' -/
theorem wp_byte {ops : Array Oper} {rest : List Oper} {o : Oper} {a : Act} {Q : Exit → Act → World → Prop} (w : World) (hgd : o.guard = none) (s x : Operand)
    (ho : o.op = .call { callee := .builtin .append, args := #[s, x], argTypes := #[25, 25] })
    (B : Nat) (v : Value) (r : List UInt8) (hs : a.eval s = v) (hown : Ow w B v r) (u : Int) (c : UInt8) (hu : u = (c.toNat : Nat)) (hx : a.eval x = .slice (some ⟨w.heap.size, 0, none⟩) 1 1) (hl : r.length ≤ 2199023255552) (hB : B ≤ w.heap.size)
    (h : ∀ v' w', Ow w' B v' (r ++ [c]) → Gw w w' v v' → v' ≠ .slice none 0 0 → wpList Try.prog ops Q rest (a.put o.dst v') w') : wpList Try.prog ops Q (o :: rest) a (w.alloc (.cells #[.int .u8 u] 5)) := by
  obtain ⟨i0, hi, hz0, hz1, hz2⟩ := info_parts Try.info_u8
  subst hu
  refine wpList_append_gw _ hgd s x 25 ho B 5 i0 (.int .u8 0) 1 1 Try.underlying25 hi hz0 hz1 hz2 rfl (by decide) v r.length (u8s r) hs (hown.alloc _) ⟨w.heap.size, 0, none⟩ 1 1 [.int .u8 (c.toNat : Nat)] hx rfl ?_ ?_ ?_ ?_ ?_ ?_
  · intro j u hj
    match j, hj with
    | 0, hj => simp only [List.getElem?_cons_zero, Option.some.injEq] at hj; subst hj; exact cell_new1 _ _ _
  · intro u hu; simp only [List.mem_singleton] at hu; subst hu; rfl
  · unfold maxLen; omega
  · omega
  · simp; omega
  · intro v' w' h1 h2 h3
    refine h v' w' ?_ (Gw.of ((Below.refl _ _).alloc (Nat.le_refl _) _) h2 (fun i hi => (hown.lt i hi).2)) (fun e => by have := (h3.1 e).2; omega)
    unfold Ow; rw [u8s_app, List.length_append]; exact h1
set_option maxHeartbeats 1600000 in
set_option maxRecDepth 100000 in
theorem uint_any (B : Nat) (v : Value) (l : List UInt8) (n : Nat) (w : World) (hn : n < 18446744073709551616) (ho : Ow w B v l) (hB : B ≤ w.heap.size) (hl : l.length ≤ 1099511627776) :
    Calls Try.prog 74 #[v, .int .u64 n] w (OwPost B v (l ++ By.uv n) w) := by
  have HO := Lib.hid ho
  have HN := Lib.hid hn
  clear ho hn
  go_enter Try.func74, Try.ntmps74
  go_wp2
  go_loopw [0, 1] (fun vv nv wr => ∃ (m : Nat) (r : List UInt8), m < 18446744073709551616 ∧ nv = .int .u64 m ∧ r.length + (By.uv m).length ≤ l.length + 10 ∧ Ow wr B vv r ∧ Gw w wr v vv ∧ r ++ By.uv m = l ++ By.uv n) (fun _ n _ => (intOf n).toNat)
  case atStart => exact ⟨n, l, HN.out, rfl, (by have := (By.uv_len n).1; omega), HO.out, Gw.refl _ _, rfl⟩
  case round =>
    obtain ⟨m, r, hm, rfl, hr, hown, hgw, heq⟩ := hrel
    have HOW := Lib.hid hown
    have HG := Lib.hid hgw
    have HE := Lib.hid heq
    have hsz : B ≤ wr.heap.size := Nat.le_trans hB hgw.grown.size
    clear hown hgw heq
    by_cases h : 128 ≤ m
    · have HB : Hid (bits BinOp.or IntKind.u8 ((m : Int) % 256) 128 = ((UInt8.ofNat (m % 128 + 128)).toNat : Nat)) := Lib.hid (by
        rw [Lib.u8_or128_any _ (by omega) (by omega), UInt8.toNat_ofNat']; omega)
      have hub := By.uv_big m h hm
      generalize UInt8.ofNat (m % 128 + 128) = c at HB hub
      have HU := Lib.hid hub
      have hlen := congrArg List.length hub
      rw [List.length_cons] at hlen
      have hr2 : r.length + 1 + (By.uv (m / 128)).length ≤ l.length + 10 := by omega
      have hr3 : r.length ≤ l.length + 10 := by omega
      clear hub hlen hr
      go_wp2_with (at_builtin; refine wp_byte _ rfl _ _ rfl B _ r rfl HOW.out _ c HB.out rfl (by omega) hsz ?_)
      intro v' w1 hown1 hg1 _
      have HO1 := Lib.hid hown1
      have HG1 := Lib.hid (HG.out.trans hg1)
      clear hown1 hg1
      go_wp2
      go_roundw
      case rel => exact ⟨m / 128, r ++ [c], by omega, by go_num, by rw [List.length_append]; exact hr2, HO1.out, HG1.out, by rw [← HE.out, HU.out, List.append_assoc]; rfl⟩
      case measure => simp [intOf]; omega
    · have hus := By.uv_small m (by omega)
      have HU := Lib.hid hus
      have hlen := congrArg List.length hus
      rw [List.length_singleton] at hlen
      have hr3 : r.length ≤ l.length + 10 := by omega
      have HM : Hid ((m : Int) = ((UInt8.ofNat m).toNat : Nat)) := Lib.hid (by rw [UInt8.toNat_ofNat']; omega)
      clear hus hlen hr
      go_wp2_with (at_builtin; refine wp_byte _ rfl _ _ rfl B _ r rfl HOW.out _ (UInt8.ofNat m) HM.out rfl (by omega) hsz ?_)
      intro v' w1 hown1 hg1 hnn
      have HO1 := Lib.hid hown1
      have HG1 := Lib.hid (HG.out.trans hg1)
      have HNN := Lib.hid hnn
      clear hown1 hg1 hnn
      go_wp2
      go_ret
      exact ⟨_, rfl, by rw [← HE.out, HU.out]; exact HO1.out, HG1.out, fun _ => HNN.out⟩
end Go.Proofs.Ytndfelbgppbncaa
/- package bytes: sums, copies, by contract. -/
set_option linter.unusedVariables false
namespace Go.Proofs.Ytndfelbgppbncaa
open Go.RowKit
/-- what a slice of bytes reads as -/
def Rd (w : World) (ba : Option Addr) (l : List UInt8) : Prop := l = [] ∨ ∃ b o, ba = some (⟨b, o, none⟩ : Addr) ∧ b < w.heap.size ∧ ∀ i (h : i < l.length), w.cell? ⟨b, o + i, none⟩ = some (.int .u8 (l[i].toNat : Nat))
theorem Rd.below {w w' : World} {ba : Option Addr} {l : List UInt8} (h : Rd w ba l) (hb : Below w.heap.size w w') : Rd w' ba l := by
  rcases h with h | ⟨b, o, e, hlt, hc⟩
  · exact Or.inl h
  · refine Or.inr ⟨b, o, e, Nat.lt_of_lt_of_le hlt hb.size, fun i hi => ?_⟩
    rw [hb.cell (p := ⟨b, o + i, none⟩) hlt]; exact hc i hi
theorem Rd.take {w : World} {ba : Option Addr} {l : List UInt8} (h : Rd w ba l) (n : Nat) : Rd w ba (l.take n) := by
  rcases h with h | ⟨b, o, e, hlt, hc⟩
  · exact Or.inl (by rw [h]; simp)
  · refine Or.inr ⟨b, o, e, hlt, fun i hi => ?_⟩
    rw [List.length_take] at hi
    rw [hc i (by omega), List.getElem_take]
theorem Rd.drop {w : World} {b o : Nat} {l : List UInt8} (h : Rd w (some ⟨b, o, none⟩) l) (n : Nat) : Rd w (some ⟨b, o + n, none⟩) (l.drop n) := by
  rcases h with h | ⟨b, o, e, hlt, hc⟩
  · exact Or.inl (by rw [h]; simp)
  · cases e
    refine Or.inr ⟨b, o + n, rfl, hlt, fun i hi => ?_⟩
    rw [List.length_drop] at hi
    rw [Nat.add_assoc, hc (n + i) (by omega), List.getElem_drop]
theorem bits_xor_u32 (x y : Nat) (hx : x < 4294967296) (hy : y < 4294967296) : bits .xor .u32 (x : Int) (y : Int) = ((x ^^^ y : Nat) : Int) := by
  have hz : x ^^^ y < 2 ^ 32 := Nat.xor_lt_two_pow hx hy
  have e1 : (BitVec.ofInt 32 (x : Int)).toNat = x := by rw [BitVec.toNat_ofInt]; omega
  have e2 : (BitVec.ofInt 32 (y : Int)).toNat = y := by rw [BitVec.toNat_ofInt]; omega
  show IntKind.u32.wrap ((BitVec.ofInt 32 (x : Int) ^^^ BitVec.ofInt 32 (y : Int)).toNat : Int) = _
  rw [BitVec.toNat_xor, e1, e2, wraps_u32 _ (by omega) (by omega)]
theorem u32_and1 (x : Int) (h₀ : 0 ≤ x) (h₁ : x < 4294967296) : bits .and .u32 x 1 = x % 2 := by
  have h := bits_mask .u32 32 (by decide) wraps_u32 1 (by decide) x h₀ (by omega)
  simpa using h
theorem u32_and_const0 : bits .and .u32 3988292384 0 = 0 := by decide
theorem u32_and_const1 : bits .and .u32 3988292384 4294967295 = 3988292384 := by decide
theorem xor_ones32 (b : Nat) (hb : b < 2 ^ 32) : (2 ^ 32 - 1) ^^^ b = 2 ^ 32 - 1 - b := by
  apply Nat.eq_of_testBit_eq
  intro i
  rw [Nat.testBit_xor, Nat.testBit_two_pow_sub_one, show 2 ^ 32 - 1 - b = 2 ^ 32 - (b + 1) by omega, Nat.testBit_two_pow_sub_succ hb]
  by_cases hi : i < 32
  · simp [hi]
  · have : b.testBit i = false := Nat.testBit_lt_two_pow (Nat.lt_of_lt_of_le hb (Nat.pow_le_pow_right (by decide) (by omega)))
    simp [hi, this]
theorem u32_not (c : Nat) (h : c < 4294967296) : bits .xor .u32 IntKind.u32.max (c : Int) = ((4294967295 - c : Nat) : Int) := by
  rw [show IntKind.u32.max = ((4294967295 : Nat) : Int) from by decide, bits_xor_u32 _ _ (by decide) h]
  have := xor_ones32 c h
  rw [show (2 : Nat) ^ 32 - 1 = 4294967295 from by decide] at this
  rw [this]
def crcI : Nat → Nat → Nat
  | 0, c => c
  | q + 1, c => By.crc1 (crcI q c)
theorem crcI_lt (q c : Nat) (h : c < 4294967296) : crcI q c < 4294967296 := by
  induction q with
  | zero => exact h
  | succ q ih => exact By.crc1_lt _ ih
theorem crc_take (l : List UInt8) (j : Nat) (h : j < l.length) : By.crcF 4294967295 (l.take (j + 1)) = By.crc8 (By.crcF 4294967295 (l.take j) ^^^ l[j].toNat) := by
  rw [List.take_succ_eq_append_getElem h, By.crcF_snoc]; rfl
theorem ret_int {k : IntKind} {a b : Int} (h : a = b) : Ending.returned (.int k a) = .returned (.int k b) := by rw [h]
set_option maxHeartbeats 1600000 in
set_option maxRecDepth 100000 in
theorem crc_any (ba : Option Addr) (n cap : Nat) (l : List UInt8) (w : World) (hn : l.length = n) (hr : Rd w ba l) (hl : n ≤ 1099511627776) :
    Calls Try.prog 83 #[.slice ba n cap] w fun e w' => e = .returned (.int .u32 (By.crc l)) ∧ w = w' := by
  subst hn
  have HR := Lib.hid hr
  clear hr
  go_enter Try.func83, Try.ntmps83
  go_wp2
  go_loop [3, 8] (fun c i => ∃ j : Nat, j ≤ l.length ∧ i = .int .i64 j ∧ c = .int .u32 (By.crcF 4294967295 (l.take j))) (fun _ i => l.length - (intOf i).toNat)
  case atStart => exact ⟨0, Nat.zero_le _, rfl, rfl⟩
  case round =>
    obtain ⟨j, hj, rfl, rfl⟩ := hrel
    have hcl := By.crcF_lt (l.take j) 4294967295 (by omega)
    by_cases hlt : j < l.length
    · have hct := crc_take l j hlt
      obtain ⟨b, o, rfl, hbs, hcell⟩ : ∃ b o, ba = some (⟨b, o, none⟩ : Addr) ∧ b < w.heap.size ∧ ∀ i (h : i < l.length), w.cell? ⟨b, o + i, none⟩ = some (.int .u8 (l[i].toNat : Nat)) := by
        rcases HR.out with h | h
        · rw [h] at hlt; simp at hlt
        · exact h
      have hc1 := hcell j hlt
      have hxb : l[j].toNat < 256 := l[j].toNat_lt
      generalize l[j] = x at hc1 hct hxb
      generalize By.crcF 4294967295 (l.take j) = c at hcl hct
      have hx1 := bits_xor_u32 c x.toNat hcl (by omega)
      have hx2 : c ^^^ x.toNat < 4294967296 := Nat.xor_lt_two_pow (n := 32) hcl (by omega)
      generalize c ^^^ x.toNat = d at hct hx1 hx2
      have HCT := Lib.hid hct
      clear hct hcell
      go_wp2
      go_loop [3, 16] (fun c i => ∃ q : Nat, q ≤ 8 ∧ i = .int .i64 q ∧ c = .int .u32 (crcI q d)) (fun _ i => 8 - (intOf i).toNat)
      case atStart => exact ⟨0, by omega, rfl, rfl⟩
      case round =>
        obtain ⟨q, hq, rfl, rfl⟩ := hrel
        have hci := crcI_lt q d hx2
        by_cases hq8 : q < 8
        · have hst : crcI (q + 1) d = By.crc1 (crcI q d) := rfl
          generalize crcI q d = m at hci hst
          unfold By.crc1 at hst
          have ha := u32_and1 (m : Int) (by omega) (by omega)
          by_cases h2 : m % 2 = 1
          · rw [if_pos h2] at hst
            have hm2 : (m : Int) % 2 = 1 := by omega
            rw [hm2] at ha
            have hk := u32_and_const1
            have hxx : bits .xor .u32 ((m : Int) / 2) 3988292384 = ((m / 2 ^^^ 3988292384 : Nat) : Int) := bits_xor_u32 (m / 2) 3988292384 (by omega) (by omega)
            have hwn : IntKind.u32.wrap (-1) = 4294967295 := by decide
            have HST := Lib.hid hst
            clear hst
            go_wp2
            go_round
            case rel => exact ⟨q + 1, by omega, by go_num, by rw [HST.out]⟩
            case measure => simp [intOf]; omega
          · rw [if_neg h2] at hst
            have hm2 : (m : Int) % 2 = 0 := by omega
            rw [hm2] at ha
            have hk := u32_and_const0
            have hxx : bits .xor .u32 ((m : Int) / 2) 0 = ((m / 2 ^^^ 0 : Nat) : Int) := bits_xor_u32 (m / 2) 0 (by omega) (by omega)
            have HST := Lib.hid hst
            clear hst
            go_wp2
            go_round
            case rel => exact ⟨q + 1, by omega, by go_num, by rw [HST.out, Nat.xor_zero]; go_num⟩
            case measure => simp [intOf]; omega
        · obtain rfl : q = 8 := by omega
          go_wp2
          go_round
          case rel => exact ⟨j + 1, by omega, by go_num, by rw [HCT.out]; rfl⟩
          case measure => simp [intOf]; omega
    · obtain rfl : j = l.length := by omega
      rw [List.take_length] at hcl ⊢
      have hcc : By.crc l = 4294967295 - By.crcF 4294967295 l := rfl
      generalize By.crcF 4294967295 l = c at hcl hcc
      have HC := Lib.hid hcc
      have HX := Lib.hid (u32_not c hcl)
      clear hcc
      go_wp2
      go_ret
      exact ⟨ret_int (by rw [HC.out, HX.out]), rfl⟩
end Go.Proofs.Ytndfelbgppbncaa
/- package bytes: copies, four bytes, by contract. -/
set_option linter.unusedVariables false
namespace Go.Proofs.Ytndfelbgppbncaa
open Go.RowKit
theorem addPl (B o j : Nat) : (⟨B, o, none⟩ : Addr).add j = ⟨B, o + j, none⟩ := by
  unfold Addr.add
  split
  · subst_vars; rfl
  · rfl
theorem cells_new (w : World) (vs : Array Value) (T : TypeId) (b : Nat) (hb : b = w.heap.size) (j : Nat) (u : Value) (h : vs[j]? = some u) : (w.alloc (.cells vs T)).cell? ((⟨b, 0, none⟩ : Addr).add j) = some u := by
  subst hb
  rw [addPl, Nat.zero_add]
  have hb : (w.alloc (.cells vs T)).heap[w.heap.size]? = some (.cells vs T) := heap_alloc_new _ _
  simp only [World.cell?, hb]; simp [h]
/-- a copy in memory of its own -/
def ClPost (ba : Option Addr) (l : List UInt8) (w : World) (e : Ending) (w' : World) : Prop := ∃ v', e = .returned v' ∧ Ow w' w.heap.size v' l ∧ Below w.heap.size w w' ∧ (v' = .slice none 0 0 ↔ ba = none)
set_option maxHeartbeats 1600000 in
set_option maxRecDepth 100000 in
theorem clone_any (ba : Option Addr) (n cap : Nat) (l : List UInt8) (w : World) (hn : l.length = n) (hr : Rd w ba l) (hb : ba = none → n = 0) (hl : n ≤ 1099511627776) :
    Calls Try.prog 82 #[.slice ba n cap] w (ClPost ba l w) := by
  subst hn
  have q22 : ∀ (w : World) (a : Option Addr) (n c n' c' : Nat), (binOp .eql 25 (.slice a n c) (.slice none n' c')).run Try.prog w = .ok (.bool a.isNone) w := fun w a n c n' c' => Lib.run_eql_slice_nil w _ _ a n c n' c' Try.underlying25
  obtain ⟨i0, hi, hz0, hz1, hz2⟩ := info_parts Try.info_u8
  have HR := Lib.hid hr
  clear hr
  cases ba with
  | none =>
    have h0 := hb rfl
    have hl0 : l = [] := List.eq_nil_of_length_eq_zero h0
    have HL := Lib.hid hl0
    clear h0 hl0 hb
    go_enter Try.func82, Try.ntmps82
    go_wp2
    go_ret
    exact ⟨_, rfl, by rw [HL.out]; exact Ow.nil _ _, Below.refl _ _, Iff.intro (fun _ => rfl) (fun _ => rfl)⟩
  | some a0 =>
    clear hb
    go_enter Try.func82, Try.ntmps82
    go_wp2_with (at_builtin; refine wpList_append_gw _ rfl _ _ 25 rfl w.heap.size 5 i0 (.int .u8 0) 1 1 Try.underlying25 hi hz0 hz1 hz2 rfl (by decide) _ 0 [] rfl (World.ownsRow_made w #[] 0 (Nat.le_refl _) (Nat.zero_le _) rfl) a0 l.length cap (u8s l) rfl ?c0 ?c1 ?c2 ?c3 ?c4 ?c5 ?_)
    case c0 => rw [u8s_len]; omega
    case c1 =>
      intro j u hj
      have hjl : j < l.length := by have := (List.getElem?_eq_some_iff.1 hj).1; rw [u8s_len] at this; exact this
      rcases HR.out with h | ⟨b, o, e, hlt, hc⟩
      · rw [h] at hjl; simp at hjl
      · cases e
        rw [Addr.add_lit]
        rw [((Below.refl w.heap.size w).alloc (Nat.le_refl _) _).cell (p := ⟨b, o + j, none⟩) hlt, hc j hjl, ← hj]
        unfold u8s; simp [hjl]
    case c2 => exact u8s_one l
    case c3 => unfold maxLen; omega
    case c4 => omega
    case c5 => simp
    intro v' w1 hown' hgrow hnn
    have hown1 : Ow w1 w.heap.size v' l := by unfold Ow; simpa using hown'
    have hb1 : Below w.heap.size w w1 := ((Below.refl _ w).alloc (Nat.le_refl _) _).grown hgrow.grown (by simp) (by intro k hk; simp [Value.ownBlock] at hk; omega)
    have hnn1 : v' ≠ .slice none 0 0 := hnn
    have HO1 := Lib.hid hown1
    have HB1 := Lib.hid hb1
    have HN1 := Lib.hid hnn1
    clear hown' hgrow hnn hown1 hb1 hnn1
    go_wp2
    go_ret
    exact ⟨_, rfl, HO1.out, HB1.out, Iff.intro (fun e => absurd e HN1.out) (fun e => by cases e)⟩
set_option maxHeartbeats 1600000 in
set_option maxRecDepth 100000 in
theorem four_any (B : Nat) (v : Value) (l : List UInt8) (n : Nat) (w : World) (hn : n < 4294967296) (ho : Ow w B v l) (hB : B ≤ w.heap.size) (hl : l.length ≤ 1099511627776) :
    Calls Try.prog 81 #[v, .int .u32 n] w (OwPost B v (l ++ By.be4 n) w) := by
  obtain ⟨i0, hi, hz0, hz1, hz2⟩ := info_parts Try.info_u8
  have HO := Lib.hid ho
  clear ho
  go_enter Try.func81, Try.ntmps81
  have hbe : [Value.int .u8 ((n : Int) / 16777216), .int .u8 ((n : Int) / 65536 % 256), .int .u8 ((n : Int) / 256 % 256), .int .u8 ((n : Int) % 256)] = u8s (By.be4 n) := by
    unfold u8s By.be4
    simp only [List.map_cons, List.map_nil, UInt8.toNat_ofNat']
    congr 2
    · omega
  have HBE := Lib.hid hbe
  clear hbe
  go_wp2_with (at_builtin; refine wpList_append_gw _ rfl _ _ 25 rfl B 5 i0 (.int .u8 0) 1 1 Try.underlying25 hi hz0 hz1 hz2 rfl (by decide) _ l.length (u8s l) rfl (HO.out.alloc _) ⟨w.heap.size, 0, none⟩ 4 4 [.int .u8 ((n : Int) / 16777216), .int .u8 ((n : Int) / 65536 % 256), .int .u8 ((n : Int) / 256 % 256), .int .u8 ((n : Int) % 256)] rfl rfl ?c1 ?c2 ?c3 ?c4 ?c5 ?_)
  case c1 =>
    intro j u hj
    exact cells_new _ #[.int .u8 ((n : Int) / 16777216), .int .u8 ((n : Int) / 65536 % 256), .int .u8 ((n : Int) / 256 % 256), .int .u8 ((n : Int) % 256)] _ _ rfl j u (by simpa using hj)
  case c2 => rw [HBE.out]; exact u8s_one _
  case c3 => unfold maxLen; omega
  case c4 => omega
  case c5 => simp; omega
  intro v' w1 hown' hgrow hnn
  have hown1 : Ow w1 B v' (l ++ By.be4 n) := by
    rw [HBE.out] at hown'
    unfold Ow; rw [u8s_app, List.length_append]; exact hown'
  have hg1 := Gw.of ((Below.refl _ w).alloc (Nat.le_refl _) _) hgrow (fun i hi => (HO.out.lt i hi).2)
  have HO1 := Lib.hid hown1
  have HG1 := Lib.hid hg1
  have HN1 : Hid (v' ≠ .slice none 0 0) := Lib.hid (by simpa using hnn)
  clear hown' hgrow hnn hown1 hg1
  go_wp2
  go_ret
  exact ⟨_, rfl, HO1.out, HG1.out, fun _ => HN1.out⟩
end Go.Proofs.Ytndfelbgppbncaa
/- package bytes: sealed bytes, by contract. -/
set_option linter.unusedVariables false
namespace Go.Proofs.Ytndfelbgppbncaa
open Go.RowKit
theorem be_or (a b c d : Nat) (ha : a < 256) (hb : b < 256) (hc : c < 256) (hd : d < 256) :
    bits .or .u32 ((a : Int) * 16777216) ((b : Int) * 65536) = (a : Int) * 16777216 + (b : Int) * 65536 ∧
    bits .or .u32 ((a : Int) * 16777216 + (b : Int) * 65536) ((c : Int) * 256) = (a : Int) * 16777216 + (b : Int) * 65536 + (c : Int) * 256 ∧
    bits .or .u32 ((a : Int) * 16777216 + (b : Int) * 65536 + (c : Int) * 256) (d : Int) = (a : Int) * 16777216 + (b : Int) * 65536 + (c : Int) * 256 + (d : Int) := by
  refine ⟨?_, ?_, ?_⟩
  · exact bits_join .u32 32 (by decide) wraps_u32 24 _ _ (by omega) (by omega) (by omega) (by omega) (by omega) (by omega)
  · exact bits_join .u32 32 (by decide) wraps_u32 16 _ _ (by omega) (by omega) (by omega) (by omega) (by omega) (by omega)
  · exact bits_join .u32 32 (by decide) wraps_u32 8 _ _ (by omega) (by omega) (by omega) (by omega) (by omega) (by omega)
set_option maxHeartbeats 1600000 in
set_option maxRecDepth 100000 in
theorem number_any (b o cap : Nat) (l : List UInt8) (w : World) (hl : l.length = 4) (hr : ∀ i (h : i < l.length), w.cell? ⟨b, o + i, none⟩ = some (.int .u8 (l[i].toNat : Nat))) :
    Calls Try.prog 84 #[.slice (some ⟨b, o, none⟩) 4 cap] w fun e w' => e = .returned (.int .u32 (By.num4 l)) ∧ ∃ n, w' = w.drewN n := by
  match l, hl with
  | [x0, x1, x2, x3], _ =>
    have h0 := hr 0 (by simp)
    have h1 := hr 1 (by simp)
    have h2 := hr 2 (by simp)
    have h3 := hr 3 (by simp)
    simp only [List.getElem_cons_zero, List.getElem_cons_succ, Nat.add_zero] at h0 h1 h2 h3
    have b0 : x0.toNat < 256 := x0.toNat_lt
    have b1 : x1.toNat < 256 := x1.toNat_lt
    have b2 : x2.toNat < 256 := x2.toNat_lt
    have b3 : x3.toNat < 256 := x3.toNat_lt
    have hv : (By.num4 [x0, x1, x2, x3] : Int) = (x0.toNat : Int) * 16777216 + (x1.toNat : Int) * 65536 + (x2.toNat : Int) * 256 + (x3.toNat : Int) := by
      unfold By.num4; simp only [List.foldl_cons, List.foldl_nil]; omega
    generalize By.num4 [x0, x1, x2, x3] = N at hv
    have HV := Lib.hid hv
    obtain ⟨o1, o2, o3⟩ := be_or x0.toNat x1.toNat x2.toNat x3.toNat b0 b1 b2 b3
    clear hr hv
    go_enter Try.func84, Try.ntmps84
    go_wp2
    go_quiet (fail)
    go_wp2
    go_ret
    exact ⟨ret_int (by rw [HV.out]), _, rfl⟩
theorem belowN {B : Nat} {a w : World} (h : Below B a w) (n : Nat) : Below B a (w.drewN n) := h.trans ⟨rfl, rfl, rfl, Nat.le_refl _, fun _ _ => rfl⟩
theorem quiet_flip {P : Program} {f : FuncId} {args : Array Value} {w : World} {v : Value} (h : Calls P f args w fun e w' => e = .returned v ∧ w = w') : Calls P f args w fun e w' => e = .returned v ∧ w' = w := h.mono fun _ _ ⟨a, b⟩ => ⟨a, b.symm⟩
/-- a row of its own, told whole -/
def NewPost (l : List UInt8) (w : World) (e : Ending) (w' : World) : Prop := ∃ v', e = .returned v' ∧ Ow w' w.heap.size v' l ∧ Below w.heap.size w w' ∧ v' ≠ .slice none 0 0
theorem Ow.mono {w : World} {B B' : Nat} {v : Value} {l : List UInt8} (h : Ow w B v l) (hB : B' ≤ B) : Ow w B' v l := by
  refine ⟨h.1, ?_⟩
  rcases h.2 with h1 | ⟨g, cap, cur, h1, h2, h3⟩
  · exact Or.inl h1
  · exact Or.inr ⟨g, cap, cur, h1, Nat.le_trans hB h2, h3⟩
set_option maxHeartbeats 1600000 in
set_option maxRecDepth 100000 in
theorem seal_any (ba : Option Addr) (n cap : Nat) (l : List UInt8) (w : World) (hn : l.length = n) (hr : Rd w ba l) (hb : ba = none → n = 0) (hl : n ≤ 1099511627776) :
    Calls Try.prog 75 #[.slice ba n cap] w (NewPost (By.shut l) w) := by
  have HR := Lib.hid hr
  have HN := Lib.hid hn
  have C1 := Lib.hid (clone_any ba n cap l w hn hr hb hl)
  have hcrc := By.crc_lt l
  clear hr hn hb
  go_enter Try.func75, Try.ntmps75
  go_wp2_with fail
  with_reducible refine (C1.out).mono ?_
  rintro e w1 ⟨v1, rfl, ho, hb1, hnn⟩
  have HO := Lib.hid ho
  have HB := Lib.hid hb1
  clear ho hb1 hnn
  go_wp2_with fail
  with_reducible refine (crc_any ba n cap l _ HN.out (HR.out.below HB.out) hl).mono ?_
  rintro e w2 ⟨rfl, rfl⟩
  go_wp2_with fail
  with_reducible refine (four_any w.heap.size v1 l (By.crc l) _ hcrc HO.out HB.out.size (by rw [HN.out]; exact hl)).mono ?_
  rintro e w2 ⟨v2, rfl, ho2, hg2, hn2⟩
  have HO2 := Lib.hid ho2
  have HB2 := Lib.hid (hg2.less HB.out HB.out.size (fun i hi => (HO.out.lt i hi).1))
  have HN2 : Hid (v2 ≠ .slice none 0 0) := Lib.hid (hn2 (by unfold By.be4; simp))
  clear ho2 hg2 hn2
  go_wp2
  go_ret
  exact ⟨_, rfl, HO2.out, HB2.out, HN2.out⟩
/-- a result that is a row of its own, and an error -/
def NewErr (l : List UInt8) (er : Nat) (w : World) (e : Ending) (w' : World) : Prop := ∃ v', e = .returned (.tuple #[v', .int .i64 er]) ∧ Ow w' w.heap.size v' l ∧ Below w.heap.size w w'
set_option maxHeartbeats 1600000 in
set_option maxRecDepth 100000 in
theorem unseal_any (ba : Option Addr) (n cap : Nat) (l : List UInt8) (w : World) (hn : l.length = n) (hr : Rd w ba l) (hb : ba = none → n = 0) (hl : n ≤ 1099511627776) (hc : n ≤ cap) :
    Calls Try.prog 77 #[.slice ba n cap] w (NewErr (By.opn l).1 (By.opn l).2 w) := by
  have HR := Lib.hid hr
  have HN := Lib.hid hn
  by_cases h4 : n < 4
  · have ho : By.opn l = ([], 11) := by unfold By.opn; rw [if_pos (by omega)]
    rw [ho]
    clear hr hn hb ho
    go_enter Try.func77, Try.ntmps77
    go_wp2
    go_ret2
    exact ⟨_, rfl, Ow.nil _ _, Below.refl _ _⟩
  · obtain ⟨m, rfl⟩ : ∃ m, n = m + 4 := ⟨n - 4, by omega⟩
    obtain ⟨b, o, rfl, hlt, hcell⟩ : ∃ b o, ba = some (⟨b, o, none⟩ : Addr) ∧ b < w.heap.size ∧ ∀ i (h : i < l.length), w.cell? ⟨b, o + i, none⟩ = some (.int .u8 (l[i].toNat : Nat)) := by
      rcases hr with h | h
      · rw [h] at hn; simp at hn
      · exact h
    have hR : ∀ k, Rd (w.drewN k) (some ⟨b, o, none⟩) (l.take m) := fun k => Rd.below (Rd.take HR.out m) (belowN (Below.refl _ _) k)
    have hnum := fun k => number_any b (o + m) (cap - m) (l.drop m) (w.drewN k) (by rw [List.length_drop]; omega) (fun i h => by
      rw [List.length_drop] at h
      rw [(belowN (Below.refl w.heap.size w) k).cell (p := ⟨b, o + m + i, none⟩) hlt, Nat.add_assoc, hcell (m + i) (by omega), List.getElem_drop])
    have hcr := fun k => quiet_flip (crc_any (some ⟨b, o, none⟩) m cap (l.take m) (w.drewN k) (by rw [List.length_take]; omega) (hR k) (by omega))
    have hcl := fun k => clone_any (some ⟨b, o, none⟩) m cap (l.take m) (w.drewN k) (by rw [List.length_take]; omega) (hR k) (fun h => by cases h) (by omega)
    have hop : By.opn l = if By.num4 (l.drop m) = By.crc (l.take m) then (l.take m, 0) else ([], 12) := by
      unfold By.opn; rw [if_neg (by omega), hn, Nat.add_sub_cancel]
    generalize By.num4 (l.drop m) = N1 at hnum hop
    generalize By.crc (l.take m) = N2 at hcr hop
    have HC1 := Lib.hid hnum
    have HC2 := Lib.hid hcr
    have HC3 := Lib.hid hcl
    have hm1 : m ≤ cap := by omega
    have hm2 : ¬ cap = m := by omega
    clear hnum hcr hcl hcell hr hn hb hR
    by_cases hs : N1 = N2
    · rw [if_pos hs] at hop
      have HOP := Lib.hid hop
      have hs1 : ((N1 : Int) != (N2 : Int)) = false := by simp [hs]
      clear hop hs
      go_enter Try.func77, Try.ntmps77
      go_wp2_with fail
      go_quiet ((first | (go_at_call 84; exact Calls.quiet_of (HC1.out _)) | (go_at_call 83; exact Calls.quiet_of_same (HC2.out _))))
      go_wp2_with fail
      with_reducible refine (HC3.out _).mono ?_
      rintro e w2 ⟨v2, rfl, ho2, hb2, _⟩
      have HO2 := Lib.hid ho2
      have HB2 := Lib.hid ((belowN (Below.refl w.heap.size w) nq).trans hb2)
      clear ho2 hb2
      go_wp2
      go_ret2
      exact ⟨v2, by rw [HOP.out]; rfl, by rw [HOP.out]; exact HO2.out, HB2.out⟩
    · rw [if_neg hs] at hop
      have HOP := Lib.hid hop
      have hs1 : ((N1 : Int) != (N2 : Int)) = true := by rw [bne_iff_ne]; omega
      clear hop hs
      go_enter Try.func77, Try.ntmps77
      go_wp2_with fail
      go_quiet ((first | (go_at_call 84; exact Calls.quiet_of (HC1.out _)) | (go_at_call 83; exact Calls.quiet_of_same (HC2.out _))))
      go_wp2
      go_ret2
      exact ⟨_, by rw [HOP.out]; rfl, by rw [HOP.out]; exact Ow.nil _ _, belowN (Below.refl _ _) _⟩
end Go.Proofs.Ytndfelbgppbncaa
/- package bytes: numbers and blobs that are got, by contract. -/
set_option linter.unusedVariables false
namespace Go.Proofs.Ytndfelbgppbncaa
open Go.RowKit
/-- what GetUint tells of what stands at a place -/
def GuPost (l : List UInt8) (at' : Nat) (w : World) (e : Ending) (w' : World) : Prop :=
  e = .returned (.tuple #[.int .u64 (if (By.gu (l.drop at')).2.2 = 0 then (By.gu (l.drop at')).1 else 0 : Nat), .int .i64 (if (By.gu (l.drop at')).2.2 = 0 then at' + (By.gu (l.drop at')).2.1 else 0 : Nat), .int .i64 (By.gu (l.drop at')).2.2]) ∧ w = w'
theorem gu_post {l : List UInt8} {at' n c er : Nat} {w : World} (h : By.gu (l.drop at') = (n, c, er)) (hz : er ≠ 0 → n = 0) : GuPost l at' w (.returned (.tuple #[.int .u64 n, .int .i64 (if er = 0 then at' + c else 0 : Nat), .int .i64 er])) w := by
  unfold GuPost
  rw [h]
  refine ⟨?_, rfl⟩
  by_cases he : er = 0
  · simp only [if_pos he]
  · simp only [if_neg he]; rw [hz he]
theorem p7 (j : Nat) : (128 : Nat) ^ j = 2 ^ (7 * j) := by rw [Nat.pow_mul]
theorem acc_lt (acc y j : Nat) (h : acc < 2 ^ (7 * j)) (hy : y < 128) : acc + y * 128 ^ j < 2 ^ (7 * (j + 1)) := by
  rw [← p7] at h ⊢
  rw [Nat.pow_succ, Nat.mul_comm (128 ^ j)]
  have : y * 128 ^ j ≤ 127 * 128 ^ j := Nat.mul_le_mul_right _ (by omega)
  omega
theorem or_step (acc y j : Nat) (hj : j ≤ 9) (h : acc < 2 ^ (7 * j)) (hy : y < 128) (h9 : j = 9 → y ≤ 1) :
    bits .or .u64 (acc : Int) (IntKind.u64.wrap ((y : Int) * 2 ^ (7 * j))) = ((acc + y * 128 ^ j : Nat) : Int) := by
  have hp : ((2 : Int) ^ (7 * j)) = ((2 ^ (7 * j) : Nat) : Int) := by rw [Int.natCast_pow]; rfl
  have hq : (2 : Nat) ^ (7 * j) ≤ 9223372036854775808 := by
    have := Nat.pow_le_pow_right (show 0 < 2 by decide) (show 7 * j ≤ 63 by omega)
    exact Nat.le_trans this (by decide)
  have hyx : y * 2 ^ (7 * j) < 18446744073709551616 := by
    by_cases e : j = 9
    · have := Nat.mul_le_mul_right (2 ^ (7 * j)) (h9 e); omega
    · have h2 : (2 : Nat) ^ (7 * j) ≤ 72057594037927936 := by
        have := Nat.pow_le_pow_right (show 0 < 2 by decide) (show 7 * j ≤ 56 by omega)
        exact Nat.le_trans this (by decide)
      have := Nat.mul_le_mul (show y ≤ 127 by omega) h2
      omega
  rw [hp, ← Int.natCast_mul, wraps_u64 _ (by omega) (by omega)]
  rw [bits_join_low .u64 64 (by decide) wraps_u64 (7 * j) _ _ (by omega) (by rw [hp]; omega) (by omega) (by omega) (by rw [hp, ← Int.natCast_emod, Nat.mul_mod_left]; rfl) (by omega), p7]
  omega
set_option maxHeartbeats 1600000 in
set_option maxRecDepth 100000 in
theorem getUint_any (ba : Option Addr) (n cap : Nat) (l : List UInt8) (at' : Nat) (w : World) (hn : l.length = n) (hr : Rd w ba l) (ha : at' ≤ n) (hl : n ≤ 1099511627776) :
    Calls Try.prog 78 #[.slice ba n cap, .int .i64 at'] w (GuPost l at' w) := by
  have HR := Lib.hid hr
  have HN := Lib.hid hn
  have b1 : ¬ (n : Int) < (at' : Int) := by omega
  clear hr hn
  go_enter Try.func78, Try.ntmps78
  go_wp2_with fail
  go_loop [7, 18] (fun nv iv => ∃ j acc : Nat, j ≤ 9 ∧ at' + j ≤ n ∧ iv = .int .i64 j ∧ nv = .int .u64 acc ∧ acc < 2 ^ (7 * j) ∧ By.gu (l.drop at') = By.guF j acc (l.drop (at' + j))) (fun _ i => 10 - (intOf i).toNat)
  case atStart => exact ⟨0, 0, by omega, by omega, rfl, rfl, by decide, rfl⟩
  case round =>
    obtain ⟨j, acc, hj, haj, rfl, rfl, hacc, hgu⟩ := hrel
    have HG := Lib.hid hgu
    have HACC := Lib.hid hacc
    clear hgu hacc
    by_cases hend : at' + j = n
    · have hfin : By.gu (l.drop at') = (0, 0, 11) := by
        rw [HG.out, List.drop_of_length_le (by have := HN.out; omega)]; rfl
      have HF := Lib.hid hfin
      have k1 : ((at' : Int) + (j : Int) == (n : Int)) = true := beqI (by omega)
      clear hfin
      go_wp2
      go_ret3
      exact gu_post HF.out (fun _ => rfl)
    · obtain ⟨b, o, rfl, hlt, hcell⟩ : ∃ b o, ba = some (⟨b, o, none⟩ : Addr) ∧ b < w.heap.size ∧ ∀ i (h : i < l.length), w.cell? ⟨b, o + i, none⟩ = some (.int .u8 (l[i].toNat : Nat)) := by
        rcases HR.out with h | h
        · have := HN.out; rw [h] at this; simp at this; omega
        · exact h
      have hlt2 : at' + j < l.length := by have := HN.out; omega
      have hc1 := hcell (at' + j) hlt2
      have hdr := List.drop_eq_getElem_cons hlt2
      have hx : l[at' + j].toNat < 256 := l[at' + j].toNat_lt
      generalize l[at' + j] = x at hc1 hdr hx
      have hgu2 := HG.out
      rw [hdr] at hgu2
      unfold By.guF at hgu2
      have k1 : ((at' : Int) + (j : Int) == (n : Int)) = false := bneI (by omega)
      clear hcell hdr
      by_cases hbad : (j = 9 ∧ 1 < x.toNat) ∨ (x.toNat = 0 ∧ 0 < j)
      · rw [if_pos hbad] at hgu2
        have HF := Lib.hid hgu2
        clear hgu2
        by_cases h9 : j = 9 ∧ 1 < x.toNat
        · obtain ⟨rfl, h1⟩ := h9
          have i1 : (1 : Int) < (x.toNat : Int) := by omega
          clear hbad
          go_wp2
          go_ret3
          exact gu_post HF.out (fun _ => rfl)
        · obtain ⟨h0, h1⟩ : x.toNat = 0 ∧ 0 < j := by omega
          have i1 : (((x.toNat : Nat) : Int) == 0) = true := beqI (by omega)
          have i2 : decide ((1 : Int) < (x.toNat : Int)) = false := by simp; omega
          clear hbad h9
          by_cases h9 : j = 9
          · subst h9
            go_wp2
            go_ret3
            exact gu_post HF.out (fun _ => rfl)
          · have i3 : ((j : Int) == 9) = false := bneI (by omega)
            go_wp2
            go_ret3
            exact gu_post HF.out (fun _ => rfl)
      · rw [if_neg hbad] at hgu2
        have hcase : (j = 9 ∧ x.toNat = 1) ∨ (j = 0 ∧ x.toNat = 0) ∨ (¬ j = 9 ∧ ¬ x.toNat = 0) := by omega
        have ham : bits .and .u8 ((x.toNat : Nat) : Int) 127 = (x.toNat : Int) % 128 := u8_and127 _ (by omega) (by omega)
        have hor := or_step acc (x.toNat % 128) j hj HACC.out (by omega) (by omega)
        have hlt' : acc + x.toNat % 128 * 128 ^ j < 2 ^ (7 * (j + 1)) := acc_lt acc (x.toNat % 128) j HACC.out (by omega)
        rw [Int.natCast_emod, show ((128 : Nat) : Int) = 128 from rfl] at hor
        generalize acc + x.toNat % 128 * 128 ^ j = A at hgu2 hor hlt'
        have HLT := Lib.hid hlt'
        clear hlt'
        by_cases h128 : x.toNat < 128
        · rw [if_pos h128] at hgu2
          have HF := Lib.hid hgu2
          clear hgu2
          rcases hcase with ⟨h9, h1⟩ | ⟨h9, h1⟩ | ⟨h9, h1⟩
          · have i3 : ((j : Int) == 9) = true := beqI (by omega)
            have i4 : (((x.toNat : Nat) : Int) == 0) = false := bneI (by omega)
            have i2 : decide ((1 : Int) < (x.toNat : Int)) = false := by simp; omega
            clear hbad h1 h9
            go_wp2
            go_ret3
            exact gu_post HF.out (fun h => absurd rfl h)
          · have i3 : ((j : Int) == 9) = false := bneI (by omega)
            have i4 : (((x.toNat : Nat) : Int) == 0) = true := beqI (by omega)
            have i2 : decide (0 < j) = false := by simp; omega
            have i5 : ¬ 0 < j := by omega
            clear hbad h1 h9
            go_wp2
            go_ret3
            exact gu_post HF.out (fun h => absurd rfl h)
          · have i3 : ((j : Int) == 9) = false := bneI (by omega)
            have i4 : (((x.toNat : Nat) : Int) == 0) = false := bneI (by omega)
            clear hbad h1 h9
            go_wp2
            go_ret3
            exact gu_post HF.out (fun h => absurd rfl h)
        · have h9 : ¬ j = 9 := by omega
          rw [if_neg h128, if_neg h9] at hgu2
          have HF := Lib.hid hgu2
          have i3 : ((j : Int) == 9) = false := bneI (by omega)
          have i4 : (((x.toNat : Nat) : Int) == 0) = false := bneI (by omega)
          clear hgu2 hbad hcase
          go_wp2
          go_round
          case rel => exact ⟨j + 1, A, by omega, by omega, by go_num, rfl, HLT.out, by rw [HF.out, Nat.add_assoc]⟩
          case measure => simp [intOf]; omega
end Go.Proofs.Ytndfelbgppbncaa
/- package bytes: blobs that are got and put, by contract. -/
set_option linter.unusedVariables false
namespace Go.Proofs.Ytndfelbgppbncaa
open Go.RowKit
/-- what GetBlob tells of what stands at a place -/
def GbPost (l : List UInt8) (at' most : Nat) (w : World) (e : Ending) (w' : World) : Prop :=
  ∃ v', e = .returned (.tuple #[v', .int .i64 (if (By.getBlob most (l.drop at')).2.2 = 0 then at' + (By.getBlob most (l.drop at')).2.1 else 0 : Nat), .int .i64 (By.getBlob most (l.drop at')).2.2]) ∧ Ow w' w.heap.size v' (By.getBlob most (l.drop at')).1 ∧ Below w.heap.size w w'
theorem gb_post {l : List UInt8} {at' most c er : Nat} {w w' : World} {v : Value} {d : List UInt8} {nx : Nat} (h : By.getBlob most (l.drop at') = (d, c, er)) (hx : nx = if er = 0 then at' + c else 0) (ho : Ow w' w.heap.size v d) (hb : Below w.heap.size w w') : GbPost l at' most w (.returned (.tuple #[v, .int .i64 nx, .int .i64 er])) w' := by
  unfold GbPost
  rw [h, hx]
  exact ⟨v, rfl, ho, hb⟩
set_option maxHeartbeats 1600000 in
set_option maxRecDepth 100000 in
theorem getBlob_any (ba : Option Addr) (n cap : Nat) (l : List UInt8) (at' most : Nat) (w : World) (hn : l.length = n) (hr : Rd w ba l) (hb : ba = none → n = 0) (ha : at' ≤ n) (hc : n ≤ cap) (hl : n ≤ 1099511627776) (hm : most ≤ 1099511627776) :
    Calls Try.prog 80 #[.slice ba n cap, .int .i64 at', .int .i64 most] w (GbPost l at' most w) := by
  have c1 := getUint_any ba n cap l at' w hn hr ha hl
  have hgl := By.gu_len (l.drop at')
  have hgb : By.getBlob most (l.drop at') = if (By.gu (l.drop at')).2.2 ≠ 0 then ([], 0, (By.gu (l.drop at')).2.2) else if most < (By.gu (l.drop at')).1 then ([], 0, 3) else if (l.drop at').length - (By.gu (l.drop at')).2.1 < (By.gu (l.drop at')).1 then ([], 0, 11) else
    (((l.drop at').drop (By.gu (l.drop at')).2.1).take (By.gu (l.drop at')).1, (By.gu (l.drop at')).2.1 + (By.gu (l.drop at')).1, 0) := rfl
  unfold GuPost at c1
  generalize By.gu (l.drop at') = r at c1 hgl hgb
  obtain ⟨N, c, er⟩ := r
  simp only at c1 hgl hgb
  rw [List.length_drop, hn] at hgl hgb
  have HR := Lib.hid hr
  have HN := Lib.hid hn
  by_cases he : er = 0
  · subst he
    obtain ⟨g1, g2⟩ := hgl rfl
    rw [if_neg (by simp)] at hgb
    simp only [if_true] at c1
    have C1 := Lib.hid c1
    have hnx : at' + c ≤ n := by omega
    have hN : 0 ≤ (N : Int) := by omega
    clear c1 hr hn hgl
    by_cases h1 : most < N
    · rw [if_pos h1] at hgb
      have HG := Lib.hid hgb
      have i1 : (most : Int) < (N : Int) := by omega
      clear hgb
      go_enter Try.func80, Try.ntmps80
      go_wp2_with fail
      with_reducible refine (C1.out).mono ?_
      rintro e w1 ⟨rfl, rfl⟩
      go_wp2
      go_ret3
      exact gb_post HG.out rfl (Ow.nil _ _) (Below.refl _ _)
    · rw [if_neg h1] at hgb
      have i1 : ¬ (most : Int) < (N : Int) := by omega
      by_cases h2 : n - at' - c < N
      · rw [if_pos h2] at hgb
        have HG := Lib.hid hgb
        have i2 : (n : Int) - ((at' + c : Nat) : Int) < (N : Int) := by omega
        clear hgb
        go_enter Try.func80, Try.ntmps80
        go_wp2_with fail
        with_reducible refine (C1.out).mono ?_
        rintro e w1 ⟨rfl, rfl⟩
        go_wp2
        go_ret3
        exact gb_post HG.out rfl (Ow.nil _ _) (Below.refl _ _)
      · rw [if_neg h2, List.drop_drop] at hgb
        obtain ⟨b, o, rfl, hlt, hcell⟩ : ∃ b o, ba = some (⟨b, o, none⟩ : Addr) ∧ b < w.heap.size ∧ ∀ i (h : i < l.length), w.cell? ⟨b, o + i, none⟩ = some (.int .u8 (l[i].toNat : Nat)) := by
          rcases HR.out with h | h
          · have := HN.out; rw [h] at this; simp at this; omega
          · exact h
        have HG := Lib.hid hgb
        have hlen : ((l.drop (at' + c)).take N).length = N := by rw [List.length_take, List.length_drop, HN.out]; omega
        have i2 : ¬ (n : Int) - ((at' : Int) + (c : Int)) < (N : Int) := by omega
        clear hgb hcell
        by_cases hcap : cap = at' + c
        · obtain rfl : N = 0 := by omega
          subst hcap
          have cl := clone_any (some ⟨b, o, none⟩) 0 0 ((l.drop (at' + c)).take 0) w hlen (Or.inl rfl) (fun h => by cases h) (by omega)
          have CL := Lib.hid cl
          clear cl hlen
          go_enter Try.func80, Try.ntmps80
          go_wp2_with fail
          with_reducible refine (C1.out).mono ?_
          rintro e w1 ⟨rfl, rfl⟩
          go_wp2_with fail
          with_reducible refine (CL.out).mono ?_
          rintro e w2 ⟨v2, rfl, ho2, hb2, _⟩
          have HO2 := Lib.hid ho2
          have HB2 := Lib.hid hb2
          clear ho2 hb2
          go_wp2
          go_ret3
          exact gb_post HG.out (by rw [if_pos rfl]; omega) HO2.out HB2.out
        · have cl := clone_any (some ⟨b, o + (at' + c), none⟩) N (cap - (at' + c)) ((l.drop (at' + c)).take N) w hlen (Rd.take (Rd.drop HR.out _) _) (fun h => by cases h) (by omega)
          have CL := Lib.hid cl
          clear cl hlen
          go_enter Try.func80, Try.ntmps80
          go_wp2_with fail
          with_reducible refine (C1.out).mono ?_
          rintro e w1 ⟨rfl, rfl⟩
          go_wp2_with fail
          with_reducible refine (CL.out).mono ?_
          rintro e w2 ⟨v2, rfl, ho2, hb2, _⟩
          have HO2 := Lib.hid ho2
          have HB2 := Lib.hid hb2
          clear ho2 hb2
          go_wp2
          go_ret3
          exact gb_post HG.out (by rw [if_pos rfl]; omega) HO2.out HB2.out
  · have HG : Hid (By.getBlob most (l.drop at') = ([], 0, er)) := Lib.hid (by rw [hgb, if_pos he])
    simp only [if_neg he] at c1
    have C1 := Lib.hid c1
    have hE : ((er : Int) != 0) = true := by rw [bne_iff_ne]; omega
    clear c1 hr hn hgl hgb
    go_enter Try.func80, Try.ntmps80
    go_wp2_with fail
    with_reducible refine (C1.out).mono ?_
    rintro e w1 ⟨rfl, rfl⟩
    go_wp2
    go_ret3
    exact gb_post HG.out (by rw [if_neg he]) (Ow.nil _ _) (Below.refl _ _)
set_option maxHeartbeats 1600000 in
set_option maxRecDepth 100000 in
theorem blobPut_any (B : Nat) (v : Value) (l : List UInt8) (ba : Option Addr) (n cap : Nat) (d : List UInt8) (w : World) (hn : d.length = n) (hr : Rd w ba d) (hb : ba = none → n = 0) (ho : Ow w B v l) (hB : B ≤ w.heap.size) (hl : l.length ≤ 549755813888) (hd : n ≤ 549755813888)
    (hap : ∀ i b o, v.ownBlock = some i → ba = some (⟨b, o, none⟩ : Addr) → d ≠ [] → b ≠ i) :
    Calls Try.prog 76 #[v, .slice ba n cap] w (OwPost B v (l ++ By.blob d) w) := by
  obtain ⟨i0, hi, hz0, hz1, hz2⟩ := info_parts Try.info_u8
  have HR := Lib.hid hr
  have HN := Lib.hid hn
  have HA := Lib.hid hap
  have HBA := Lib.hid hb
  have c1 := uint_any B v l n w (by omega) ho hB (by omega)
  have C1 := Lib.hid c1
  have HO := Lib.hid ho
  clear hr hn ho hap hb c1
  go_enter Try.func76, Try.ntmps76
  go_wp2_with fail
  with_reducible refine (C1.out).mono ?_
  rintro e w1 ⟨v1, rfl, ho1, hg1, hn1⟩
  have HO1 := Lib.hid ho1
  have HG1 := Lib.hid hg1
  have hul := (By.uv_len n).1
  have HN1 : Hid (v1 ≠ .slice none 0 0) := Lib.hid (hn1 (by
    intro h
    have h2 := congrArg List.length h
    have := (By.uv_len n).2
    rw [List.length_append] at h2
    simp only [List.length_nil] at h2; omega))
  clear ho1 hg1 hn1
  go_wp2_with (at_builtin; refine wpList_append_rd _ rfl _ _ 25 rfl B 5 i0 (.int .u8 0) 1 1 Try.underlying25 hi hz0 hz1 hz2 rfl (by decide) v1 (l ++ By.uv n).length (u8s (l ++ By.uv n)) rfl HO1.out ba n cap (u8s d) rfl ?c0 HBA.out ?c1 (u8s_one d) ?c3 ?c4 ?c5 ?_)
  case c0 => rw [u8s_len, HN.out]; omega
  case c1 =>
    intro ad he j u hj
    have hjl : j < d.length := by have := (List.getElem?_eq_some_iff.1 hj).1; rw [u8s_len] at this; exact this
    rcases HR.out with h | ⟨b, o, e, hlt, hc⟩
    · rw [h] at hjl; simp at hjl
    · rw [he] at e; cases e
      have hblk := HG1.out.grown.block b hlt (fun e => HA.out b b o e.symm he (by intro h; rw [h] at hjl; simp at hjl) rfl)
      rw [addPl, World.cell?_of_block (w := w) hblk, hc j hjl, ← hj]
      unfold u8s; simp [hjl]
  case c3 => rw [List.length_append]; unfold maxLen; omega
  case c4 => rw [List.length_append]; omega
  case c5 => exact Nat.le_trans hB HG1.out.grown.size
  intro v2 w2 ho2 hg2 hn2
  have hown2 : Ow w2 B v2 (l ++ By.blob d) := by
    obtain rfl := HN.out
    unfold Ow By.blob
    rw [← List.append_assoc, u8s_app, show ((l ++ By.uv d.length) ++ d).length = l.length + (By.uv d.length).length + d.length by rw [List.length_append, List.length_append]]
    exact ho2
  have HO2 := Lib.hid hown2
  have HG2 := Lib.hid (HG1.out.trans hg2)
  have HN2 : Hid (v2 ≠ .slice none 0 0) := Lib.hid (fun e => HN1.out (hn2.1 e).1)
  clear ho2 hg2 hn2 hown2
  go_wp2
  go_ret
  exact ⟨_, rfl, HO2.out, HG2.out, fun _ => HN2.out⟩
end Go.Proofs.Ytndfelbgppbncaa
/- package frame: which packets are right, by contract. -/
set_option linter.unusedVariables false
namespace Go.Proofs.Ytndfelbgppbncaa
open Go.RowKit
def pkV (f l s a : Int) (d : Value) : Value := .agg #[.int .i64 f, .int .i64 l, .int .i64 s, .int .i64 a, d]
def okN (x : Int) : Bool := decide (0 ≤ x) && decide (x ≤ 4611686018427387904)
def rightB (f l s a : Int) (n : Nat) : Bool := okN f && okN l && okN s && okN a && (decide (n ≤ 1048576) && (decide (0 < s) || n == 0))
theorem okN_iff (x : Int) : okN x = true ↔ 0 ≤ x ∧ x ≤ 4611686018427387904 := by unfold okN; simp
theorem okN_no (x : Int) : okN x = false ↔ x < 0 ∨ 4611686018427387904 < x := by unfold okN; simp; omega
def BoolBelow (b : Bool) (w : World) (e : Ending) (w' : World) : Prop := e = .returned (.bool b) ∧ Below w.heap.size w w'
set_option maxHeartbeats 1600000 in
set_option maxRecDepth 100000 in
theorem right_yes (f l s a : Int) (ba : Option Addr) (n cap : Nat) (w : World) (hf : 0 ≤ f ∧ f ≤ 4611686018427387904) (hl : 0 ≤ l ∧ l ≤ 4611686018427387904) (hs : 0 ≤ s ∧ s ≤ 4611686018427387904) (ha : 0 ≤ a ∧ a ≤ 4611686018427387904) :
    Calls Try.prog 65 #[.agg #[.int .i64 f, .int .i64 l, .int .i64 s, .int .i64 a, .slice ba n cap]] w (BoolBelow (decide (n ≤ 1048576) && (decide (0 < s) || n == 0)) w) := by
  have i0 : ∀ w, (Instr.index 103 (.agg #[.int .i64 f, .int .i64 l, .int .i64 s, .int .i64 a]) (.int .i64 0)).run Try.prog w = .ok (.int .i64 f) w := fun _ => by kernel_rfl
  have i1 : ∀ w, (Instr.index 103 (.agg #[.int .i64 f, .int .i64 l, .int .i64 s, .int .i64 a]) (.int .i64 1)).run Try.prog w = .ok (.int .i64 l) w := fun _ => by kernel_rfl
  have i2 : ∀ w, (Instr.index 103 (.agg #[.int .i64 f, .int .i64 l, .int .i64 s, .int .i64 a]) (.int .i64 2)).run Try.prog w = .ok (.int .i64 s) w := fun _ => by kernel_rfl
  have i3 : ∀ w, (Instr.index 103 (.agg #[.int .i64 f, .int .i64 l, .int .i64 s, .int .i64 a]) (.int .i64 3)).run Try.prog w = .ok (.int .i64 a) w := fun _ => by kernel_rfl
  obtain ⟨f1, f2⟩ := hf
  obtain ⟨l1, l2⟩ := hl
  obtain ⟨s1, s2⟩ := hs
  obtain ⟨a1, a2⟩ := ha
  go_enter Try.func65, Try.ntmps65
  go_wp2
  go_loop [14] (fun i => ∃ j : Nat, j ≤ 4 ∧ i = .int .i64 j) (fun i => 4 - (intOf i).toNat)
  case atStart => exact ⟨0, by omega, rfl⟩
  case round =>
    obtain ⟨j, hj, rfl⟩ := hrel
    have hcase : j = 0 ∨ j = 1 ∨ j = 2 ∨ j = 3 ∨ j = 4 := by omega
    rcases hcase with rfl | rfl | rfl | rfl | rfl
    · go_wp2
      go_round
      case rel => exact ⟨1, by omega, by go_num⟩
      case measure => simp [intOf]
    · go_wp2
      go_round
      case rel => exact ⟨2, by omega, by go_num⟩
      case measure => simp [intOf]
    · go_wp2
      go_round
      case rel => exact ⟨3, by omega, by go_num⟩
      case measure => simp [intOf]
    · go_wp2
      go_round
      case rel => exact ⟨4, by omega, by go_num⟩
      case measure => simp [intOf]
    · clear i0 i1 i2 i3
      by_cases h1 : n ≤ 1048576
      · by_cases h2 : 0 < s
        · go_wp2
          go_ret
          exact ⟨by simp, (Below.refl _ _).alloc (Nat.le_refl _) _⟩
        · by_cases h3 : n = 0
          · have h3' : ((n : Int) == 0) = true := beqI (by omega)
            go_wp2
            go_ret
            exact ⟨by simp, (Below.refl _ _).alloc (Nat.le_refl _) _⟩
          · have h3' : ((n : Int) == 0) = false := bneI (by omega)
            go_wp2
            go_ret
            exact ⟨by simp [h2, h3], (Below.refl _ _).alloc (Nat.le_refl _) _⟩
      · go_wp2
        go_ret
        exact ⟨by simp, (Below.refl _ _).alloc (Nat.le_refl _) _⟩
set_option maxHeartbeats 1600000 in
set_option maxRecDepth 100000 in
theorem right_no0 (f l s a : Int) (ba : Option Addr) (n cap : Nat) (w : World)  (hx : f < 0 ∨ 4611686018427387904 < f) :
    Calls Try.prog 65 #[.agg #[.int .i64 f, .int .i64 l, .int .i64 s, .int .i64 a, .slice ba n cap]] w (BoolBelow false w) := by
  have i0 : ∀ w, (Instr.index 103 (.agg #[.int .i64 f, .int .i64 l, .int .i64 s, .int .i64 a]) (.int .i64 0)).run Try.prog w = .ok (.int .i64 f) w := fun _ => by kernel_rfl
  go_enter Try.func65, Try.ntmps65
  go_wp2
  go_loop [14] (fun i => ∃ j : Nat, j ≤ 0 ∧ i = .int .i64 j) (fun i => 4 - (intOf i).toNat)
  case atStart => exact ⟨0, by omega, rfl⟩
  case round =>
    obtain ⟨j, hj, rfl⟩ := hrel
    obtain rfl : j = 0 := by omega
    rcases hx with hx | hx
    · go_wp2
      go_ret
      exact ⟨rfl, (Below.refl _ _).alloc (Nat.le_refl _) _⟩
    · have hx0 : ¬ f < 0 := by omega
      go_wp2
      go_ret
      exact ⟨rfl, (Below.refl _ _).alloc (Nat.le_refl _) _⟩
set_option maxHeartbeats 1600000 in
set_option maxRecDepth 100000 in
theorem right_no1 (f l s a : Int) (ba : Option Addr) (n cap : Nat) (w : World) (h0 : 0 ≤ f ∧ f ≤ 4611686018427387904) (hx : l < 0 ∨ 4611686018427387904 < l) :
    Calls Try.prog 65 #[.agg #[.int .i64 f, .int .i64 l, .int .i64 s, .int .i64 a, .slice ba n cap]] w (BoolBelow false w) := by
  have i0 : ∀ w, (Instr.index 103 (.agg #[.int .i64 f, .int .i64 l, .int .i64 s, .int .i64 a]) (.int .i64 0)).run Try.prog w = .ok (.int .i64 f) w := fun _ => by kernel_rfl
  have i1 : ∀ w, (Instr.index 103 (.agg #[.int .i64 f, .int .i64 l, .int .i64 s, .int .i64 a]) (.int .i64 1)).run Try.prog w = .ok (.int .i64 l) w := fun _ => by kernel_rfl
  obtain ⟨p0, q0⟩ := h0
  go_enter Try.func65, Try.ntmps65
  go_wp2
  go_loop [14] (fun i => ∃ j : Nat, j ≤ 1 ∧ i = .int .i64 j) (fun i => 4 - (intOf i).toNat)
  case atStart => exact ⟨0, by omega, rfl⟩
  case round =>
    obtain ⟨j, hj, rfl⟩ := hrel
    have hcase : j = 0 ∨ j = 1 := by omega
    rcases hcase with rfl | rfl
    · go_wp2
      go_round
      case rel => exact ⟨1, by omega, by go_num⟩
      case measure => simp [intOf]
    · rcases hx with hx | hx
      · go_wp2
        go_ret
        exact ⟨rfl, (Below.refl _ _).alloc (Nat.le_refl _) _⟩
      · have hx0 : ¬ l < 0 := by omega
        go_wp2
        go_ret
        exact ⟨rfl, (Below.refl _ _).alloc (Nat.le_refl _) _⟩
set_option maxHeartbeats 1600000 in
set_option maxRecDepth 100000 in
theorem right_no2 (f l s a : Int) (ba : Option Addr) (n cap : Nat) (w : World) (h0 : 0 ≤ f ∧ f ≤ 4611686018427387904) (h1 : 0 ≤ l ∧ l ≤ 4611686018427387904) (hx : s < 0 ∨ 4611686018427387904 < s) :
    Calls Try.prog 65 #[.agg #[.int .i64 f, .int .i64 l, .int .i64 s, .int .i64 a, .slice ba n cap]] w (BoolBelow false w) := by
  have i0 : ∀ w, (Instr.index 103 (.agg #[.int .i64 f, .int .i64 l, .int .i64 s, .int .i64 a]) (.int .i64 0)).run Try.prog w = .ok (.int .i64 f) w := fun _ => by kernel_rfl
  have i1 : ∀ w, (Instr.index 103 (.agg #[.int .i64 f, .int .i64 l, .int .i64 s, .int .i64 a]) (.int .i64 1)).run Try.prog w = .ok (.int .i64 l) w := fun _ => by kernel_rfl
  have i2 : ∀ w, (Instr.index 103 (.agg #[.int .i64 f, .int .i64 l, .int .i64 s, .int .i64 a]) (.int .i64 2)).run Try.prog w = .ok (.int .i64 s) w := fun _ => by kernel_rfl
  obtain ⟨p0, q0⟩ := h0
  obtain ⟨p1, q1⟩ := h1
  go_enter Try.func65, Try.ntmps65
  go_wp2
  go_loop [14] (fun i => ∃ j : Nat, j ≤ 2 ∧ i = .int .i64 j) (fun i => 4 - (intOf i).toNat)
  case atStart => exact ⟨0, by omega, rfl⟩
  case round =>
    obtain ⟨j, hj, rfl⟩ := hrel
    have hcase : j = 0 ∨ j = 1 ∨ j = 2 := by omega
    rcases hcase with rfl | rfl | rfl
    · go_wp2
      go_round
      case rel => exact ⟨1, by omega, by go_num⟩
      case measure => simp [intOf]
    · go_wp2
      go_round
      case rel => exact ⟨2, by omega, by go_num⟩
      case measure => simp [intOf]
    · rcases hx with hx | hx
      · go_wp2
        go_ret
        exact ⟨rfl, (Below.refl _ _).alloc (Nat.le_refl _) _⟩
      · have hx0 : ¬ s < 0 := by omega
        go_wp2
        go_ret
        exact ⟨rfl, (Below.refl _ _).alloc (Nat.le_refl _) _⟩
set_option maxHeartbeats 1600000 in
set_option maxRecDepth 100000 in
theorem right_no3 (f l s a : Int) (ba : Option Addr) (n cap : Nat) (w : World) (h0 : 0 ≤ f ∧ f ≤ 4611686018427387904) (h1 : 0 ≤ l ∧ l ≤ 4611686018427387904) (h2 : 0 ≤ s ∧ s ≤ 4611686018427387904) (hx : a < 0 ∨ 4611686018427387904 < a) :
    Calls Try.prog 65 #[.agg #[.int .i64 f, .int .i64 l, .int .i64 s, .int .i64 a, .slice ba n cap]] w (BoolBelow false w) := by
  have i0 : ∀ w, (Instr.index 103 (.agg #[.int .i64 f, .int .i64 l, .int .i64 s, .int .i64 a]) (.int .i64 0)).run Try.prog w = .ok (.int .i64 f) w := fun _ => by kernel_rfl
  have i1 : ∀ w, (Instr.index 103 (.agg #[.int .i64 f, .int .i64 l, .int .i64 s, .int .i64 a]) (.int .i64 1)).run Try.prog w = .ok (.int .i64 l) w := fun _ => by kernel_rfl
  have i2 : ∀ w, (Instr.index 103 (.agg #[.int .i64 f, .int .i64 l, .int .i64 s, .int .i64 a]) (.int .i64 2)).run Try.prog w = .ok (.int .i64 s) w := fun _ => by kernel_rfl
  have i3 : ∀ w, (Instr.index 103 (.agg #[.int .i64 f, .int .i64 l, .int .i64 s, .int .i64 a]) (.int .i64 3)).run Try.prog w = .ok (.int .i64 a) w := fun _ => by kernel_rfl
  obtain ⟨p0, q0⟩ := h0
  obtain ⟨p1, q1⟩ := h1
  obtain ⟨p2, q2⟩ := h2
  go_enter Try.func65, Try.ntmps65
  go_wp2
  go_loop [14] (fun i => ∃ j : Nat, j ≤ 3 ∧ i = .int .i64 j) (fun i => 4 - (intOf i).toNat)
  case atStart => exact ⟨0, by omega, rfl⟩
  case round =>
    obtain ⟨j, hj, rfl⟩ := hrel
    have hcase : j = 0 ∨ j = 1 ∨ j = 2 ∨ j = 3 := by omega
    rcases hcase with rfl | rfl | rfl | rfl
    · go_wp2
      go_round
      case rel => exact ⟨1, by omega, by go_num⟩
      case measure => simp [intOf]
    · go_wp2
      go_round
      case rel => exact ⟨2, by omega, by go_num⟩
      case measure => simp [intOf]
    · go_wp2
      go_round
      case rel => exact ⟨3, by omega, by go_num⟩
      case measure => simp [intOf]
    · rcases hx with hx | hx
      · go_wp2
        go_ret
        exact ⟨rfl, (Below.refl _ _).alloc (Nat.le_refl _) _⟩
      · have hx0 : ¬ a < 0 := by omega
        go_wp2
        go_ret
        exact ⟨rfl, (Below.refl _ _).alloc (Nat.le_refl _) _⟩
theorem right_any (f l s a : Int) (ba : Option Addr) (n cap : Nat) (w : World) :
    Calls Try.prog 65 #[.agg #[.int .i64 f, .int .i64 l, .int .i64 s, .int .i64 a, .slice ba n cap]] w (BoolBelow (rightB f l s a n) w) := by
  unfold rightB
  cases h0 : okN f with
  | false => exact right_no0 f l s a ba n cap w ((okN_no f).1 h0)
  | true =>
    cases h1 : okN l with
    | false => exact right_no1 f l s a ba n cap w ((okN_iff f).1 h0) ((okN_no l).1 h1)
    | true =>
      cases h2 : okN s with
      | false => exact right_no2 f l s a ba n cap w ((okN_iff f).1 h0) ((okN_iff l).1 h1) ((okN_no s).1 h2)
      | true =>
        cases h3 : okN a with
        | false => exact right_no3 f l s a ba n cap w ((okN_iff f).1 h0) ((okN_iff l).1 h1) ((okN_iff s).1 h2) ((okN_no a).1 h3)
        | true => exact right_yes f l s a ba n cap w ((okN_iff f).1 h0) ((okN_iff l).1 h1) ((okN_iff s).1 h2) ((okN_iff a).1 h3)
end Go.Proofs.Ytndfelbgppbncaa
/- package frame: Pack, by contract. -/
set_option linter.unusedVariables false
namespace Go.Proofs.Ytndfelbgppbncaa
open Go.RowKit
theorem Ow.rd {w : World} {B : Nat} {v : Value} {l : List UInt8} (h : Ow w B v l) : ∃ ba cap, v = .slice ba l.length cap ∧ Rd w ba l ∧ (ba = none → l.length = 0) ∧ l.length ≤ cap := by
  rcases h.2 with ⟨rfl, h0⟩ | ⟨g, cap, cur, rfl, hb, hg, hcap, _⟩
  · exact ⟨none, 0, by rw [h0], Or.inl (List.eq_nil_of_length_eq_zero h0), fun _ => h0, by omega⟩
  · refine ⟨_, cap, rfl, Or.inr ⟨g, 0, rfl, (Array.getElem?_eq_some_iff.1 hg).1, fun i hi => ?_⟩, (fun e => by cases e), hcap⟩
    have := h.cells (g := g) rfl i (.int .u8 (l[i].toNat : Nat)) (by unfold u8s; simp [hi])
    rw [addPl] at this; exact this
theorem cells_one {w1 w2 : World} {A : Array Value} {tA : TypeId} (hb : Below (w1.alloc (.cells A tA)).heap.size (w1.alloc (.cells A tA)) w2) :
    (∀ o, w2.cell? ⟨w1.heap.size, o, none⟩ = A[o]?) ∧ w1.heap.size < w2.heap.size ∧ Below w1.heap.size w1 w2 := by
  have hs := hb.size
  simp at hs
  have h1 : (w1.alloc (.cells A tA)).heap[w1.heap.size]? = some (.cells A tA (0, 0)) := heap_alloc_new _ _
  refine ⟨fun o => ?_, by omega, ((Below.refl w1.heap.size w1).alloc (Nat.le_refl _) _).trans (hb.mono (by simp))⟩
  rw [hb.cell (p := ⟨w1.heap.size, o, none⟩) (by simp)]
  unfold World.cell?; simp only [h1]; rfl
/-- the numbers' bytes so far -/
def pre (f l s a : Nat) : Nat → List UInt8
  | 0 => []
  | 1 => By.uv f
  | 2 => By.uv f ++ By.uv l
  | 3 => By.uv f ++ By.uv l ++ By.uv s
  | _ => By.uv f ++ By.uv l ++ By.uv s ++ By.uv a
theorem pre_len (f l s a j : Nat) : (pre f l s a j).length ≤ 40 := by
  have h1 := (By.uv_len f).1
  have h2 := (By.uv_len l).1
  have h3 := (By.uv_len s).1
  have h4 := (By.uv_len a).1
  unfold pre
  split
  · exact Nat.zero_le _
  · omega
  · simp only [List.length_append]; omega
  · simp only [List.length_append]; omega
  · simp only [List.length_append]; omega
set_option maxHeartbeats 3200000 in
set_option maxRecDepth 100000 in
theorem pack_yes (f l s a : Nat) (ba : Option Addr) (n cap : Nat) (d : List UInt8) (w : World) (hn : d.length = n) (hr : Rd w ba d) (hb : ba = none → n = 0) (hp : (⟨f, l, s, a, d⟩ : By.Pk).right) :
    Calls Try.prog 56 #[.agg #[.int .i64 f, .int .i64 l, .int .i64 s, .int .i64 a, .slice ba n cap]] w (NewErr (By.pack ⟨f, l, s, a, d⟩) 0 w) := by
  obtain ⟨p1, p2, p3, p4, p5, p6⟩ := hp
  simp only at p1 p2 p3 p4 p5 p6
  unfold By.top at p1 p2 p3 p4
  have hrt : rightB f l s a n = true := by
    unfold rightB
    rw [(okN_iff f).2 (by omega), (okN_iff l).2 (by omega), (okN_iff s).2 (by omega), (okN_iff a).2 (by omega)]
    have h1 : n ≤ 1048576 := by omega
    rcases p6 with h | h
    · simp [h1, h]
    · have : n = 0 := by rw [← hn, h]; rfl
      simp [this]
  have c1 := fun w => right_any f l s a ba n cap w
  rw [hrt] at c1
  have C1 := Lib.hid c1
  have HR := Lib.hid hr
  have HN := Lib.hid hn
  have HBA := Lib.hid hb
  have i0 : ∀ w, (Instr.index 103 (.agg #[.int .i64 f, .int .i64 l, .int .i64 s, .int .i64 a]) (.int .i64 0)).run Try.prog w = .ok (.int .i64 f) w := fun _ => by kernel_rfl
  have i1 : ∀ w, (Instr.index 103 (.agg #[.int .i64 f, .int .i64 l, .int .i64 s, .int .i64 a]) (.int .i64 1)).run Try.prog w = .ok (.int .i64 l) w := fun _ => by kernel_rfl
  have i2 : ∀ w, (Instr.index 103 (.agg #[.int .i64 f, .int .i64 l, .int .i64 s, .int .i64 a]) (.int .i64 2)).run Try.prog w = .ok (.int .i64 s) w := fun _ => by kernel_rfl
  have i3 : ∀ w, (Instr.index 103 (.agg #[.int .i64 f, .int .i64 l, .int .i64 s, .int .i64 a]) (.int .i64 3)).run Try.prog w = .ok (.int .i64 a) w := fun _ => by kernel_rfl
  clear hr hn hb c1 hrt p6
  go_enter Try.func56, Try.ntmps56
  go_wp2_with fail
  with_reducible refine (C1.out _).mono ?_
  rintro e w2 ⟨rfl, hb2⟩
  obtain ⟨q1, q2, q3⟩ := cells_one hb2
  have HB2 := Lib.hid q3
  have HQ := Lib.hid q1
  clear hb2 q3
  go_wp2_with fail
  clear q1
  go_loopw [4, 19] (fun v i wr => ∃ j : Nat, j ≤ 4 ∧ i = .int .i64 j ∧ Ow wr w2.heap.size v (pre f l s a j) ∧ Below w2.heap.size w2 wr) (fun _ i _ => 4 - (intOf i).toNat)
  case atStart => exact ⟨0, by omega, rfl, Ow.nil _ _, Below.refl _ _⟩
  case round =>
    obtain ⟨j, hj, rfl, ho, hbl⟩ := hrel
    have HO := Lib.hid ho
    have HBL := Lib.hid hbl
    have hsz := hbl.size
    have hpl := pre_len f l s a j
    have HPL := Lib.hid hpl
    clear ho hbl hpl
    have step : ∀ (x k : Nat), x < 18446744073709551616 → pre f l s a (k + 1) = pre f l s a k ++ By.uv x → k = j → Calls Try.prog 74 #[u4, .int .u64 x] wr (OwPost w2.heap.size u4 (pre f l s a (k + 1)) wr) := fun x k hx hk e => by
      subst e
      rw [hk]
      exact uint_any w2.heap.size u4 _ x wr hx HO.out hsz (by have := HPL.out; omega)
    have STEP := Lib.hid step
    clear step
    have hcase : j = 0 ∨ j = 1 ∨ j = 2 ∨ j = 3 ∨ j = 4 := by omega
    rcases hcase with rfl | rfl | rfl | rfl | rfl
    · go_wp2_with fail
      with_reducible refine (STEP.out f 0 (by omega) rfl rfl).mono ?_
      rintro e w3 ⟨v3, rfl, ho3, hg3, _⟩
      have HO3 := Lib.hid ho3
      have HB3 := Lib.hid (hg3.less HBL.out hsz (fun i hi => (HO.out.lt i hi).1))
      clear ho3 hg3
      go_wp2
      go_roundw
      case rel => exact ⟨1, by omega, by go_num, HO3.out, HB3.out⟩
      case measure => simp [intOf]
    · go_wp2_with fail
      with_reducible refine (STEP.out l 1 (by omega) rfl rfl).mono ?_
      rintro e w3 ⟨v3, rfl, ho3, hg3, _⟩
      have HO3 := Lib.hid ho3
      have HB3 := Lib.hid (hg3.less HBL.out hsz (fun i hi => (HO.out.lt i hi).1))
      clear ho3 hg3
      go_wp2
      go_roundw
      case rel => exact ⟨2, by omega, by go_num, HO3.out, HB3.out⟩
      case measure => simp [intOf]
    · go_wp2_with fail
      with_reducible refine (STEP.out s 2 (by omega) rfl rfl).mono ?_
      rintro e w3 ⟨v3, rfl, ho3, hg3, _⟩
      have HO3 := Lib.hid ho3
      have HB3 := Lib.hid (hg3.less HBL.out hsz (fun i hi => (HO.out.lt i hi).1))
      clear ho3 hg3
      go_wp2
      go_roundw
      case rel => exact ⟨3, by omega, by go_num, HO3.out, HB3.out⟩
      case measure => simp [intOf]
    · go_wp2_with fail
      with_reducible refine (STEP.out a 3 (by omega) rfl rfl).mono ?_
      rintro e w3 ⟨v3, rfl, ho3, hg3, _⟩
      have HO3 := Lib.hid ho3
      have HB3 := Lib.hid (hg3.less HBL.out hsz (fun i hi => (HO.out.lt i hi).1))
      clear ho3 hg3
      go_wp2
      go_roundw
      case rel => exact ⟨4, by omega, by go_num, HO3.out, HB3.out⟩
      case measure => simp [intOf]
    · have hq : ∀ o, wr.cell? ⟨w.heap.size, o, none⟩ = #[Value.int .i64 f, .int .i64 l, .int .i64 s, .int .i64 a, .slice ba n cap][o]? := fun o => by rw [HBL.out.cell (p := ⟨w.heap.size, o, none⟩) q2]; exact HQ.out o
      have hRr : Rd wr ba d := Rd.below (Rd.below HR.out HB2.out) HBL.out
      have cb := blobPut_any w2.heap.size u4 (pre f l s a 4) ba n cap d wr HN.out hRr HBA.out HO.out hsz (by have := HPL.out; omega) (by have := HN.out; omega) (fun i b o hi hbo hd e => by
        have h1 := (HO.out.lt i hi).1
        rcases HR.out with h | ⟨b', o', e', hlt, _⟩
        · exact hd h
        · rw [hbo] at e'; cases e'; have := HB2.out.size; omega)
      have CB := Lib.hid cb
      clear cb hRr i0 i1 i2 i3
      go_wp2_with fail
      with_reducible refine (CB.out).mono ?_
      rintro e w3 ⟨v3, rfl, ho3, hg3, _⟩
      obtain ⟨b3, c3, rfl, hr3, hn3, hc3⟩ := ho3.rd
      have hlen : (pre f l s a 4 ++ By.blob d).length ≤ 1099511627776 := by
        have h1 := HPL.out
        have h2 := (By.uv_len d.length).1
        have h3 := HN.out
        unfold By.blob
        simp only [List.length_append]; omega
      rw [List.length_append] at hlen hn3
      have CS := Lib.hid (seal_any b3 ((pre f l s a 4).length + (By.blob d).length) c3 _ w3 List.length_append hr3 hn3 hlen)
      have HB3 := Lib.hid (hg3.less HBL.out hsz (fun i hi => (HO.out.lt i hi).1))
      clear ho3 hg3 hr3 hn3 hc3 hlen hq
      go_wp2_with fail
      with_reducible refine (CS.out).mono ?_
      rintro e w4 ⟨v4, rfl, ho4, hb4, _⟩
      have hfin : pre f l s a 4 ++ By.blob d = By.pk ⟨f, l, s, a, d⟩ := by
        show (By.uv f ++ By.uv l ++ By.uv s ++ By.uv a) ++ By.blob d = By.uv f ++ (By.uv l ++ (By.uv s ++ (By.uv a ++ By.blob d)))
        simp only [List.append_assoc]
      rw [hfin] at ho4
      have HO4 := Lib.hid (ho4.mono (Nat.le_trans HB2.out.size HB3.out.size))
      have HB4 := Lib.hid ((HB2.out.trans (HB3.out.mono HB2.out.size)).trans (hb4.mono (Nat.le_trans HB2.out.size HB3.out.size)))
      clear ho4 hb4 hfin
      go_wp2
      go_ret2
      exact ⟨_, rfl, HO4.out, HB4.out⟩
end Go.Proofs.Ytndfelbgppbncaa
/- package frame: the getter, by contract. -/
set_option linter.unusedVariables false
namespace Go.Proofs.Ytndfelbgppbncaa
open Go.RowKit
/-- a block's cells -/
def Blk (w : World) (p : Nat) (cs : Array Value) (T : TypeId) : Prop := w.heap[p]? = some (.cells cs T (0, 0))
theorem Blk.cell {w : World} {p : Nat} {cs : Array Value} {T : TypeId} (h : Blk w p cs T) (o : Nat) : w.cell? ⟨p, o, none⟩ = cs[o]? := by
  unfold Blk at h; unfold World.cell?; simp only [h]; rfl
theorem Blk.free {w : World} {p : Nat} {cs : Array Value} {T : TypeId} (h : Blk w p cs T) (o : Nat) : w.frozen? ⟨p, o, none⟩ = false := by
  unfold Blk at h; unfold World.frozen?; simp only [h]; simp
theorem Blk.lt {w : World} {p : Nat} {cs : Array Value} {T : TypeId} (h : Blk w p cs T) : p < w.heap.size := (Array.getElem?_eq_some_iff.1 h).1
theorem Blk.set {w : World} {p : Nat} {cs : Array Value} {T : TypeId} (h : Blk w p cs T) (i : Nat) (u : Value) : Blk (w.setCell ⟨p, i, none⟩ u) p (cs.setIfInBounds i u) T := Go.Lib.heap_setCell_same h u
theorem Blk.below {w w' : World} {p : Nat} {cs : Array Value} {T : TypeId} (h : Blk w p cs T) (hb : Below w.heap.size w w') : Blk w' p cs T := by
  unfold Blk; rw [hb.block p h.lt]; exact h
theorem Blk.kept {w w' : World} {p : Nat} {cs : Array Value} {T : TypeId} {row : Option Nat} (h : Blk w p cs T) (hg : w.grownBy w' row) (hne : some p ≠ row) : Blk w' p cs T := by
  unfold Blk; rw [hg.block p h.lt hne]; exact h
theorem Blk.new (w : World) (cs : Array Value) (T : TypeId) : Blk (w.alloc (.cells cs T)) w.heap.size cs T := heap_alloc_new _ _
theorem grown_set {w w' : World} {p : Nat} (h : w.grownBy w' (some p)) (i : Nat) (u : Value) : w.grownBy (w'.setCell ⟨p, i, none⟩ u) (some p) :=
  ⟨h.os, h.tape, h.output, by simp; exact h.size, fun k hk hne => by rw [Below.heap_setCell _ _ _ _ (fun e => hne (by rw [e]))]; exact h.block k hk hne⟩
theorem grown_below {w w1 w2 : World} {r : Option Nat} (h : w.grownBy w1 r) (k : Below w1.heap.size w1 w2) : w.grownBy w2 r :=
  ⟨k.os.trans h.os, k.tape.trans h.tape, k.output.trans h.output, Nat.le_trans h.size k.size, fun i hi hne => by rw [k.block i (Nat.lt_of_lt_of_le hi h.size), h.block i hi hne]⟩
theorem grown_trans {w w1 w2 : World} {r : Option Nat} (h : w.grownBy w1 r) (k : w1.grownBy w2 r) : w.grownBy w2 r :=
  ⟨k.os.trans h.os, k.tape.trans h.tape, k.output.trans h.output, Nat.le_trans h.size k.size, fun i hi hne => by rw [k.block i (Nat.lt_of_lt_of_le hi h.size) hne, h.block i hi hne]⟩
theorem below_grown {w w1 w2 : World} {r : Option Nat} (h : Below w.heap.size w w1) (k : w1.grownBy w2 r) : w.grownBy w2 r :=
  ⟨k.os.trans h.os, k.tape.trans h.tape, k.output.trans h.output, Nat.le_trans h.size k.size, fun i hi hne => by rw [k.block i (Nat.lt_of_lt_of_le hi h.size) hne, h.block i hi]⟩
theorem Rd.kept {w w' : World} {ba : Option Addr} {l : List UInt8} {p : Nat} (h : Rd w ba l) (hg : w.grownBy w' (some p)) (hne : ∀ b o, ba = some (⟨b, o, none⟩ : Addr) → b ≠ p) : Rd w' ba l := by
  rcases h with h | ⟨b, o, e, hlt, hc⟩
  · exact Or.inl h
  · refine Or.inr ⟨b, o, e, Nat.lt_of_lt_of_le hlt hg.size, fun i hi => ?_⟩
    rw [World.cell?_of_block (w := w) (hg.block b hlt (fun q => hne b o e (by cases q; rfl)))]; exact hc i hi
/-- a getter: its bytes, place and error -/
def Gt (w : World) (p : Nat) (v : Value) (at' er : Nat) : Prop := Blk w p #[v, .int .i64 at', .int .i64 er] 106
def TookPost (p : Nat) (v : Value) (at' er : Nat) (w : World) (e : Ending) (w' : World) : Prop := e = .returned (.tuple #[]) ∧ Gt w' p v at' er ∧ w.grownBy w' (some p)
set_option maxHeartbeats 1600000 in
set_option maxRecDepth 100000 in
theorem took_any (p : Nat) (v : Value) (at' er nx e2 : Nat) (w : World) (hg : Gt w p v at' er) :
    Calls Try.prog 79 #[.pointer (some ⟨p, 0, none⟩), .int .i64 nx, .int .i64 e2] w (TookPost p v (if e2 = 0 then nx else at') e2 w) := by
  have HG := Lib.hid hg
  have c0 := hg.cell 0
  have c1 := hg.cell 1
  have c2 := hg.cell 2
  have hf := fun o => hg.free o
  have hlt := hg.lt
  clear hg
  by_cases h : e2 = 0
  · subst h
    go_enter Try.func79, Try.ntmps79
    go_wp2
    have hfin : Gt ((w.setCell ⟨p, 2, none⟩ (.int .i64 0)).setCell ⟨p, 1, none⟩ (.int .i64 nx)) p v nx 0 := ((HG.out.set 2 _).set 1 _)
    have hgr : w.grownBy ((w.setCell ⟨p, 2, none⟩ (.int .i64 0)).setCell ⟨p, 1, none⟩ (.int .i64 nx)) (some p) := grown_set (grown_set (grown_refl _ _) _ _) _ _
    go_end0
    exact ⟨rfl, hfin, hgr⟩
  · have h' : ((e2 : Int) == 0) = false := bneI (by omega)
    rw [if_neg h]
    go_enter Try.func79, Try.ntmps79
    go_wp2
    have hfin : Gt (w.setCell ⟨p, 2, none⟩ (.int .i64 e2)) p v at' e2 := HG.out.set 2 _
    have hgr : w.grownBy (w.setCell ⟨p, 2, none⟩ (.int .i64 e2)) (some p) := grown_set (grown_refl _ _) _ _
    go_end0
    exact ⟨rfl, hfin, hgr⟩
theorem took_int (p : Nat) (v : Value) (at' er nx e2 : Nat) (w : World) (hg : Gt w p v at' er) (x y : Int) (hx : x = (nx : Nat)) (hy : y = (e2 : Nat)) :
    Calls Try.prog 79 #[.pointer (some ⟨p, 0, none⟩), .int .i64 x, .int .i64 y] w (TookPost p v (if e2 = 0 then nx else at') e2 w) := by
  subst hx; subst hy; exact took_any p v at' er nx e2 w hg
/-- a getter's number: it, the place behind, the error -/
def gnum (l : List UInt8) (at' er : Nat) : Nat × Nat × Nat := if er ≠ 0 then (0, at', er) else if (By.gu (l.drop at')).2.2 = 0 then ((By.gu (l.drop at')).1, at' + (By.gu (l.drop at')).2.1, 0) else (0, at', (By.gu (l.drop at')).2.2)
theorem gnum_le (l : List UInt8) (at' er : Nat) (h : at' ≤ l.length) : (gnum l at' er).2.1 ≤ l.length := by
  unfold gnum
  split
  · exact h
  · split
    · rename_i h2
      have := By.gu_len _ h2
      rw [List.length_drop] at this
      show at' + _ ≤ _; omega
    · exact h
def GnPost (p : Nat) (v : Value) (x at' er : Nat) (w : World) (e : Ending) (w' : World) : Prop := e = .returned (.int .u64 x) ∧ Gt w' p v at' er ∧ w.grownBy w' (some p)
set_option maxHeartbeats 1600000 in
set_option maxRecDepth 100000 in
theorem guint_any (p : Nat) (ba : Option Addr) (n cap : Nat) (l : List UInt8) (at' er : Nat) (w : World) (hg : Gt w p (.slice ba n cap) at' er) (hn : l.length = n) (hr : Rd w ba l) (ha : at' ≤ n) (hl : n ≤ 1099511627776) :
    Calls Try.prog 63 #[.pointer (some ⟨p, 0, none⟩)] w (GnPost p (.slice ba n cap) (gnum l at' er).1 (gnum l at' er).2.1 (gnum l at' er).2.2 w) := by
  have HG := Lib.hid hg
  have c0 := hg.cell 0
  have c1 := hg.cell 1
  have c2 := hg.cell 2
  have hlt := hg.lt
  by_cases h : er = 0
  · subst h
    have cg := fun k => quiet_flip (getUint_any ba n cap l at' (w.drewN k) hn (hr.below (belowN (Below.refl _ _) k)) ha hl)
    unfold gnum
    rw [if_neg (by simp)]
    generalize By.gu (l.drop at') = r at cg ⊢
    obtain ⟨N, c, e2⟩ := r
    simp only at cg ⊢
    have CG := Lib.hid cg
    have hT := fun k nx => took_int p (.slice ba n cap) at' 0 nx e2 (w.drewN k) (hg.below (belowN (Below.refl _ _) k))
    have HT := Lib.hid hT
    clear hg hr hn cg hT
    by_cases h2 : e2 = 0
    · subst h2
      simp only [if_true] at CG HT ⊢
      go_enter Try.func63, Try.ntmps63
      go_wp2_with fail
      go_quiet ((go_at_call 78; exact Calls.quiet_of_same (CG.out _)))
      go_wp2_with fail
      with_reducible refine (HT.out nq (at' + c) _ _ (by omega) (by omega)).mono ?_
      rintro e w2 ⟨rfl, hg2, hgr2⟩
      have HG2 := Lib.hid hg2
      have HR2 := Lib.hid (below_grown (belowN (Below.refl w.heap.size w) nq) hgr2)
      clear hg2 hgr2
      go_wp2
      go_ret
      exact ⟨rfl, HG2.out, HR2.out⟩
    · simp only [if_neg h2] at CG HT ⊢
      go_enter Try.func63, Try.ntmps63
      go_wp2_with fail
      go_quiet ((go_at_call 78; exact Calls.quiet_of_same (CG.out _)))
      go_wp2_with fail
      with_reducible refine (HT.out nq 0 _ _ (by omega) (by omega)).mono ?_
      rintro e w2 ⟨rfl, hg2, hgr2⟩
      have HG2 := Lib.hid hg2
      have HR2 := Lib.hid (below_grown (belowN (Below.refl w.heap.size w) nq) hgr2)
      clear hg2 hgr2
      go_wp2
      go_ret
      exact ⟨rfl, HG2.out, HR2.out⟩
  · have h' : ((er : Int) != 0) = true := by rw [bne_iff_ne]; omega
    unfold gnum
    rw [if_pos h]
    clear hg hr hn
    go_enter Try.func63, Try.ntmps63
    go_wp2
    go_ret
    exact ⟨rfl, HG.out, grown_refl _ _⟩
end Go.Proofs.Ytndfelbgppbncaa
/- package frame: the getter's blob, end, opened, by contract. -/
set_option linter.unusedVariables false
namespace Go.Proofs.Ytndfelbgppbncaa
open Go.RowKit
theorem own_below {w w' : World} {B : Nat} {v : Value} {l : List UInt8} (h : Ow w B v l) (hb : Below w.heap.size w w') : Ow w' B v l :=
  World.ownsRow.kept (row := none) h ⟨hb.os, hb.tape, hb.output, hb.size, fun k hk _ => hb.block k hk⟩ (by cases v.ownBlock with | none => exact Or.inl rfl | some k => exact Or.inr (by simp))
theorem own_kept {w w' : World} {B : Nat} {v : Value} {l : List UInt8} {row : Option Nat} (h : Ow w B v l) (hg : w.grownBy w' row) (hne : ∀ k, v.ownBlock = some k → row ≠ some k) : Ow w' B v l :=
  World.ownsRow.kept h hg (by cases hv : v.ownBlock with | none => exact Or.inl rfl | some k => exact Or.inr (fun e => hne k hv e.symm))
/-- a getter's blob: it, the place behind, the error -/
def gblob (most : Nat) (l : List UInt8) (at' er : Nat) : List UInt8 × Nat × Nat := if er ≠ 0 then ([], at', er) else if (By.getBlob most (l.drop at')).2.2 = 0 then ((By.getBlob most (l.drop at')).1, at' + (By.getBlob most (l.drop at')).2.1, 0) else ([], at', (By.getBlob most (l.drop at')).2.2)
theorem getBlob_no (most : Nat) (l : List UInt8) (h : (By.getBlob most l).2.2 ≠ 0) : (By.getBlob most l).1 = [] := by
  unfold By.getBlob at h ⊢
  split
  · rfl
  · split
    · rfl
    · split
      · rfl
      · rename_i h1 h2 h3
        rw [if_neg h1, if_neg h2, if_neg h3] at h; exact absurd rfl h
def GbkPost (p : Nat) (v : Value) (d : List UInt8) (at' er : Nat) (w : World) (e : Ending) (w' : World) : Prop := ∃ v', e = .returned v' ∧ Ow w' w.heap.size v' d ∧ Gt w' p v at' er ∧ w.grownBy w' (some p)
set_option maxHeartbeats 1600000 in
set_option maxRecDepth 100000 in
theorem gblob_any (p : Nat) (ba : Option Addr) (n cap : Nat) (l : List UInt8) (at' er most : Nat) (w : World) (hg : Gt w p (.slice ba n cap) at' er) (hn : l.length = n) (hr : Rd w ba l) (hb : ba = none → n = 0) (ha : at' ≤ n) (hc : n ≤ cap) (hl : n ≤ 1099511627776) (hm : most ≤ 1099511627776) :
    Calls Try.prog 64 #[.pointer (some ⟨p, 0, none⟩), .int .i64 most] w (GbkPost p (.slice ba n cap) (gblob most l at' er).1 (gblob most l at' er).2.1 (gblob most l at' er).2.2 w) := by
  have HG := Lib.hid hg
  have c0 := hg.cell 0
  have c1 := hg.cell 1
  have c2 := hg.cell 2
  have hlt := hg.lt
  by_cases h : er = 0
  · subst h
    have cg := fun W (hW : Below w.heap.size w W) => getBlob_any ba n cap l at' most W hn (hr.below hW) hb ha hc hl hm
    have hno := getBlob_no most (l.drop at')
    unfold gblob
    rw [if_neg (by simp)]
    unfold GbPost at cg
    generalize By.getBlob most (l.drop at') = r at cg hno ⊢
    obtain ⟨d, c, e2⟩ := r
    simp only at cg hno ⊢
    have CG := Lib.hid cg
    have HNO := Lib.hid hno
    clear hg hr hn cg hb
    by_cases h2 : e2 = 0
    · subst h2
      clear hno
      simp only [if_true] at CG ⊢
      go_enter Try.func64, Try.ntmps64
      go_wp2_with fail
      go_region_with (go_at_call 80; refine (CG.out _ ((Below.refl _ _).drew)).mono ?_; rintro e w1 ⟨v1, rfl, ho1, hb1⟩)
      all_goals
        have HO1 := Lib.hid (ho1.mono (Nat.le_refl w.heap.size))
        have HB1 := Lib.hid ((Below.refl w.heap.size w).drew.trans (hb1.mono (Nat.le_refl w.heap.size)))
        clear ho1 hb1
        have HT := Lib.hid (fun x y hx hy => took_int p (.slice ba n cap) at' 0 (at' + c) 0 w1 (HG.out.below HB1.out) x y hx hy)
        go_wp2_with fail
        with_reducible refine (HT.out _ _ (by simp) (by simp)).mono ?_
        rintro e w2 ⟨rfl, hg2, hgr2⟩
        have HG2 : Hid (Gt w2 p (.slice ba n cap) (at' + c) 0) := Lib.hid (by simpa using hg2)
        have HR2 := Lib.hid (below_grown HB1.out hgr2)
        have HO2 := Lib.hid (own_kept HO1.out hgr2 (fun k hk e => by have := (HO1.out.lt k hk).1; cases e; omega))
        clear hg2 hgr2
        go_wp2
        go_ret
        exact ⟨_, rfl, HO2.out, HG2.out, HR2.out⟩
    · obtain rfl := hno h2
      clear hno
      simp only [if_neg h2] at CG ⊢
      go_enter Try.func64, Try.ntmps64
      go_wp2_with fail
      go_region_with (go_at_call 80; refine (CG.out _ ((Below.refl _ _).drew)).mono ?_; rintro e w1 ⟨v1, rfl, ho1, hb1⟩)
      all_goals
        have HO1 := Lib.hid (ho1.mono (Nat.le_refl w.heap.size))
        have HB1 := Lib.hid ((Below.refl w.heap.size w).drew.trans (hb1.mono (Nat.le_refl w.heap.size)))
        clear ho1 hb1
        have HT := Lib.hid (fun x y hx hy => took_int p (.slice ba n cap) at' 0 0 e2 w1 (HG.out.below HB1.out) x y hx hy)
        go_wp2_with fail
        with_reducible refine (HT.out _ _ (by simp) (by simp)).mono ?_
        rintro e w2 ⟨rfl, hg2, hgr2⟩
        have HG2 : Hid (Gt w2 p (.slice ba n cap) at' e2) := Lib.hid (by simpa [h2] using hg2)
        have HR2 := Lib.hid (below_grown HB1.out hgr2)
        have HO2 := Lib.hid (own_kept HO1.out hgr2 (fun k hk e => by have := (HO1.out.lt k hk).1; cases e; omega))
        clear hg2 hgr2
        go_wp2
        go_ret
        exact ⟨_, rfl, HO2.out, HG2.out, HR2.out⟩
  · have h' : ((er : Int) != 0) = true := by rw [bne_iff_ne]; omega
    unfold gblob
    rw [if_pos h]
    clear hg hr hn
    go_enter Try.func64, Try.ntmps64
    go_wp2
    go_ret
    exact ⟨_, rfl, Ow.nil _ _, HG.out, grown_refl _ _⟩
end Go.Proofs.Ytndfelbgppbncaa
/- package frame: opened, end, by contract. -/
set_option linter.unusedVariables false
namespace Go.Proofs.Ytndfelbgppbncaa
open Go.RowKit
def EndPost (p : Nat) (v : Value) (at' er : Nat) (w : World) (e : Ending) (w' : World) : Prop := e = .returned (.int .i64 er) ∧ Gt w' p v at' er ∧ w.grownBy w' (some p)
def gend (n at' er : Nat) : Nat := if er = 0 ∧ at' < n then 10 else er
set_option maxHeartbeats 1600000 in
set_option maxRecDepth 100000 in
theorem gend_any (p : Nat) (ba : Option Addr) (n cap at' er : Nat) (w : World) (hg : Gt w p (.slice ba n cap) at' er) :
    Calls Try.prog 66 #[.pointer (some ⟨p, 0, none⟩)] w (EndPost p (.slice ba n cap) at' (gend n at' er) w) := by
  have HG := Lib.hid hg
  have c0 := hg.cell 0
  have c1 := hg.cell 1
  have c2 := hg.cell 2
  have hlt := hg.lt
  have hf := fun o => hg.free o
  unfold gend
  clear hg
  by_cases h : er = 0
  · subst h
    by_cases h2 : at' < n
    · rw [if_pos ⟨rfl, h2⟩]
      go_enter Try.func66, Try.ntmps66
      go_wp2_with fail
      go_quiet (fail)
      have hfin : Gt ((w.drewN nq).setCell ⟨p, 2, none⟩ (.int .i64 10)) p (.slice ba n cap) at' 10 := (HG.out.below (belowN (Below.refl _ _) nq)).set 2 _
      have hgr : w.grownBy ((w.drewN nq).setCell ⟨p, 2, none⟩ (.int .i64 10)) (some p) := grown_set (grown_below (grown_refl _ _) (belowN (Below.refl _ _) nq)) _ _
      have HF := Lib.hid hfin
      have HR := Lib.hid hgr
      clear hfin hgr
      go_wp2
      go_ret
      exact ⟨rfl, HF.out, HR.out⟩
    · rw [if_neg (fun h => h2 h.2)]
      have h2' : decide ((at' : Int) < (n : Int)) = false := by simp; omega
      go_enter Try.func66, Try.ntmps66
      go_wp2_with fail
      go_quiet (fail)
      go_wp2
      go_ret
      exact ⟨rfl, HG.out.below (belowN (Below.refl _ _) nq), grown_below (grown_refl _ _) (belowN (Below.refl _ _) nq)⟩
  · rw [if_neg (fun h' => h h'.1)]
    have h' : ((er : Int) == 0) = false := bneI (by omega)
    go_enter Try.func66, Try.ntmps66
    go_wp2_with fail
    go_quiet (fail)
    go_wp2
    go_ret
    exact ⟨rfl, HG.out.below (belowN (Below.refl _ _) nq), grown_below (grown_refl _ _) (belowN (Below.refl _ _) nq)⟩
def OpnPost (l : List UInt8) (er : Nat) (w : World) (e : Ending) (w' : World) : Prop := ∃ p v', e = .returned (.tuple #[.pointer (some ⟨p, 0, none⟩), .int .i64 er]) ∧ Gt w' p v' 0 0 ∧ Ow w' w.heap.size v' l ∧ (∀ k, v'.ownBlock = some k → k < p) ∧ w.heap.size ≤ p ∧ Below w.heap.size w w'
set_option maxHeartbeats 1600000 in
set_option maxRecDepth 100000 in
theorem opened_any (ba : Option Addr) (n cap most : Nat) (l : List UInt8) (w : World) (hn : l.length = n) (hr : Rd w ba l) (hb : ba = none → n = 0) (hl : n ≤ 1099511627776) (hc : n ≤ cap) (hm : n ≤ most) :
    Calls Try.prog 62 #[.slice ba n cap, .int .i64 most] w (OpnPost (By.opn l).1 (By.opn l).2 w) := by
  have cu := unseal_any ba n cap l w hn hr hb hl hc
  generalize By.opn l = r at cu ⊢
  obtain ⟨d, er⟩ := r
  simp only at cu ⊢
  have CU := Lib.hid cu
  have i1 : ¬ (most : Int) < (n : Int) := by omega
  clear cu hr hb hn
  go_enter Try.func62, Try.ntmps62
  go_wp2_with fail
  with_reducible refine (CU.out).mono ?_
  rintro e w1 ⟨v1, rfl, ho1, hb1⟩
  obtain ⟨b3, c3, rfl, _, _, _⟩ := ho1.rd
  have HO := Lib.hid ho1
  have HB := Lib.hid hb1
  clear ho1 hb1
  go_wp2
  go_ret2
  exact ⟨w1.heap.size, _, rfl, Blk.new _ _ _, HO.out.alloc _, (fun k hk => (HO.out.lt k hk).2), HB.out.size, HB.out.alloc HB.out.size _⟩
theorem opened_long (ba : Option Addr) (n cap most : Nat) (w : World) (hm : most < n) :
    Calls Try.prog 62 #[.slice ba n cap, .int .i64 most] w fun e w' => e = .returned (.tuple #[.pointer none, .int .i64 3]) ∧ w = w' := by
  have i1 : (most : Int) < (n : Int) := by omega
  go_enter Try.func62, Try.ntmps62
  go_wp2
  go_ret2
  exact ⟨rfl, rfl⟩
end Go.Proofs.Ytndfelbgppbncaa
/- package frame: Unpack, by contract. -/
set_option linter.unusedVariables false
namespace Go.Proofs.Ytndfelbgppbncaa
open Go.RowKit
def gtop (x er : Nat) : Nat := if er = 0 ∧ 4611686018427387904 < x then 14 else er
def gs (c : List UInt8) : Nat → Nat × Nat
  | 0 => (0, 0)
  | j + 1 => ((gnum c (gs c j).1 (gs c j).2).2.1, gtop (gnum c (gs c j).1 (gs c j).2).1 (gnum c (gs c j).1 (gs c j).2).2.2)
def gx (c : List UInt8) (j : Nat) : Nat := (gnum c (gs c j).1 (gs c j).2).1
theorem gs_le (c : List UInt8) : ∀ j, (gs c j).1 ≤ c.length
  | 0 => Nat.zero_le _
  | j + 1 => gnum_le c _ _ (gs_le c j)
def ncell (c : List UInt8) (j i : Nat) : Value := .int .i64 (if i < j then IntKind.i64.wrap (gx c i) else 0)
def narr (c : List UInt8) (j : Nat) : Array Value := #[ncell c j 0, ncell c j 1, ncell c j 2, ncell c j 3]
theorem narr_at (c : List UInt8) (j : Nat) (h : j < 4) : (narr c j)[j]? = some (.int .i64 0) := by
  match j, h with
  | 0, _ => rfl
  | 1, _ => rfl
  | 2, _ => rfl
  | 3, _ => rfl
theorem narr_next (c : List UInt8) (j : Nat) (h : j < 4) : (narr c j).setIfInBounds j (.int .i64 (IntKind.i64.wrap (gx c j))) = narr c (j + 1) := by
  match j, h with
  | 0, _ => rfl
  | 1, _ => rfl
  | 2, _ => rfl
  | 3, _ => rfl
theorem Ow.rd1 {w : World} {B : Nat} {ba : Option Addr} {n cap : Nat} {l : List UInt8} (h : Ow w B (.slice ba n cap) l) : Rd w ba l ∧ (ba = none → n = 0) ∧ n ≤ cap ∧ l.length = n := by
  obtain ⟨ba', cap', e, h1, h2, h3⟩ := h.rd
  cases e
  exact ⟨h1, h2, h3, rfl⟩
/-- a fact that no tactic looks into -/
structure Lock (p : Prop) : Prop where
  out : p
def UpRel (c : List UInt8) (p pn : Nat) (v : Value) (w : World) (iv : Value) (wr : World) : Prop := ∃ j : Nat, j ≤ 4 ∧ iv = .int .i64 j ∧ Gt wr p v (gs c j).1 (gs c j).2 ∧ Blk wr pn (narr c j) 103 ∧ Ow wr (w.heap.size + 1) v c ∧ Below w.heap.size w wr ∧ Blk wr w.heap.size #[.int .i64 0, .int .i64 0, .int .i64 0, .int .i64 0, .slice none 0 0] 34
theorem up_n {c : List UInt8} {p pn : Nat} {v : Value} {w w3 : World} {j : Nat} {x : Int} (hj : j < 4) (hg : Gt w3 p v (gs c (j + 1)).1 (gs c (j + 1)).2) (hn : Blk w3 pn (narr c j) 103) (ho : Ow w3 (w.heap.size + 1) v c) (hw : Below w.heap.size w w3)
    (hx : Blk w3 w.heap.size #[.int .i64 0, .int .i64 0, .int .i64 0, .int .i64 0, .slice none 0 0] 34) (e3 : (narr c j).setIfInBounds j (.int .i64 x) = narr c (j + 1)) (h1 : p ≠ pn) (h2 : w.heap.size < pn) (h3 : ∀ k, v.ownBlock = some k → k ≠ pn) :
    UpRel c p pn v w (.int .i64 ((j : Int) + 1)) (w3.setCell ⟨pn, j, none⟩ (.int .i64 x)) := by
  have hgr : w3.grownBy (w3.setCell ⟨pn, j, none⟩ (.int .i64 x)) (some pn) := grown_set (grown_refl _ _) _ _
  refine ⟨j + 1, by omega, by go_num, hg.kept hgr (fun e => h1 (by cases e; rfl)), ?_, own_kept ho hgr (fun k hk e => h3 k hk (by cases e; rfl)), hw.grown hgr hw.size (fun k hk => by cases hk; omega), hx.kept hgr (fun e => by cases e; omega)⟩
  rw [← e3]; exact hn.set j _
theorem up_e {c : List UInt8} {p pn : Nat} {v : Value} {w w3 : World} {at2 er e' : Nat} {A : Array Value} (hg : Gt w3 p v at2 er) (hn : Blk w3 pn A 103) (ho : Ow w3 (w.heap.size + 1) v c) (hw : Below w.heap.size w w3)
    (hx : Blk w3 w.heap.size #[.int .i64 0, .int .i64 0, .int .i64 0, .int .i64 0, .slice none 0 0] 34) (h1 : p ≠ pn) (h2 : w.heap.size < p) (h3 : ∀ k, v.ownBlock = some k → k ≠ p) :
    Gt (w3.setCell ⟨p, 2, none⟩ (.int .i64 e')) p v at2 e' ∧ Blk (w3.setCell ⟨p, 2, none⟩ (.int .i64 e')) pn A 103 ∧ Ow (w3.setCell ⟨p, 2, none⟩ (.int .i64 e')) (w.heap.size + 1) v c ∧ Below w.heap.size w (w3.setCell ⟨p, 2, none⟩ (.int .i64 e')) ∧
    Blk (w3.setCell ⟨p, 2, none⟩ (.int .i64 e')) w.heap.size #[.int .i64 0, .int .i64 0, .int .i64 0, .int .i64 0, .slice none 0 0] 34 := by
  have hgr : w3.grownBy (w3.setCell ⟨p, 2, none⟩ (.int .i64 e')) (some p) := grown_set (grown_refl _ _) _ _
  exact ⟨hg.set 2 _, hn.kept hgr (fun e => h1 (by cases e; rfl)), own_kept ho hgr (fun k hk e => h3 k hk (by cases e; rfl)), hw.grown hgr hw.size (fun k hk => by cases hk; omega), hx.kept hgr (fun e => by cases e; omega)⟩
def bl4 (c : List UInt8) : List UInt8 × Nat × Nat := gblob 1048576 c (gs c 4).1 (gs c 4).2
theorem bl4_eq (c : List UInt8) : bl4 c = gblob 1048576 c (gs c 4).1 (gs c 4).2 := by unfold bl4; rfl
def er2 (c : List UInt8) : Nat := if (bl4 c).2.2 = 0 ∧ rightB (IntKind.i64.wrap (gx c 0)) (IntKind.i64.wrap (gx c 1)) (IntKind.i64.wrap (gx c 2)) (IntKind.i64.wrap (gx c 3)) (bl4 c).1.length = false then 14 else (bl4 c).2.2
def er3 (c : List UInt8) : Nat := gend c.length (bl4 c).2.1 (er2 c)
/-- a packet that is handed back, and an error -/
def UnpPost (f l s a : Int) (d : List UInt8) (er : Nat) (w : World) (e : Ending) (w' : World) : Prop := ∃ v', e = .returned (.tuple #[.agg #[.int .i64 f, .int .i64 l, .int .i64 s, .int .i64 a, v'], .int .i64 er]) ∧ Ow w' w.heap.size v' d ∧ Below w.heap.size w w'
theorem box_grown {wr w5 : World} {A : Array Value} {T : TypeId} {p : Nat} (hg : ((wr.alloc (.cells A T)).drew).grownBy w5 (some p)) (hp : p < wr.heap.size) :
    (∀ o, w5.cell? ⟨wr.heap.size, o, none⟩ = A[o]?) ∧ (∀ o, w5.frozen? ⟨wr.heap.size, o, none⟩ = false) ∧ wr.heap.size < w5.heap.size := by
  have hs := hg.size
  simp at hs
  have h1 : Blk (wr.alloc (.cells A T)).drew wr.heap.size A T := (Blk.new wr A T).below (Below.refl _ _).drew
  have h2 := h1.kept hg (fun e => by cases e; omega)
  exact ⟨fun o => h2.cell o, fun o => h2.free o, by omega⟩
theorem narr_grown {wr W w5 : World} {A : Array Value} {T : TypeId} {p pn : Nat} (h : Blk wr pn A T) (hW : Below wr.heap.size wr W) (hg : W.grownBy w5 (some p)) (hp : p ≠ pn) : (∀ o, w5.cell? ⟨pn, o, none⟩ = A[o]?) ∧ pn < w5.heap.size :=
  ⟨fun o => ((h.below hW).kept hg (fun e => hp (by cases e; rfl))).cell o, ((h.below hW).kept hg (fun e => hp (by cases e; rfl))).lt⟩
theorem cell_set5 {w : World} {b b' o : Nat} {v0 v1 v2 v3 v4 : Value} (h : b' ≠ b) : (((((w.setCell ⟨b, 0, none⟩ v0).setCell ⟨b, 1, none⟩ v1).setCell ⟨b, 2, none⟩ v2).setCell ⟨b, 3, none⟩ v3).setCell ⟨b, 4, none⟩ v4).cell? ⟨b', o, none⟩ = w.cell? ⟨b', o, none⟩ := by
  apply World.cell?_of_block
  show ((((((w.setCell ⟨b, 0, none⟩ v0).setCell ⟨b, 1, none⟩ v1).setCell ⟨b, 2, none⟩ v2).setCell ⟨b, 3, none⟩ v3).setCell ⟨b, 4, none⟩ v4)).heap[b']? = _
  rw [Below.heap_setCell _ _ _ _ h, Below.heap_setCell _ _ _ _ h, Below.heap_setCell _ _ _ _ h, Below.heap_setCell _ _ _ _ h, Below.heap_setCell _ _ _ _ h]
theorem lt_alloc {w : World} {a : Nat} {o : Obj} (h : a < w.heap.size) : a < (w.alloc o).heap.size := by simp; omega
/-- what holds where the packet has been put together -/
structure UF (w w6 : World) (p q : Nat) (v : Value) (d : List UInt8) (at2 e1 : Nat) (a0 a1 a2 a3 : Int) (b5 : Option Addr) (c5 : Nat) : Prop where
  pk : Blk w6 q #[.int .i64 a0, .int .i64 a1, .int .i64 a2, .int .i64 a3, .slice b5 d.length c5] 34
  gt : Gt w6 p v at2 e1
  own : Ow w6 (w.heap.size + 1) (.slice b5 d.length c5) d
  row : ∀ k, (Value.slice b5 d.length c5).ownBlock = some k → k ≠ p
  below : Below w.heap.size w w6
  box : Blk w6 w.heap.size #[.int .i64 0, .int .i64 0, .int .i64 0, .int .i64 0, .slice none 0 0] 34
  ne : q ≠ p ∧ w.heap.size < q ∧ w.heap.size < p
theorem uf_one {w wr w5 : World} {p q : Nat} {v : Value} {c d : List UInt8} {at2 e1 : Nat} {a0 a1 a2 a3 : Int} {b5 : Option Addr} {c5 : Nat} (hg5 : Gt w5 p v at2 e1) (ho5 : Ow w5 wr.drew.heap.size (.slice b5 d.length c5) d) (hgr5 : wr.drew.grownBy w5 (some p))
    (hw : Below w.heap.size w wr) (hx : Blk wr w.heap.size #[.int .i64 0, .int .i64 0, .int .i64 0, .int .i64 0, .slice none 0 0] 34) (ho : Ow wr (w.heap.size + 1) v c) (hp : w.heap.size < p) (hpr : p < wr.heap.size) :
    UF w (w5.alloc (.cells #[.int .i64 a0, .int .i64 a1, .int .i64 a2, .int .i64 a3, .slice b5 d.length c5] 34)) p w5.heap.size v d at2 e1 a0 a1 a2 a3 b5 c5 := by
  have hs : wr.heap.size ≤ w5.heap.size := hgr5.size
  have hws := hw.size
  have hgr : wr.grownBy w5 (some p) := below_grown (Below.refl wr.heap.size wr).drew hgr5
  refine ⟨Blk.new _ _ _, hg5.below ((Below.refl _ _).alloc (Nat.le_refl _) _), (ho5.mono (by show w.heap.size + 1 ≤ wr.heap.size; omega)).alloc _, fun k hk => ?_, (hw.grown hgr hws (fun k hk => by cases hk; omega)).alloc (by omega) _, (hx.kept hgr (fun e => by cases e; omega)).below ((Below.refl _ _).alloc (Nat.le_refl _) _), by omega, by omega, hp⟩
  have : wr.heap.size ≤ k := (ho5.lt k hk).1
  omega
theorem uf_two {w wr w5 : World} {p : Nat} {v : Value} {c d : List UInt8} {at2 e1 : Nat} {a0 a1 a2 a3 : Int} {b5 : Option Addr} {c5 : Nat} {Z : Array Value} (hg5 : Gt w5 p v at2 e1) (ho5 : Ow w5 (wr.alloc (.cells Z 34)).drew.heap.size (.slice b5 d.length c5) d) (hgr5 : (wr.alloc (.cells Z 34)).drew.grownBy w5 (some p))
    (hw : Below w.heap.size w wr) (hx : Blk wr w.heap.size #[.int .i64 0, .int .i64 0, .int .i64 0, .int .i64 0, .slice none 0 0] 34) (ho : Ow wr (w.heap.size + 1) v c) (hp : w.heap.size < p) (hpr : p < wr.heap.size) (hZ : Z = #[.int .i64 0, .int .i64 0, .int .i64 0, .int .i64 0, .slice none 0 0] := by rfl) :
    UF w (((((w5.setCell ⟨wr.heap.size, 0, none⟩ (.int .i64 a0)).setCell ⟨wr.heap.size, 1, none⟩ (.int .i64 a1)).setCell ⟨wr.heap.size, 2, none⟩ (.int .i64 a2)).setCell ⟨wr.heap.size, 3, none⟩ (.int .i64 a3)).setCell ⟨wr.heap.size, 4, none⟩ (.slice b5 d.length c5)) p wr.heap.size v d at2 e1 a0 a1 a2 a3 b5 c5 := by
  subst hZ
  have hs : (wr.alloc (.cells #[.int .i64 0, .int .i64 0, .int .i64 0, .int .i64 0, .slice none 0 0] 34)).heap.size ≤ w5.heap.size := hgr5.size
  simp at hs
  have hws := hw.size
  have hgr : wr.grownBy w5 (some p) := below_grown ((Below.refl wr.heap.size wr).alloc (Nat.le_refl _) _).drew hgr5
  have hq : Blk w5 wr.heap.size #[.int .i64 0, .int .i64 0, .int .i64 0, .int .i64 0, .slice none 0 0] 34 := ((Blk.new wr _ _).below (Below.refl _ _).drew).kept hgr5 (fun e => by have := Option.some.inj e; omega)
  have h6 : w5.grownBy (((((w5.setCell ⟨wr.heap.size, 0, none⟩ (.int .i64 a0)).setCell ⟨wr.heap.size, 1, none⟩ (.int .i64 a1)).setCell ⟨wr.heap.size, 2, none⟩ (.int .i64 a2)).setCell ⟨wr.heap.size, 3, none⟩ (.int .i64 a3)).setCell ⟨wr.heap.size, 4, none⟩ (.slice b5 d.length c5)) (some wr.heap.size) :=
    grown_set (grown_set (grown_set (grown_set (grown_set (grown_refl _ _) _ _) _ _) _ _) _ _) _ _
  have hlo : ∀ k, (Value.slice b5 d.length c5).ownBlock = some k → wr.heap.size + 1 ≤ k := fun k hk => by have := (ho5.lt k hk).1; simpa using this
  refine ⟨((((hq.set 0 _).set 1 _).set 2 _).set 3 _).set 4 _, hg5.kept h6 (fun e => by have := Option.some.inj e; omega), own_kept (ho5.mono (by show w.heap.size + 1 ≤ (wr.alloc _).heap.size; simp; omega)) h6 (fun k hk e => by cases e; have := hlo _ hk; omega), fun k hk => by have := hlo k hk; omega,
    (hw.grown hgr hws (fun k hk => by cases hk; omega)).grown h6 (by omega) (fun k hk => by cases hk; omega), (hx.kept hgr (fun e => by have := Option.some.inj e; omega)).kept h6 (fun e => by have := Option.some.inj e; omega), by omega, by omega, hp⟩
theorem UF.below_ {w w6 w7 : World} {p q : Nat} {v : Value} {d : List UInt8} {at2 e1 : Nat} {a0 a1 a2 a3 : Int} {b5 : Option Addr} {c5 : Nat} (h : UF w w6 p q v d at2 e1 a0 a1 a2 a3 b5 c5) (hb : Below w6.heap.size w6 w7) : UF w w7 p q v d at2 e1 a0 a1 a2 a3 b5 c5 :=
  ⟨h.pk.below hb, h.gt.below hb, own_below h.own hb, h.row, h.below.trans (hb.mono h.below.size), h.box.below hb, h.ne⟩
theorem UF.err {w w6 w7 : World} {p q : Nat} {v : Value} {d : List UInt8} {at2 e1 e2 : Nat} {a0 a1 a2 a3 : Int} {b5 : Option Addr} {c5 : Nat} (h : UF w w6 p q v d at2 e1 a0 a1 a2 a3 b5 c5) (hg : Gt w7 p v at2 e2) (hb : w6.grownBy w7 (some p)) : UF w w7 p q v d at2 e2 a0 a1 a2 a3 b5 c5 :=
  ⟨h.pk.kept hb (fun e => h.ne.1 (Option.some.inj e)), hg, own_kept h.own hb (fun k hk e => h.row k hk (Option.some.inj e).symm), h.row, h.below.grown hb h.below.size (fun k hk => by have := Option.some.inj hk; have := h.ne; omega), h.box.kept hb (fun e => by have := Option.some.inj e; have := h.ne; omega), h.ne⟩
/-- what Unpack makes of bytes whose sum is right -/
def fin (c : List UInt8) : Int × Int × Int × Int × List UInt8 × Nat := if er3 c ≠ 0 then (0, 0, 0, 0, [], er3 c) else (IntKind.i64.wrap (gx c 0), IntKind.i64.wrap (gx c 1), IntKind.i64.wrap (gx c 2), IntKind.i64.wrap (gx c 3), (bl4 c).1, 0)
theorem fin_cases (c : List UInt8) (d : List UInt8) (at2 e1 : Nat) (a0 a1 a2 a3 : Int) (h0 : a0 = IntKind.i64.wrap (gx c 0)) (h1 : a1 = IntKind.i64.wrap (gx c 1)) (h2 : a2 = IntKind.i64.wrap (gx c 2)) (h3 : a3 = IntKind.i64.wrap (gx c 3)) (hb : bl4 c = (d, at2, e1)) :
    (e1 ≠ 0 → fin c = (0, 0, 0, 0, [], e1)) ∧ (e1 = 0 → rightB a0 a1 a2 a3 d.length = false → fin c = (0, 0, 0, 0, [], 14)) ∧
    (e1 = 0 → rightB a0 a1 a2 a3 d.length = true → at2 < c.length → fin c = (0, 0, 0, 0, [], 10)) ∧ (e1 = 0 → rightB a0 a1 a2 a3 d.length = true → ¬ at2 < c.length → fin c = (a0, a1, a2, a3, d, 0)) := by
  subst h0; subst h1; subst h2; subst h3
  have e2 : er2 c = if e1 = 0 ∧ rightB (IntKind.i64.wrap (gx c 0)) (IntKind.i64.wrap (gx c 1)) (IntKind.i64.wrap (gx c 2)) (IntKind.i64.wrap (gx c 3)) d.length = false then 14 else e1 := by unfold er2; rw [hb]
  have e3 : er3 c = gend c.length at2 (er2 c) := by unfold er3; rw [hb]
  have ef : fin c = if er3 c ≠ 0 then (0, 0, 0, 0, [], er3 c) else (IntKind.i64.wrap (gx c 0), IntKind.i64.wrap (gx c 1), IntKind.i64.wrap (gx c 2), IntKind.i64.wrap (gx c 3), d, 0) := by unfold fin; rw [hb]
  rw [ef, e3]
  refine ⟨fun h => ?_, fun h hr => ?_, fun h hr ha => ?_, fun h hr ha => ?_⟩
  · have q : er2 c = e1 := by rw [e2, if_neg (fun q => h q.1)]
    have q2 : gend c.length at2 e1 = e1 := by unfold gend; rw [if_neg (fun q => h q.1)]
    rw [q, q2, if_pos h]
  · have q : er2 c = 14 := by rw [e2, if_pos ⟨h, hr⟩]
    have q2 : gend c.length at2 14 = 14 := by unfold gend; rw [if_neg (fun q => by cases q.1)]
    rw [q, q2, if_pos (by decide)]
  · have q : er2 c = 0 := by rw [e2, if_neg (fun q => by rw [hr] at q; cases q.2), h]
    have q2 : gend c.length at2 0 = 10 := by unfold gend; rw [if_pos ⟨rfl, ha⟩]
    rw [q, q2, if_pos (by decide)]
  · have q : er2 c = 0 := by rw [e2, if_neg (fun q => by rw [hr] at q; cases q.2), h]
    have q2 : gend c.length at2 0 = 0 := by unfold gend; rw [if_neg (fun q => ha q.2)]
    rw [q, q2, if_neg (by decide)]
set_option maxHeartbeats 4000000 in
set_option maxRecDepth 100000 in
theorem unpack_body (ba : Option Addr) (n cap : Nat) (l c : List UInt8) (F L S A : Int) (D : List UInt8) (E : Nat) (w : World) (hn : l.length = n) (hr : Rd w ba l) (hb : ba = none → n = 0) (hl : n ≤ 1048640) (hc : n ≤ cap) (ho : Lock (By.opn l = (c, 0))) (hF : Lock (fin c = (F, L, S, A, D, E))) :
    Calls Try.prog 30 #[.slice ba n cap] w (UnpPost F L S A D E w) := by
  have co : ∀ W, Below w.heap.size w W → Calls Try.prog 62 #[.slice ba n cap, .int .i64 1048640] W (OpnPost (By.opn l).1 (By.opn l).2 W) := fun W hW => opened_any ba n cap 1048640 l W hn (hr.below hW) hb (by omega) hc hl
  have hcl : (By.opn l).1.length ≤ n := by
    unfold By.opn
    split
    · exact Nat.zero_le _
    · split
      · simp only [List.length_take]; omega
      · exact Nat.zero_le _
  rw [ho.out] at co hcl
  simp only at hcl
  have CO := Lib.hid co
  clear co hr hb hn ho
  go_enter Try.func30, Try.ntmps30
  go_wp2_with fail
  with_reducible refine (CO.out _ ((Below.refl _ _).alloc (Nat.le_refl _) _)).mono ?_
  rintro e w1 ⟨p, v1, rfl, hg1, ho1, hv1, hp1, hb1⟩
  obtain ⟨b1, c1, rfl, hr1, hn1, hc1⟩ := ho1.rd
  have HG1 := Lib.hid hg1
  have HO1 := Lib.hid ho1
  have HB1 := Lib.hid hb1
  have HV1 := Lib.hid hv1
  clear hg1 ho1 hb1 hr1 hn1 hc1 hv1
  go_wp2_with fail
  have hpL : w.heap.size + 1 ≤ p := by simpa using hp1
  have hpN : p < w1.heap.size := HG1.out.lt
  have hbox : Blk w1 w.heap.size #[.int .i64 0, .int .i64 0, .int .i64 0, .int .i64 0, .slice none 0 0] 34 := (Blk.new w _ _).below HB1.out
  have HBX := Lib.hid hbox
  have HBW : Hid (Below w.heap.size w w1) := Lib.hid (((Below.refl w.heap.size w).alloc (Nat.le_refl _) _).trans (HB1.out.mono (by simp)))
  have HOW : Hid (Ow w1 (w.heap.size + 1) (.slice b1 c.length c1) c) := Lib.hid (HO1.out.mono (by simp))
  clear hp1 hbox HB1 HO1
  go_loopw [20] (fun iv wr => UpRel c p w1.heap.size (.slice b1 c.length c1) w iv wr) (fun i _ => 4 - (intOf i).toNat)
  case atStart => exact ⟨0, by omega, rfl, HG1.out.below ((Below.refl _ _).alloc (Nat.le_refl _) _), Blk.new _ _ _, HOW.out.alloc _, HBW.out.alloc HBW.out.size _, HBX.out.below ((Below.refl _ _).alloc (Nat.le_refl _) _)⟩
  case round =>
    obtain ⟨j, hj, rfl, hg, hb2, ho2, hw2, hx2⟩ := hrel
    obtain ⟨hrd, hba, hcp, _⟩ := ho2.rd1
    have hsle := gs_le c j
    have hpr := hg.lt
    have hnr := hb2.lt
    have HG := Lib.hid hg
    have HN := Lib.hid hb2
    have HO := Lib.hid ho2
    have HW := Lib.hid hw2
    have HX := Lib.hid hx2
    by_cases hj4 : j < 4
    · have cn := guint_any p b1 c.length c1 c (gs c j).1 (gs c j).2 wr hg rfl hrd hsle (by omega)
      have e1 : gs c (j + 1) = ((gnum c (gs c j).1 (gs c j).2).2.1, gtop (gnum c (gs c j).1 (gs c j).2).1 (gnum c (gs c j).1 (gs c j).2).2.2) := rfl
      have e2 : gx c j = (gnum c (gs c j).1 (gs c j).2).1 := rfl
      have e3 := narr_next c j hj4
      have e4 := narr_at c j hj4
      rw [e2] at e3
      clear e2
      generalize gnum c (gs c j).1 (gs c j).2 = r at cn e1 e3
      obtain ⟨x, at2, er2⟩ := r
      simp only at cn e1 e3
      have CN := Lib.hid cn
      have E1 := Lib.hid e1
      have E3 := Lib.hid e3
      have E4 := Lib.hid e4
      clear hg hb2 ho2 hw2 hx2 hrd hba cn e1 e3 e4
      go_wp2_with fail
      with_reducible refine (CN.out).mono ?_
      rintro e w3 ⟨rfl, hg3, hgr3⟩
      have c2 := hg3.cell 2
      have hf3 := fun o => hg3.free o
      have hp3 := hg3.lt
      have hN3 := HN.out.kept hgr3 (by intro e; cases e; omega)
      have hn3 := hN3.lt
      have hx3 := HX.out.kept hgr3 (by intro e; cases e; omega)
      have hne : ∀ k, (Value.slice b1 c.length c1).ownBlock = some k → some p ≠ some k := by
        intro k hk e; cases e; exact absurd (HV1.out p hk) (Nat.lt_irrefl _)
      have ho3 := own_kept HO.out hgr3 hne
      clear hne
      have hcj := hN3.cell j
      rw [E4.out] at hcj
      have hfj := hN3.free j
      have hw3 : Below w.heap.size w w3 := HW.out.grown hgr3 HW.out.size (fun k hk => by cases hk; omega)
      have HG3 := Lib.hid hg3
      have HN3 := Lib.hid hN3
      have HX3 := Lib.hid hx3
      have HO3 := Lib.hid ho3
      have HW3 := Lib.hid hw3
      clear hg3 hN3 hx3 ho3 hw3 hgr3
      by_cases her : er2 = 0
      · subst her
        by_cases htop : 4611686018427387904 < x
        · have i1 : (4611686018427387904 : Int) < (x : Int) := by omega
          have hg5 := E1.out
          unfold gtop at hg5
          rw [if_pos ⟨rfl, htop⟩] at hg5
          have HG5 : Lock (gs c (j + 1) = (at2, 14)) := ⟨hg5⟩
          clear hg5
          go_wp2_with fail
          obtain ⟨m1, m2, m3, m4, m5⟩ := up_e (e' := 14) HG3.out HN3.out HO3.out HW3.out HX3.out (by omega) (by omega) (fun k hk e => by subst e; exact absurd (HV1.out k hk) (Nat.lt_irrefl _))
          exact ⟨up_n hj4 (by rw [HG5.out]; exact m1) m2 m3 m4 m5 (by rw [← E3.out]; congr 2; unfold wrap64; rw [IntKind.wrap_i64]) (by omega) (by omega) (fun k hk e => by have := HV1.out k hk; omega), by simp [intOf]; omega⟩
        · have hg5 := E1.out
          unfold gtop at hg5
          rw [if_neg (fun h => htop h.2)] at hg5
          have HG5 : Lock (gs c (j + 1) = (at2, 0)) := ⟨hg5⟩
          have i1 : ¬ (4611686018427387904 : Int) < (x : Int) := by omega
          have i2 : decide ((4611686018427387904 : Int) < (x : Int)) = false := by simp; omega
          clear hg5
          go_wp2_with fail
          exact ⟨up_n hj4 (by rw [HG5.out]; exact HG3.out) HN3.out HO3.out HW3.out HX3.out (by rw [← E3.out, IntWalk.i64_in _ (by omega)]) (by omega) (by omega) (fun k hk e => by have := HV1.out k hk; omega), by simp [intOf]; omega⟩
      · have hg5 := E1.out
        unfold gtop at hg5
        rw [if_neg (fun h => her h.1)] at hg5
        have HG5 : Lock (gs c (j + 1) = (at2, er2)) := ⟨hg5⟩
        have i1 : ((er2 : Int) == 0) = false := bneI (by omega)
        clear hg5
        go_wp2_with fail
        exact ⟨up_n hj4 (by rw [HG5.out]; exact HG3.out) HN3.out HO3.out HW3.out HX3.out (by rw [← E3.out]; congr 2; unfold wrap64; rw [IntKind.wrap_i64]) (by omega) (by omega) (fun k hk e => by have := HV1.out k hk; omega), by simp [intOf]; omega⟩
    · obtain rfl : j = 4 := by omega
      have cb := fun W (hW : Below wr.heap.size wr W) => gblob_any p b1 c.length c1 c (gs c 4).1 (gs c 4).2 1048576 W (hg.below hW) rfl (hrd.below hW) hba hsle hcp (by omega) (by omega)
      rw [← bl4_eq c] at cb
      obtain ⟨a0, h0⟩ : ∃ a0, a0 = IntKind.i64.wrap (gx c 0) := ⟨_, rfl⟩
      obtain ⟨a1, h1⟩ : ∃ a1, a1 = IntKind.i64.wrap (gx c 1) := ⟨_, rfl⟩
      obtain ⟨a2, h2⟩ : ∃ a2, a2 = IntKind.i64.wrap (gx c 2) := ⟨_, rfl⟩
      obtain ⟨a3, h3⟩ : ∃ a3, a3 = IntKind.i64.wrap (gx c 3) := ⟨_, rfl⟩
      have hnar : narr c 4 = #[.int .i64 a0, .int .i64 a1, .int .i64 a2, .int .i64 a3] := by rw [h0, h1, h2, h3]; rfl
      rw [hnar] at hb2
      generalize hbl : bl4 c = r at cb
      obtain ⟨d, at2, e1⟩ := r
      simp only at cb
      have hfc := fin_cases c d at2 e1 a0 a1 a2 a3 h0 h1 h2 h3 hbl
      have FC : Lock _ := ⟨hfc⟩
      have CB := Lib.hid cb
      have HN4 := Lib.hid hb2
      have k0 := hb2.cell 0
      have k1 := hb2.cell 1
      have k2 := hb2.cell 2
      have k3 := hb2.cell 3
      clear cb hfc h0 h1 h2 h3 hnar hbl hg hb2 ho2 hw2 hx2 hrd hba HN HG hsle
      go_wp2_with fail
      go_region_held3 (fun w' => w'.cell? ⟨w1.heap.size, 0, none⟩ = some (.int .i64 a0) ∧ w'.cell? ⟨w1.heap.size, 1, none⟩ = some (.int .i64 a1) ∧ w'.cell? ⟨w1.heap.size, 2, none⟩ = some (.int .i64 a2) ∧ w'.cell? ⟨w1.heap.size, 3, none⟩ = some (.int .i64 a3)) ((first | (go_keep; done) | ((try dsimp only); refine ⟨?_, ?_, ?_, ?_⟩ <;> (first | (go_keep; done) | ((with_reducible refine Lib.cell?_alloc_some _ ?_); go_keep; done) | ((with_reducible refine (cell_set5 (Nat.ne_of_lt hnr)).trans ?_); go_keep; done))))) (first | (go_at_call 64; refine (CB.out _ ?_).mono ?_; exact (Below.refl _ _).drew; rintro e w5 ⟨v5, rfl, ho5, hg5, hgr5⟩; obtain ⟨b5, c5, rfl, hr5, hn5, hc5⟩ := ho5.rd; obtain ⟨k5, s5⟩ := narr_grown HN4.out (Below.refl _ _).drew hgr5 (by omega)) | (go_at_call 64; refine (CB.out _ ?_).mono ?_; exact ((Below.refl _ _).alloc (Nat.le_refl _) _).drew; rintro e w5 ⟨v5, rfl, ho5, hg5, hgr5⟩; obtain ⟨b5, c5, rfl, hr5, hn5, hc5⟩ := ho5.rd; obtain ⟨k5, s5⟩ := narr_grown HN4.out ((Below.refl _ _).alloc (Nat.le_refl _) _).drew hgr5 (by omega); obtain ⟨z1, z2, z3⟩ := box_grown hgr5 (by omega)))
      · have UFX := uf_one (q := w5.heap.size) (c := c) (v := .slice b1 c.length c1) (a0 := a0) (a1 := a1) (a2 := a2) (a3 := a3) hg5 ho5 hgr5 HW.out HX.out HO.out (by omega) (by omega)
        generalize w5.alloc (.cells #[.int .i64 a0, .int .i64 a1, .int .i64 a2, .int .i64 a3, .slice b5 d.length c5] 34) = w6 at UFX ⊢
        generalize w5.heap.size = q at UFX ⊢
        have HU := Lib.hid UFX
        clear UFX
        by_cases he : e1 = 0
        · subst he
          have cr := fun W => right_any a0 a1 a2 a3 b5 d.length c5 W
          cases hrb : rightB a0 a1 a2 a3 d.length with
          | false =>
            obtain ⟨rfl, rfl, rfl, rfl, rfl, rfl⟩ : F = 0 ∧ L = 0 ∧ S = 0 ∧ A = 0 ∧ D = [] ∧ E = 14 := by have h := hF.out.symm.trans (FC.out.2.1 rfl hrb); simpa using h
            rw [hrb] at cr
            have CR := Lib.hid cr
            clear hrb cr hF FC
            have g2 := HU.out.gt.cell 2
            have gf := fun o => HU.out.gt.free o
            have gl := HU.out.gt.lt
            have m0 := HU.out.pk.cell 0
            have m1 := HU.out.pk.cell 1
            have m2 := HU.out.pk.cell 2
            have m3 := HU.out.pk.cell 3
            have m4 := HU.out.pk.cell 4
            have z0 := HU.out.box.cell 0
            have z1 := HU.out.box.cell 1
            have z2 := HU.out.box.cell 2
            have z3 := HU.out.box.cell 3
            have z4 := HU.out.box.cell 4
            have zf := fun o => HU.out.box.free o
            have zl := HU.out.box.lt
            obtain ⟨n1, n2, n3⟩ := HU.out.ne
            go_wp2_with fail
            with_reducible refine (CR.out _).mono ?_
            rintro e w7 ⟨rfl, hb7⟩
            have HU7 := Lib.hid (HU.out.below_ hb7)
            clear hb7
            clear g2 gf gl m0 m1 m2 m3 m4 z0 z1 z2 z3 z4 zf zl n1 n2 n3
            have g2 := HU7.out.gt.cell 2
            have gf := fun o => HU7.out.gt.free o
            have gl := HU7.out.gt.lt
            have m0 := HU7.out.pk.cell 0
            have m1 := HU7.out.pk.cell 1
            have m2 := HU7.out.pk.cell 2
            have m3 := HU7.out.pk.cell 3
            have m4 := HU7.out.pk.cell 4
            have z0 := HU7.out.box.cell 0
            have z1 := HU7.out.box.cell 1
            have z2 := HU7.out.box.cell 2
            have z3 := HU7.out.box.cell 3
            have z4 := HU7.out.box.cell 4
            have zf := fun o => HU7.out.box.free o
            have zl := HU7.out.box.lt
            obtain ⟨n1, n2, n3⟩ := HU7.out.ne
            have hfin := (HU7.out.gt.set 2 (.int .i64 14))
            have hgr := grown_set (grown_refl w7 (some p)) 2 (.int .i64 14)
            have HU8 := Lib.hid (HU7.out.err (e2 := 14) hfin hgr)
            clear hfin hgr
            have ec := gend_any p b1 c.length c1 at2 14 _ HU8.out.gt
            rw [show gend c.length at2 14 = 14 from by unfold gend; rw [if_neg (fun q => by cases q.1)]] at ec
            have EC := Lib.hid ec
            clear ec
            go_wp2_with fail
            with_reducible refine (EC.out).mono ?_
            rintro e w9 ⟨rfl, hg9, hgr9⟩
            have HU9 := Lib.hid (HU8.out.err hg9 hgr9)
            clear hg9 hgr9
            clear g2 gf gl m0 m1 m2 m3 m4 z0 z1 z2 z3 z4 zf zl n1 n2 n3
            have g2 := HU9.out.gt.cell 2
            have gf := fun o => HU9.out.gt.free o
            have gl := HU9.out.gt.lt
            have m0 := HU9.out.pk.cell 0
            have m1 := HU9.out.pk.cell 1
            have m2 := HU9.out.pk.cell 2
            have m3 := HU9.out.pk.cell 3
            have m4 := HU9.out.pk.cell 4
            have z0 := HU9.out.box.cell 0
            have z1 := HU9.out.box.cell 1
            have z2 := HU9.out.box.cell 2
            have z3 := HU9.out.box.cell 3
            have z4 := HU9.out.box.cell 4
            have zf := fun o => HU9.out.box.free o
            have zl := HU9.out.box.lt
            obtain ⟨n1, n2, n3⟩ := HU9.out.ne
            go_wp2
            exact bodyPost_ret (v := .tuple #[.agg #[.int .i64 0, .int .i64 0, .int .i64 0, .int .i64 0, .slice none 0 0], .int .i64 14]) (by unfold results; rw [Try.results30]; go_simp) rfl ⟨_, rfl, Ow.nil _ _, (((((HU9.out.below.setCell (p := ⟨w.heap.size, 0, none⟩) (Nat.le_refl _) _).setCell (p := ⟨w.heap.size, 1, none⟩) (Nat.le_refl _) _).setCell (p := ⟨w.heap.size, 2, none⟩) (Nat.le_refl _) _).setCell (p := ⟨w.heap.size, 3, none⟩) (Nat.le_refl _) _).setCell (p := ⟨w.heap.size, 4, none⟩) (Nat.le_refl _) _)⟩
          | true =>
            by_cases hat : at2 < c.length
            · obtain ⟨rfl, rfl, rfl, rfl, rfl, rfl⟩ : F = 0 ∧ L = 0 ∧ S = 0 ∧ A = 0 ∧ D = [] ∧ E = 10 := by have h := hF.out.symm.trans (FC.out.2.2.1 rfl hrb hat); simpa using h
              rw [hrb] at cr
              have CR := Lib.hid cr
              clear hrb cr hF FC
              have g2 := HU.out.gt.cell 2
              have gf := fun o => HU.out.gt.free o
              have gl := HU.out.gt.lt
              have m0 := HU.out.pk.cell 0
              have m1 := HU.out.pk.cell 1
              have m2 := HU.out.pk.cell 2
              have m3 := HU.out.pk.cell 3
              have m4 := HU.out.pk.cell 4
              have z0 := HU.out.box.cell 0
              have z1 := HU.out.box.cell 1
              have z2 := HU.out.box.cell 2
              have z3 := HU.out.box.cell 3
              have z4 := HU.out.box.cell 4
              have zf := fun o => HU.out.box.free o
              have zl := HU.out.box.lt
              obtain ⟨n1, n2, n3⟩ := HU.out.ne
              go_wp2_with fail
              with_reducible refine (CR.out _).mono ?_
              rintro e w7 ⟨rfl, hb7⟩
              have HU7 := Lib.hid (HU.out.below_ hb7)
              clear hb7
              clear g2 gf gl m0 m1 m2 m3 m4 z0 z1 z2 z3 z4 zf zl n1 n2 n3
              have g2 := HU7.out.gt.cell 2
              have gf := fun o => HU7.out.gt.free o
              have gl := HU7.out.gt.lt
              have m0 := HU7.out.pk.cell 0
              have m1 := HU7.out.pk.cell 1
              have m2 := HU7.out.pk.cell 2
              have m3 := HU7.out.pk.cell 3
              have m4 := HU7.out.pk.cell 4
              have z0 := HU7.out.box.cell 0
              have z1 := HU7.out.box.cell 1
              have z2 := HU7.out.box.cell 2
              have z3 := HU7.out.box.cell 3
              have z4 := HU7.out.box.cell 4
              have zf := fun o => HU7.out.box.free o
              have zl := HU7.out.box.lt
              obtain ⟨n1, n2, n3⟩ := HU7.out.ne
              have ec := gend_any p b1 c.length c1 at2 0 _ HU7.out.gt
              rw [show gend c.length at2 0 = 10 from by unfold gend; rw [if_pos ⟨rfl, hat⟩]] at ec
              have EC := Lib.hid ec
              clear ec
              go_wp2_with fail
              with_reducible refine (EC.out).mono ?_
              rintro e w9 ⟨rfl, hg9, hgr9⟩
              have HU9 := Lib.hid (HU7.out.err hg9 hgr9)
              clear hg9 hgr9
              clear g2 gf gl m0 m1 m2 m3 m4 z0 z1 z2 z3 z4 zf zl n1 n2 n3
              have g2 := HU9.out.gt.cell 2
              have gf := fun o => HU9.out.gt.free o
              have gl := HU9.out.gt.lt
              have m0 := HU9.out.pk.cell 0
              have m1 := HU9.out.pk.cell 1
              have m2 := HU9.out.pk.cell 2
              have m3 := HU9.out.pk.cell 3
              have m4 := HU9.out.pk.cell 4
              have z0 := HU9.out.box.cell 0
              have z1 := HU9.out.box.cell 1
              have z2 := HU9.out.box.cell 2
              have z3 := HU9.out.box.cell 3
              have z4 := HU9.out.box.cell 4
              have zf := fun o => HU9.out.box.free o
              have zl := HU9.out.box.lt
              obtain ⟨n1, n2, n3⟩ := HU9.out.ne
              go_wp2
              exact bodyPost_ret (v := .tuple #[.agg #[.int .i64 0, .int .i64 0, .int .i64 0, .int .i64 0, .slice none 0 0], .int .i64 10]) (by unfold results; rw [Try.results30]; go_simp) rfl ⟨_, rfl, Ow.nil _ _, (((((HU9.out.below.setCell (p := ⟨w.heap.size, 0, none⟩) (Nat.le_refl _) _).setCell (p := ⟨w.heap.size, 1, none⟩) (Nat.le_refl _) _).setCell (p := ⟨w.heap.size, 2, none⟩) (Nat.le_refl _) _).setCell (p := ⟨w.heap.size, 3, none⟩) (Nat.le_refl _) _).setCell (p := ⟨w.heap.size, 4, none⟩) (Nat.le_refl _) _)⟩
            · obtain ⟨rfl, rfl, rfl, rfl, rfl, rfl⟩ : F = a0 ∧ L = a1 ∧ S = a2 ∧ A = a3 ∧ D = d ∧ E = 0 := by have h := hF.out.symm.trans (FC.out.2.2.2 rfl hrb hat); simpa using h
              rw [hrb] at cr
              have CR := Lib.hid cr
              clear hrb cr hF FC
              have g2 := HU.out.gt.cell 2
              have gf := fun o => HU.out.gt.free o
              have gl := HU.out.gt.lt
              have m0 := HU.out.pk.cell 0
              have m1 := HU.out.pk.cell 1
              have m2 := HU.out.pk.cell 2
              have m3 := HU.out.pk.cell 3
              have m4 := HU.out.pk.cell 4
              have z0 := HU.out.box.cell 0
              have z1 := HU.out.box.cell 1
              have z2 := HU.out.box.cell 2
              have z3 := HU.out.box.cell 3
              have z4 := HU.out.box.cell 4
              have zf := fun o => HU.out.box.free o
              have zl := HU.out.box.lt
              obtain ⟨n1, n2, n3⟩ := HU.out.ne
              go_wp2_with fail
              with_reducible refine (CR.out _).mono ?_
              rintro e w7 ⟨rfl, hb7⟩
              have HU7 := Lib.hid (HU.out.below_ hb7)
              clear hb7
              clear g2 gf gl m0 m1 m2 m3 m4 z0 z1 z2 z3 z4 zf zl n1 n2 n3
              have g2 := HU7.out.gt.cell 2
              have gf := fun o => HU7.out.gt.free o
              have gl := HU7.out.gt.lt
              have m0 := HU7.out.pk.cell 0
              have m1 := HU7.out.pk.cell 1
              have m2 := HU7.out.pk.cell 2
              have m3 := HU7.out.pk.cell 3
              have m4 := HU7.out.pk.cell 4
              have z0 := HU7.out.box.cell 0
              have z1 := HU7.out.box.cell 1
              have z2 := HU7.out.box.cell 2
              have z3 := HU7.out.box.cell 3
              have z4 := HU7.out.box.cell 4
              have zf := fun o => HU7.out.box.free o
              have zl := HU7.out.box.lt
              obtain ⟨n1, n2, n3⟩ := HU7.out.ne
              have ec := gend_any p b1 c.length c1 at2 0 _ HU7.out.gt
              rw [show gend c.length at2 0 = 0 from by unfold gend; rw [if_neg (fun q => hat q.2)]] at ec
              have EC := Lib.hid ec
              clear ec
              go_wp2_with fail
              with_reducible refine (EC.out).mono ?_
              rintro e w9 ⟨rfl, hg9, hgr9⟩
              have HU9 := Lib.hid (HU7.out.err hg9 hgr9)
              clear hg9 hgr9
              clear g2 gf gl m0 m1 m2 m3 m4 z0 z1 z2 z3 z4 zf zl n1 n2 n3
              have g2 := HU9.out.gt.cell 2
              have gf := fun o => HU9.out.gt.free o
              have gl := HU9.out.gt.lt
              have m0 := HU9.out.pk.cell 0
              have m1 := HU9.out.pk.cell 1
              have m2 := HU9.out.pk.cell 2
              have m3 := HU9.out.pk.cell 3
              have m4 := HU9.out.pk.cell 4
              have z0 := HU9.out.box.cell 0
              have z1 := HU9.out.box.cell 1
              have z2 := HU9.out.box.cell 2
              have z3 := HU9.out.box.cell 3
              have z4 := HU9.out.box.cell 4
              have zf := fun o => HU9.out.box.free o
              have zl := HU9.out.box.lt
              obtain ⟨n1, n2, n3⟩ := HU9.out.ne
              go_wp2
              exact bodyPost_ret (v := .tuple #[.agg #[.int .i64 F, .int .i64 L, .int .i64 S, .int .i64 A, .slice b5 D.length c5], .int .i64 0]) (by unfold results; rw [Try.results30]; go_simp) rfl ⟨_, rfl, own_kept (HU9.out.own.mono (Nat.le_succ _)) (grown_set (grown_set (grown_set (grown_set (grown_set (grown_refl w9 (some w.heap.size)) 0 _) 1 _) 2 _) 3 _) 4 _) (fun k hk e => by have h1 := (HU9.out.own.lt k hk).1; have h2 := Option.some.inj e; omega), (((((HU9.out.below.setCell (p := ⟨w.heap.size, 0, none⟩) (Nat.le_refl _) _).setCell (p := ⟨w.heap.size, 1, none⟩) (Nat.le_refl _) _).setCell (p := ⟨w.heap.size, 2, none⟩) (Nat.le_refl _) _).setCell (p := ⟨w.heap.size, 3, none⟩) (Nat.le_refl _) _).setCell (p := ⟨w.heap.size, 4, none⟩) (Nat.le_refl _) _)⟩
        · obtain ⟨rfl, rfl, rfl, rfl, rfl, rfl⟩ : F = 0 ∧ L = 0 ∧ S = 0 ∧ A = 0 ∧ D = [] ∧ E = e1 := by have h := hF.out.symm.trans (FC.out.1 he); simpa using h
          have he1 : ((E : Int) == 0) = false := bneI (by omega)
          have he2 : ((E : Int) != 0) = true := by rw [bne_iff_ne]; omega
          clear hF FC
          have g2 := HU.out.gt.cell 2
          have gf := fun o => HU.out.gt.free o
          have gl := HU.out.gt.lt
          have m0 := HU.out.pk.cell 0
          have m1 := HU.out.pk.cell 1
          have m2 := HU.out.pk.cell 2
          have m3 := HU.out.pk.cell 3
          have m4 := HU.out.pk.cell 4
          have z0 := HU.out.box.cell 0
          have z1 := HU.out.box.cell 1
          have z2 := HU.out.box.cell 2
          have z3 := HU.out.box.cell 3
          have z4 := HU.out.box.cell 4
          have zf := fun o => HU.out.box.free o
          have zl := HU.out.box.lt
          obtain ⟨n1, n2, n3⟩ := HU.out.ne
          have ec := gend_any p b1 c.length c1 at2 E _ HU.out.gt
          rw [show gend c.length at2 E = E from by unfold gend; rw [if_neg (fun q => he q.1)]] at ec
          have EC := Lib.hid ec
          clear ec
          go_wp2_with fail
          with_reducible refine (EC.out).mono ?_
          rintro e w9 ⟨rfl, hg9, hgr9⟩
          have HU9 := Lib.hid (HU.out.err hg9 hgr9)
          clear hg9 hgr9
          clear g2 gf gl m0 m1 m2 m3 m4 z0 z1 z2 z3 z4 zf zl n1 n2 n3
          have g2 := HU9.out.gt.cell 2
          have gf := fun o => HU9.out.gt.free o
          have gl := HU9.out.gt.lt
          have m0 := HU9.out.pk.cell 0
          have m1 := HU9.out.pk.cell 1
          have m2 := HU9.out.pk.cell 2
          have m3 := HU9.out.pk.cell 3
          have m4 := HU9.out.pk.cell 4
          have z0 := HU9.out.box.cell 0
          have z1 := HU9.out.box.cell 1
          have z2 := HU9.out.box.cell 2
          have z3 := HU9.out.box.cell 3
          have z4 := HU9.out.box.cell 4
          have zf := fun o => HU9.out.box.free o
          have zl := HU9.out.box.lt
          obtain ⟨n1, n2, n3⟩ := HU9.out.ne
          go_wp2
          exact bodyPost_ret (v := .tuple #[.agg #[.int .i64 0, .int .i64 0, .int .i64 0, .int .i64 0, .slice none 0 0], .int .i64 E]) (by unfold results; rw [Try.results30]; go_simp) rfl ⟨_, rfl, Ow.nil _ _, (((((HU9.out.below.setCell (p := ⟨w.heap.size, 0, none⟩) (Nat.le_refl _) _).setCell (p := ⟨w.heap.size, 1, none⟩) (Nat.le_refl _) _).setCell (p := ⟨w.heap.size, 2, none⟩) (Nat.le_refl _) _).setCell (p := ⟨w.heap.size, 3, none⟩) (Nat.le_refl _) _).setCell (p := ⟨w.heap.size, 4, none⟩) (Nat.le_refl _) _)⟩
      · have UFX := uf_two (c := c) (v := .slice b1 c.length c1) (a0 := a0) (a1 := a1) (a2 := a2) (a3 := a3) hg5 ho5 hgr5 HW.out HX.out HO.out (by omega) (by omega)
        generalize (((((w5.setCell ⟨wr.heap.size, 0, none⟩ (.int .i64 a0)).setCell ⟨wr.heap.size, 1, none⟩ (.int .i64 a1)).setCell ⟨wr.heap.size, 2, none⟩ (.int .i64 a2)).setCell ⟨wr.heap.size, 3, none⟩ (.int .i64 a3)).setCell ⟨wr.heap.size, 4, none⟩ (.slice b5 d.length c5)) = w6 at UFX ⊢
        generalize wr.heap.size = q at UFX ⊢
        have HU := Lib.hid UFX
        clear UFX
        by_cases he : e1 = 0
        · subst he
          have cr := fun W => right_any a0 a1 a2 a3 b5 d.length c5 W
          cases hrb : rightB a0 a1 a2 a3 d.length with
          | false =>
            obtain ⟨rfl, rfl, rfl, rfl, rfl, rfl⟩ : F = 0 ∧ L = 0 ∧ S = 0 ∧ A = 0 ∧ D = [] ∧ E = 14 := by have h := hF.out.symm.trans (FC.out.2.1 rfl hrb); simpa using h
            rw [hrb] at cr
            have CR := Lib.hid cr
            clear hrb cr hF FC
            have g2 := HU.out.gt.cell 2
            have gf := fun o => HU.out.gt.free o
            have gl := HU.out.gt.lt
            have m0 := HU.out.pk.cell 0
            have m1 := HU.out.pk.cell 1
            have m2 := HU.out.pk.cell 2
            have m3 := HU.out.pk.cell 3
            have m4 := HU.out.pk.cell 4
            have z0 := HU.out.box.cell 0
            have z1 := HU.out.box.cell 1
            have z2 := HU.out.box.cell 2
            have z3 := HU.out.box.cell 3
            have z4 := HU.out.box.cell 4
            have zf := fun o => HU.out.box.free o
            have zl := HU.out.box.lt
            obtain ⟨n1, n2, n3⟩ := HU.out.ne
            go_wp2_with fail
            with_reducible refine (CR.out _).mono ?_
            rintro e w7 ⟨rfl, hb7⟩
            have HU7 := Lib.hid (HU.out.below_ hb7)
            clear hb7
            clear g2 gf gl m0 m1 m2 m3 m4 z0 z1 z2 z3 z4 zf zl n1 n2 n3
            have g2 := HU7.out.gt.cell 2
            have gf := fun o => HU7.out.gt.free o
            have gl := HU7.out.gt.lt
            have m0 := HU7.out.pk.cell 0
            have m1 := HU7.out.pk.cell 1
            have m2 := HU7.out.pk.cell 2
            have m3 := HU7.out.pk.cell 3
            have m4 := HU7.out.pk.cell 4
            have z0 := HU7.out.box.cell 0
            have z1 := HU7.out.box.cell 1
            have z2 := HU7.out.box.cell 2
            have z3 := HU7.out.box.cell 3
            have z4 := HU7.out.box.cell 4
            have zf := fun o => HU7.out.box.free o
            have zl := HU7.out.box.lt
            obtain ⟨n1, n2, n3⟩ := HU7.out.ne
            have hfin := (HU7.out.gt.set 2 (.int .i64 14))
            have hgr := grown_set (grown_refl w7 (some p)) 2 (.int .i64 14)
            have HU8 := Lib.hid (HU7.out.err (e2 := 14) hfin hgr)
            clear hfin hgr
            have ec := gend_any p b1 c.length c1 at2 14 _ HU8.out.gt
            rw [show gend c.length at2 14 = 14 from by unfold gend; rw [if_neg (fun q => by cases q.1)]] at ec
            have EC := Lib.hid ec
            clear ec
            go_wp2_with fail
            with_reducible refine (EC.out).mono ?_
            rintro e w9 ⟨rfl, hg9, hgr9⟩
            have HU9 := Lib.hid (HU8.out.err hg9 hgr9)
            clear hg9 hgr9
            clear g2 gf gl m0 m1 m2 m3 m4 z0 z1 z2 z3 z4 zf zl n1 n2 n3
            have g2 := HU9.out.gt.cell 2
            have gf := fun o => HU9.out.gt.free o
            have gl := HU9.out.gt.lt
            have m0 := HU9.out.pk.cell 0
            have m1 := HU9.out.pk.cell 1
            have m2 := HU9.out.pk.cell 2
            have m3 := HU9.out.pk.cell 3
            have m4 := HU9.out.pk.cell 4
            have z0 := HU9.out.box.cell 0
            have z1 := HU9.out.box.cell 1
            have z2 := HU9.out.box.cell 2
            have z3 := HU9.out.box.cell 3
            have z4 := HU9.out.box.cell 4
            have zf := fun o => HU9.out.box.free o
            have zl := HU9.out.box.lt
            obtain ⟨n1, n2, n3⟩ := HU9.out.ne
            go_wp2
            exact bodyPost_ret (v := .tuple #[.agg #[.int .i64 0, .int .i64 0, .int .i64 0, .int .i64 0, .slice none 0 0], .int .i64 14]) (by unfold results; rw [Try.results30]; go_simp) rfl ⟨_, rfl, Ow.nil _ _, (((((HU9.out.below.setCell (p := ⟨w.heap.size, 0, none⟩) (Nat.le_refl _) _).setCell (p := ⟨w.heap.size, 1, none⟩) (Nat.le_refl _) _).setCell (p := ⟨w.heap.size, 2, none⟩) (Nat.le_refl _) _).setCell (p := ⟨w.heap.size, 3, none⟩) (Nat.le_refl _) _).setCell (p := ⟨w.heap.size, 4, none⟩) (Nat.le_refl _) _)⟩
          | true =>
            by_cases hat : at2 < c.length
            · obtain ⟨rfl, rfl, rfl, rfl, rfl, rfl⟩ : F = 0 ∧ L = 0 ∧ S = 0 ∧ A = 0 ∧ D = [] ∧ E = 10 := by have h := hF.out.symm.trans (FC.out.2.2.1 rfl hrb hat); simpa using h
              rw [hrb] at cr
              have CR := Lib.hid cr
              clear hrb cr hF FC
              have g2 := HU.out.gt.cell 2
              have gf := fun o => HU.out.gt.free o
              have gl := HU.out.gt.lt
              have m0 := HU.out.pk.cell 0
              have m1 := HU.out.pk.cell 1
              have m2 := HU.out.pk.cell 2
              have m3 := HU.out.pk.cell 3
              have m4 := HU.out.pk.cell 4
              have z0 := HU.out.box.cell 0
              have z1 := HU.out.box.cell 1
              have z2 := HU.out.box.cell 2
              have z3 := HU.out.box.cell 3
              have z4 := HU.out.box.cell 4
              have zf := fun o => HU.out.box.free o
              have zl := HU.out.box.lt
              obtain ⟨n1, n2, n3⟩ := HU.out.ne
              go_wp2_with fail
              with_reducible refine (CR.out _).mono ?_
              rintro e w7 ⟨rfl, hb7⟩
              have HU7 := Lib.hid (HU.out.below_ hb7)
              clear hb7
              clear g2 gf gl m0 m1 m2 m3 m4 z0 z1 z2 z3 z4 zf zl n1 n2 n3
              have g2 := HU7.out.gt.cell 2
              have gf := fun o => HU7.out.gt.free o
              have gl := HU7.out.gt.lt
              have m0 := HU7.out.pk.cell 0
              have m1 := HU7.out.pk.cell 1
              have m2 := HU7.out.pk.cell 2
              have m3 := HU7.out.pk.cell 3
              have m4 := HU7.out.pk.cell 4
              have z0 := HU7.out.box.cell 0
              have z1 := HU7.out.box.cell 1
              have z2 := HU7.out.box.cell 2
              have z3 := HU7.out.box.cell 3
              have z4 := HU7.out.box.cell 4
              have zf := fun o => HU7.out.box.free o
              have zl := HU7.out.box.lt
              obtain ⟨n1, n2, n3⟩ := HU7.out.ne
              have ec := gend_any p b1 c.length c1 at2 0 _ HU7.out.gt
              rw [show gend c.length at2 0 = 10 from by unfold gend; rw [if_pos ⟨rfl, hat⟩]] at ec
              have EC := Lib.hid ec
              clear ec
              go_wp2_with fail
              with_reducible refine (EC.out).mono ?_
              rintro e w9 ⟨rfl, hg9, hgr9⟩
              have HU9 := Lib.hid (HU7.out.err hg9 hgr9)
              clear hg9 hgr9
              clear g2 gf gl m0 m1 m2 m3 m4 z0 z1 z2 z3 z4 zf zl n1 n2 n3
              have g2 := HU9.out.gt.cell 2
              have gf := fun o => HU9.out.gt.free o
              have gl := HU9.out.gt.lt
              have m0 := HU9.out.pk.cell 0
              have m1 := HU9.out.pk.cell 1
              have m2 := HU9.out.pk.cell 2
              have m3 := HU9.out.pk.cell 3
              have m4 := HU9.out.pk.cell 4
              have z0 := HU9.out.box.cell 0
              have z1 := HU9.out.box.cell 1
              have z2 := HU9.out.box.cell 2
              have z3 := HU9.out.box.cell 3
              have z4 := HU9.out.box.cell 4
              have zf := fun o => HU9.out.box.free o
              have zl := HU9.out.box.lt
              obtain ⟨n1, n2, n3⟩ := HU9.out.ne
              go_wp2
              exact bodyPost_ret (v := .tuple #[.agg #[.int .i64 0, .int .i64 0, .int .i64 0, .int .i64 0, .slice none 0 0], .int .i64 10]) (by unfold results; rw [Try.results30]; go_simp) rfl ⟨_, rfl, Ow.nil _ _, (((((HU9.out.below.setCell (p := ⟨w.heap.size, 0, none⟩) (Nat.le_refl _) _).setCell (p := ⟨w.heap.size, 1, none⟩) (Nat.le_refl _) _).setCell (p := ⟨w.heap.size, 2, none⟩) (Nat.le_refl _) _).setCell (p := ⟨w.heap.size, 3, none⟩) (Nat.le_refl _) _).setCell (p := ⟨w.heap.size, 4, none⟩) (Nat.le_refl _) _)⟩
            · obtain ⟨rfl, rfl, rfl, rfl, rfl, rfl⟩ : F = a0 ∧ L = a1 ∧ S = a2 ∧ A = a3 ∧ D = d ∧ E = 0 := by have h := hF.out.symm.trans (FC.out.2.2.2 rfl hrb hat); simpa using h
              rw [hrb] at cr
              have CR := Lib.hid cr
              clear hrb cr hF FC
              have g2 := HU.out.gt.cell 2
              have gf := fun o => HU.out.gt.free o
              have gl := HU.out.gt.lt
              have m0 := HU.out.pk.cell 0
              have m1 := HU.out.pk.cell 1
              have m2 := HU.out.pk.cell 2
              have m3 := HU.out.pk.cell 3
              have m4 := HU.out.pk.cell 4
              have z0 := HU.out.box.cell 0
              have z1 := HU.out.box.cell 1
              have z2 := HU.out.box.cell 2
              have z3 := HU.out.box.cell 3
              have z4 := HU.out.box.cell 4
              have zf := fun o => HU.out.box.free o
              have zl := HU.out.box.lt
              obtain ⟨n1, n2, n3⟩ := HU.out.ne
              go_wp2_with fail
              with_reducible refine (CR.out _).mono ?_
              rintro e w7 ⟨rfl, hb7⟩
              have HU7 := Lib.hid (HU.out.below_ hb7)
              clear hb7
              clear g2 gf gl m0 m1 m2 m3 m4 z0 z1 z2 z3 z4 zf zl n1 n2 n3
              have g2 := HU7.out.gt.cell 2
              have gf := fun o => HU7.out.gt.free o
              have gl := HU7.out.gt.lt
              have m0 := HU7.out.pk.cell 0
              have m1 := HU7.out.pk.cell 1
              have m2 := HU7.out.pk.cell 2
              have m3 := HU7.out.pk.cell 3
              have m4 := HU7.out.pk.cell 4
              have z0 := HU7.out.box.cell 0
              have z1 := HU7.out.box.cell 1
              have z2 := HU7.out.box.cell 2
              have z3 := HU7.out.box.cell 3
              have z4 := HU7.out.box.cell 4
              have zf := fun o => HU7.out.box.free o
              have zl := HU7.out.box.lt
              obtain ⟨n1, n2, n3⟩ := HU7.out.ne
              have ec := gend_any p b1 c.length c1 at2 0 _ HU7.out.gt
              rw [show gend c.length at2 0 = 0 from by unfold gend; rw [if_neg (fun q => hat q.2)]] at ec
              have EC := Lib.hid ec
              clear ec
              go_wp2_with fail
              with_reducible refine (EC.out).mono ?_
              rintro e w9 ⟨rfl, hg9, hgr9⟩
              have HU9 := Lib.hid (HU7.out.err hg9 hgr9)
              clear hg9 hgr9
              clear g2 gf gl m0 m1 m2 m3 m4 z0 z1 z2 z3 z4 zf zl n1 n2 n3
              have g2 := HU9.out.gt.cell 2
              have gf := fun o => HU9.out.gt.free o
              have gl := HU9.out.gt.lt
              have m0 := HU9.out.pk.cell 0
              have m1 := HU9.out.pk.cell 1
              have m2 := HU9.out.pk.cell 2
              have m3 := HU9.out.pk.cell 3
              have m4 := HU9.out.pk.cell 4
              have z0 := HU9.out.box.cell 0
              have z1 := HU9.out.box.cell 1
              have z2 := HU9.out.box.cell 2
              have z3 := HU9.out.box.cell 3
              have z4 := HU9.out.box.cell 4
              have zf := fun o => HU9.out.box.free o
              have zl := HU9.out.box.lt
              obtain ⟨n1, n2, n3⟩ := HU9.out.ne
              go_wp2
              exact bodyPost_ret (v := .tuple #[.agg #[.int .i64 F, .int .i64 L, .int .i64 S, .int .i64 A, .slice b5 D.length c5], .int .i64 0]) (by unfold results; rw [Try.results30]; go_simp) rfl ⟨_, rfl, own_kept (HU9.out.own.mono (Nat.le_succ _)) (grown_set (grown_set (grown_set (grown_set (grown_set (grown_refl w9 (some w.heap.size)) 0 _) 1 _) 2 _) 3 _) 4 _) (fun k hk e => by have h1 := (HU9.out.own.lt k hk).1; have h2 := Option.some.inj e; omega), (((((HU9.out.below.setCell (p := ⟨w.heap.size, 0, none⟩) (Nat.le_refl _) _).setCell (p := ⟨w.heap.size, 1, none⟩) (Nat.le_refl _) _).setCell (p := ⟨w.heap.size, 2, none⟩) (Nat.le_refl _) _).setCell (p := ⟨w.heap.size, 3, none⟩) (Nat.le_refl _) _).setCell (p := ⟨w.heap.size, 4, none⟩) (Nat.le_refl _) _)⟩
        · obtain ⟨rfl, rfl, rfl, rfl, rfl, rfl⟩ : F = 0 ∧ L = 0 ∧ S = 0 ∧ A = 0 ∧ D = [] ∧ E = e1 := by have h := hF.out.symm.trans (FC.out.1 he); simpa using h
          have he1 : ((E : Int) == 0) = false := bneI (by omega)
          have he2 : ((E : Int) != 0) = true := by rw [bne_iff_ne]; omega
          clear hF FC
          have g2 := HU.out.gt.cell 2
          have gf := fun o => HU.out.gt.free o
          have gl := HU.out.gt.lt
          have m0 := HU.out.pk.cell 0
          have m1 := HU.out.pk.cell 1
          have m2 := HU.out.pk.cell 2
          have m3 := HU.out.pk.cell 3
          have m4 := HU.out.pk.cell 4
          have z0 := HU.out.box.cell 0
          have z1 := HU.out.box.cell 1
          have z2 := HU.out.box.cell 2
          have z3 := HU.out.box.cell 3
          have z4 := HU.out.box.cell 4
          have zf := fun o => HU.out.box.free o
          have zl := HU.out.box.lt
          obtain ⟨n1, n2, n3⟩ := HU.out.ne
          have ec := gend_any p b1 c.length c1 at2 E _ HU.out.gt
          rw [show gend c.length at2 E = E from by unfold gend; rw [if_neg (fun q => he q.1)]] at ec
          have EC := Lib.hid ec
          clear ec
          go_wp2_with fail
          with_reducible refine (EC.out).mono ?_
          rintro e w9 ⟨rfl, hg9, hgr9⟩
          have HU9 := Lib.hid (HU.out.err hg9 hgr9)
          clear hg9 hgr9
          clear g2 gf gl m0 m1 m2 m3 m4 z0 z1 z2 z3 z4 zf zl n1 n2 n3
          have g2 := HU9.out.gt.cell 2
          have gf := fun o => HU9.out.gt.free o
          have gl := HU9.out.gt.lt
          have m0 := HU9.out.pk.cell 0
          have m1 := HU9.out.pk.cell 1
          have m2 := HU9.out.pk.cell 2
          have m3 := HU9.out.pk.cell 3
          have m4 := HU9.out.pk.cell 4
          have z0 := HU9.out.box.cell 0
          have z1 := HU9.out.box.cell 1
          have z2 := HU9.out.box.cell 2
          have z3 := HU9.out.box.cell 3
          have z4 := HU9.out.box.cell 4
          have zf := fun o => HU9.out.box.free o
          have zl := HU9.out.box.lt
          obtain ⟨n1, n2, n3⟩ := HU9.out.ne
          go_wp2
          exact bodyPost_ret (v := .tuple #[.agg #[.int .i64 0, .int .i64 0, .int .i64 0, .int .i64 0, .slice none 0 0], .int .i64 E]) (by unfold results; rw [Try.results30]; go_simp) rfl ⟨_, rfl, Ow.nil _ _, (((((HU9.out.below.setCell (p := ⟨w.heap.size, 0, none⟩) (Nat.le_refl _) _).setCell (p := ⟨w.heap.size, 1, none⟩) (Nat.le_refl _) _).setCell (p := ⟨w.heap.size, 2, none⟩) (Nat.le_refl _) _).setCell (p := ⟨w.heap.size, 3, none⟩) (Nat.le_refl _) _).setCell (p := ⟨w.heap.size, 4, none⟩) (Nat.le_refl _) _)⟩
end Go.Proofs.Ytndfelbgppbncaa
/- package frame: a packet that was packed comes back. -/
set_option linter.unusedVariables false
namespace Go.Proofs.Ytndfelbgppbncaa
open Go.RowKit
theorem gnum_at (c : List UInt8) (at' n : Nat) (r : List UInt8) (hn : n < 18446744073709551616) (h : c.drop at' = By.uv n ++ r) : gnum c at' 0 = (n, at' + (By.uv n).length, 0) ∧ c.drop (at' + (By.uv n).length) = r := by
  refine ⟨?_, ?_⟩
  · unfold gnum
    rw [if_neg (by simp), h, By.gu_uv n hn r]
    rfl
  · rw [← List.drop_drop, h, List.drop_left]
theorem gs_step (c : List UInt8) (j at' n : Nat) (r : List UInt8) (hs : gs c j = (at', 0)) (hn : n ≤ 4611686018427387904) (h : c.drop at' = By.uv n ++ r) : gs c (j + 1) = (at' + (By.uv n).length, 0) ∧ gx c j = n ∧ c.drop (at' + (By.uv n).length) = r := by
  obtain ⟨g1, g2⟩ := gnum_at c at' n r (by omega) h
  have e1 : gs c (j + 1) = ((gnum c (gs c j).1 (gs c j).2).2.1, gtop (gnum c (gs c j).1 (gs c j).2).1 (gnum c (gs c j).1 (gs c j).2).2.2) := rfl
  have e2 : gx c j = (gnum c (gs c j).1 (gs c j).2).1 := rfl
  rw [hs] at e1 e2
  simp only at e1 e2
  rw [g1] at e1 e2
  simp only at e1 e2
  refine ⟨?_, e2, g2⟩
  rw [e1]
  unfold gtop
  rw [if_neg (fun q => by omega)]
theorem fin_pk (p : By.Pk) (hp : p.right) : fin (By.pk p) = ((p.fr : Int), (p.life : Int), (p.seq : Int), (p.ack : Int), p.data, 0) := by
  obtain ⟨p1, p2, p3, p4, p5, p6⟩ := hp
  unfold By.top at p1 p2 p3 p4
  have h0 : gs (By.pk p) 0 = (0, 0) := rfl
  obtain ⟨s1, x0, d1⟩ := gs_step (By.pk p) 0 0 p.fr _ h0 p1 (by unfold By.pk; rfl)
  obtain ⟨s2, x1, d2⟩ := gs_step (By.pk p) 1 _ p.life _ s1 p2 d1
  obtain ⟨s3, x2, d3⟩ := gs_step (By.pk p) 2 _ p.seq _ s2 p3 d2
  obtain ⟨s4, x3, d4⟩ := gs_step (By.pk p) 3 _ p.ack _ s3 p4 d3
  have hb := By.getBlob_blob 1048576 p.data [] p5 (by omega)
  rw [List.append_nil] at hb
  have hlen : (By.pk p).length = 0 + (By.uv p.fr).length + (By.uv p.life).length + (By.uv p.seq).length + (By.uv p.ack).length + (By.blob p.data).length := by
    unfold By.pk; simp only [List.length_append]; omega
  have hbl : bl4 (By.pk p) = (p.data, 0 + (By.uv p.fr).length + (By.uv p.life).length + (By.uv p.seq).length + (By.uv p.ack).length + (By.blob p.data).length, 0) := by
    rw [bl4_eq, s4]
    unfold gblob
    simp only
    rw [if_neg (by simp), d4, hb]
    simp
  have hw : ∀ n : Nat, n ≤ 4611686018427387904 → IntKind.i64.wrap (n : Int) = (n : Int) := fun n h => IntWalk.i64_in _ (by omega)
  have hr : rightB (p.fr : Int) (p.life : Int) (p.seq : Int) (p.ack : Int) p.data.length = true := by
    unfold rightB
    rw [(okN_iff _).2 (by omega), (okN_iff _).2 (by omega), (okN_iff _).2 (by omega), (okN_iff _).2 (by omega)]
    rcases p6 with h | h
    · simp [p5, h]
    · simp [h]
  exact (fin_cases (By.pk p) p.data _ 0 p.fr p.life p.seq p.ack (by rw [x0, hw _ p1]) (by rw [x1, hw _ p2]) (by rw [x2, hw _ p3]) (by rw [x3, hw _ p4]) hbl).2.2.2 rfl hr (by rw [hlen]; omega)
theorem unpack_packed (ba : Option Addr) (n cap : Nat) (p : By.Pk) (w : World) (hp : p.right) (hn : (By.pack p).length = n) (hr : Rd w ba (By.pack p)) (hb : ba = none → n = 0) (hc : n ≤ cap) :
    Calls Try.prog 30 #[.slice ba n cap] w (UnpPost p.fr p.life p.seq p.ack p.data 0 w) := by
  have hl := By.pk_len p
  have h5 := hp.2.2.2.2.1
  exact unpack_body ba n cap (By.pack p) (By.pk p) _ _ _ _ _ _ w hn hr hb (by rw [← hn]; unfold By.pack; rw [By.shut_len]; omega) hc ⟨By.open_shut _⟩ ⟨fin_pk p hp⟩
end Go.Proofs.Ytndfelbgppbncaa
/- package session: the small methods, by contract. -/
set_option linter.unusedVariables false
namespace Go.Proofs.Ytndfelbgppbncaa
open Go.RowKit
/-- a session that was made -/
def Se (w : World) (p : Nat) (self peer life last : Int) (out : Value) (done acc pl : Int) : Prop := Blk w p #[.bool true, .int .i64 self, .int .i64 peer, .int .i64 life, .int .i64 last, out, .int .i64 done, .int .i64 acc, .int .i64 pl] 55
theorem none_any (p : Nat) (self peer life last : Int) (out : Value) (done acc pl : Int) (w : World) (h : Se w p self peer life last out done acc pl) :
    Calls Try.prog 52 #[.pointer (some ⟨p, 0, none⟩)] w fun e w' => e = .returned (.bool false) ∧ w = w' := by
  have c0 := h.cell 0
  clear h
  go_enter Try.func52, Try.ntmps52
  go_wp2
  go_ret
  exact ⟨rfl, rfl⟩
def SePost (p : Nat) (self peer life last : Int) (out : Value) (done acc pl : Int) (v : Value) (w : World) (e : Ending) (w' : World) : Prop := e = .returned v ∧ Se w' p self peer life last out done acc pl ∧ w.grownBy w' (some p)
set_option maxHeartbeats 800000 in
theorem accept_yes (p : Nat) (self peer life last : Int) (out : Value) (done acc pl : Int) (w : World) (h : Se w p self peer life last out done acc pl) (x : Int) (hx : x = acc + 1) (ha : 0 ≤ acc ∧ acc ≤ 4611686018427387904) :
    Calls Try.prog 18 #[.pointer (some ⟨p, 0, none⟩), .int .i64 x] w (SePost p self peer life last out done x pl (.int .i64 0) w) := by
  have HS := Lib.hid h
  have cn := none_any p self peer life last out done acc pl w h
  have CN := Lib.hid cn
  have c7 := h.cell 7
  have hf := fun o => h.free o
  have hlt := h.lt
  obtain ⟨a1, a2⟩ := ha
  have hb : (x != acc + 1) = false := by rw [hx]; simp
  have hfin : Se (w.setCell ⟨p, 7, none⟩ (.int .i64 x)) p self peer life last out done x pl := h.set 7 _
  have hgr : w.grownBy (w.setCell ⟨p, 7, none⟩ (.int .i64 x)) (some p) := grown_set (grown_refl _ _) _ _
  have HF := Lib.hid hfin
  have HG := Lib.hid hgr
  clear h cn hx hfin hgr
  go_enter Try.func18, Try.ntmps18
  go_wp2_with fail
  with_reducible refine (CN.out).mono ?_
  rintro e w1 ⟨rfl, rfl⟩
  go_wp2
  go_ret
  exact ⟨rfl, HF.out, HG.out⟩
set_option maxHeartbeats 800000 in
theorem accept_no (p : Nat) (self peer life last : Int) (out : Value) (done acc pl : Int) (w : World) (h : Se w p self peer life last out done acc pl) (x : Int) (hx : x ≠ acc + 1) (ha : 0 ≤ acc ∧ acc ≤ 4611686018427387904) :
    Calls Try.prog 18 #[.pointer (some ⟨p, 0, none⟩), .int .i64 x] w (SePost p self peer life last out done acc pl (.int .i64 16) w) := by
  have HS := Lib.hid h
  have cn := none_any p self peer life last out done acc pl w h
  have CN := Lib.hid cn
  have c7 := h.cell 7
  obtain ⟨a1, a2⟩ := ha
  have hb : (x != acc + 1) = true := by rw [bne_iff_ne]; exact hx
  clear h cn hx
  go_enter Try.func18, Try.ntmps18
  go_wp2_with fail
  with_reducible refine (CN.out).mono ?_
  rintro e w1 ⟨rfl, rfl⟩
  go_wp2
  go_ret
  exact ⟨rfl, HS.out, grown_refl _ _⟩
set_option maxHeartbeats 800000 in
theorem done_yes (p : Nat) (self peer life last : Int) (out : Value) (done acc pl : Int) (w : World) (h : Se w p self peer life last out done acc pl) (x : Int) (hx : done < x) (hx2 : x ≤ acc) :
    Calls Try.prog 19 #[.pointer (some ⟨p, 0, none⟩), .int .i64 x] w (SePost p self peer life last out x acc pl (.int .i64 0) w) := by
  have HS := Lib.hid h
  have cn := none_any p self peer life last out done acc pl w h
  have CN := Lib.hid cn
  have c7 := h.cell 7
  have c6 := h.cell 6
  have hf := fun o => h.free o
  have hlt := h.lt
  have d1 : ¬ x ≤ done := by omega
  have d2 : ¬ acc < x := by omega
  have hfin : Se (w.setCell ⟨p, 6, none⟩ (.int .i64 x)) p self peer life last out x acc pl := h.set 6 _
  have hgr : w.grownBy (w.setCell ⟨p, 6, none⟩ (.int .i64 x)) (some p) := grown_set (grown_refl _ _) _ _
  have HF := Lib.hid hfin
  have HG := Lib.hid hgr
  clear h cn hfin hgr
  go_enter Try.func19, Try.ntmps19
  go_wp2_with fail
  with_reducible refine (CN.out).mono ?_
  rintro e w1 ⟨rfl, rfl⟩
  go_wp2
  go_ret
  exact ⟨rfl, HF.out, HG.out⟩
set_option maxHeartbeats 800000 in
theorem done_no (p : Nat) (self peer life last : Int) (out : Value) (done acc pl : Int) (w : World) (h : Se w p self peer life last out done acc pl) (x : Int) (hx : x ≤ done ∨ acc < x) :
    Calls Try.prog 19 #[.pointer (some ⟨p, 0, none⟩), .int .i64 x] w (SePost p self peer life last out done acc pl (.int .i64 16) w) := by
  have HS := Lib.hid h
  have cn := none_any p self peer life last out done acc pl w h
  have CN := Lib.hid cn
  have c7 := h.cell 7
  have c6 := h.cell 6
  clear h cn
  by_cases d1 : x ≤ done
  · clear hx
    go_enter Try.func19, Try.ntmps19
    go_wp2_with fail
    with_reducible refine (CN.out).mono ?_
    rintro e w1 ⟨rfl, rfl⟩
    go_wp2
    go_ret
    exact ⟨rfl, HS.out, grown_refl _ _⟩
  · have d2 : acc < x := by omega
    clear hx
    go_enter Try.func19, Try.ntmps19
    go_wp2_with fail
    with_reducible refine (CN.out).mono ?_
    rintro e w1 ⟨rfl, rfl⟩
    go_wp2
    go_ret
    exact ⟨rfl, HS.out, grown_refl _ _⟩
theorem peerLife_any (p : Nat) (self peer life last : Int) (out : Value) (done acc pl : Int) (w : World) (h : Se w p self peer life last out done acc pl) :
    Calls Try.prog 14 #[.pointer (some ⟨p, 0, none⟩)] w fun e w' => e = .returned (.int .i64 pl) ∧ w = w' := by
  have cn := none_any p self peer life last out done acc pl w h
  have CN := Lib.hid cn
  have c8 := h.cell 8
  clear h cn
  go_enter Try.func14, Try.ntmps14
  go_wp2_with fail
  with_reducible refine (CN.out).mono ?_
  rintro e w1 ⟨rfl, rfl⟩
  go_wp2
  go_ret
  exact ⟨rfl, rfl⟩
end Go.Proofs.Ytndfelbgppbncaa
/- package session: New and Link where nothing waits, by contract. -/
set_option linter.unusedVariables false
namespace Go.Proofs.Ytndfelbgppbncaa
open Go.RowKit
set_option maxHeartbeats 800000 in
set_option maxRecDepth 100000 in
theorem right0_any (last done : Int) (w : World) (h1 : 0 ≤ last ∧ last ≤ 2305843009213693952) (h2 : 0 ≤ done ∧ done ≤ 2305843009213693952) :
    Calls Try.prog 46 #[.agg #[.int .i64 last, .slice none 0 0, .int .i64 done]] w (BoolBelow true w) := by
  obtain ⟨l1, l2⟩ := h1
  obtain ⟨d1, d2⟩ := h2
  go_enter Try.func46, Try.ntmps46
  go_wp2
  go_loop [40] (fun i => i = .int .i64 0) (fun i => 4 - (intOf i).toNat)
  case atStart => rfl
  case round =>
    subst hrel
    go_wp2
    go_ret
    exact ⟨rfl, (Below.refl _ _).alloc (Nat.le_refl _) _⟩
def AggBelow (v : Value) (w : World) (e : Ending) (w' : World) : Prop := e = .returned v ∧ Below w.heap.size w w'
set_option maxHeartbeats 800000 in
set_option maxRecDepth 100000 in
theorem copied0_any (last done : Int) (w : World) :
    Calls Try.prog 47 #[.agg #[.int .i64 last, .slice none 0 0, .int .i64 done]] w (AggBelow (.agg #[.int .i64 last, .slice none 0 0, .int .i64 done]) w) := by
  go_enter Try.func47, Try.ntmps47
  go_wp2
  go_loop [14] (fun i => i = .int .i64 0) (fun i => 4 - (intOf i).toNat)
  case atStart => rfl
  case round =>
    subst hrel
    go_wp2
    exact bodyPost_ret (v := .agg #[.int .i64 last, .slice none 0 0, .int .i64 done]) (by unfold results; rw [Try.results47]; go_simp) rfl ⟨rfl, by
      refine ((((Below.refl w.heap.size w).alloc (Nat.le_refl _) _).alloc (by simp) _).alloc (by simp; try omega) _)⟩
set_option maxHeartbeats 800000 in
set_option maxRecDepth 100000 in
theorem node_any (n : Int) (w : World) (h : 0 ≤ n ∧ n < 16) : Calls Try.prog 45 #[.int .i64 n] w fun e w' => e = .returned (.bool true) ∧ w = w' := by
  obtain ⟨h1, h2⟩ := h
  go_enter Try.func45, Try.ntmps45
  go_wp2
  go_ret
  exact ⟨rfl, rfl⟩
theorem drew_one {w1 w2 : World} {b : Nat} {A : Array Value} (hb : Below w1.drew.heap.size w1.drew w2) (hq : ∀ o, w1.cell? ⟨b, o, none⟩ = A[o]?) (hlt : b < w1.heap.size) :
    (∀ o, w2.cell? ⟨b, o, none⟩ = A[o]?) ∧ b < w2.heap.size ∧ Below w1.heap.size w1 w2 := by
  have h : Below w1.heap.size w1 w2 := (Below.refl w1.heap.size w1).drew.trans hb
  exact ⟨fun o => by rw [h.cell (p := ⟨b, o, none⟩) hlt]; exact hq o, Nat.lt_of_lt_of_le hlt h.size, h⟩
def NewPost0 (self peer life last done : Int) (w : World) (e : Ending) (w' : World) : Prop := ∃ p, e = .returned (.tuple #[.pointer (some ⟨p, 0, none⟩), .int .i64 0]) ∧ Se w' p self peer life last (.slice none 0 0) done done 0 ∧ w.heap.size ≤ p ∧ Below w.heap.size w w'
set_option maxHeartbeats 1600000 in
set_option maxRecDepth 100000 in
theorem new0_any (self peer life last done : Int) (w : World) (hs : 0 ≤ self ∧ self < 16) (hp : 0 ≤ peer ∧ peer < 16) (hl : 1 ≤ life ∧ life ≤ 2305843009213693952) (h1 : 0 ≤ last ∧ last ≤ 2305843009213693952) (h2 : 0 ≤ done ∧ done ≤ 2305843009213693952) :
    Calls Try.prog 10 #[.int .i64 self, .int .i64 peer, .int .i64 life, .agg #[.int .i64 last, .slice none 0 0, .int .i64 done]] w (NewPost0 self peer life last done w) := by
  have C1 := Lib.hid (fun w => node_any self w hs)
  have C2 := Lib.hid (fun w => node_any peer w hp)
  have C3 := Lib.hid (fun w => right0_any last done w h1 h2)
  have C4 := Lib.hid (fun w => copied0_any last done w)
  obtain ⟨l1, l2⟩ := hl
  clear hs hp h1 h2
  go_enter Try.func10, Try.ntmps10
  go_wp2_with fail
  with_reducible refine (C1.out _).mono ?_
  rintro e w1 ⟨rfl, rfl⟩
  go_wp2_with fail
  with_reducible refine (C2.out _).mono ?_
  rintro e w1 ⟨rfl, rfl⟩
  go_wp2_with fail
  with_reducible refine (C3.out _).mono ?_
  rintro e w1 ⟨rfl, hb1⟩
  obtain ⟨q1, q2, q3⟩ := cells_one hb1
  have HB1 := Lib.hid q3
  clear hb1 q3
  go_wp2_with fail
  go_region_with (go_at_call 47; refine (C4.out _).mono ?_; rintro e w2 ⟨rfl, hb2⟩; obtain ⟨q4, q5, q6⟩ := drew_one hb2 q1 q2)
  all_goals
    go_wp2
    go_ret2
    exact ⟨w2.heap.size, rfl, Blk.new _ _ _, Nat.le_trans HB1.out.size q6.size, (HB1.out.trans (q6.mono HB1.out.size)).alloc (Nat.le_trans HB1.out.size q6.size) _⟩
end Go.Proofs.Ytndfelbgppbncaa
/- package session: Link where nothing waits; packets of the law's own, by contract. -/
set_option linter.unusedVariables false
namespace Go.Proofs.Ytndfelbgppbncaa
open Go.RowKit
set_option maxHeartbeats 1600000 in
set_option maxRecDepth 100000 in
theorem link0_any (p : Nat) (self peer life last done acc pl : Int) (w : World) (h : Se w p self peer life last (.slice none 0 0) done acc pl) :
    Calls Try.prog 21 #[.pointer (some ⟨p, 0, none⟩)] w (AggBelow (.agg #[.int .i64 last, .slice none 0 0, .int .i64 done]) w) := by
  have hb1 : Below w.heap.size w (w.alloc (.cells #[.int .i64 0, .slice none 0 0, .int .i64 0] 24)) := (Below.refl _ _).alloc (Nat.le_refl _) _
  have h2 := h.below hb1
  have CN := Lib.hid (none_any p self peer life last (.slice none 0 0) done acc pl _ h2)
  have CC := Lib.hid (fun w => copied0_any last done w)
  have c4 := h2.cell 4
  have c5 := h2.cell 5
  have c6 := h2.cell 6
  have hlt := h.lt
  clear h h2 hb1
  go_enter Try.func21, Try.ntmps21
  go_wp2_with fail
  with_reducible refine (CN.out).mono ?_
  rintro e w1 ⟨rfl, rfl⟩
  go_wp2_with fail
  with_reducible refine (CC.out _).mono ?_
  rintro e w2 ⟨rfl, hb2⟩
  obtain ⟨q1, q2, q3⟩ := cells_one hb2
  have hfr : ∀ o, w2.frozen? ⟨w.heap.size, o, none⟩ = false := fun o => ((Blk.new w #[.int .i64 0, .slice none 0 0, .int .i64 0] 24).below hb2).free o
  have HB := Lib.hid q3
  clear hb2 q3
  go_wp2
  exact bodyPost_ret (v := .agg #[.int .i64 last, .slice none 0 0, .int .i64 done]) (by unfold results; rw [Try.results21]; go_simp) rfl ⟨rfl, ((HB.out.setCell (p := ⟨w.heap.size, 0, none⟩) (Nat.le_refl _) _).setCell (p := ⟨w.heap.size, 1, none⟩) (Nat.le_refl _) _).setCell (p := ⟨w.heap.size, 2, none⟩) (Nat.le_refl _) _⟩
set_option maxHeartbeats 1600000 in
set_option maxRecDepth 100000 in
theorem packed_any (l s a : Nat) (x y z : Int) (hx : x = l) (hy : y = s) (hz : z = a) (ba : Option Addr) (n cap : Nat) (d : List UInt8) (w : World) (hn : d.length = n) (hr : Rd w ba d) (hb : ba = none → n = 0) (hp : (⟨1, l, s, a, d⟩ : By.Pk).right) :
    Calls Try.prog 31 #[.int .i64 x, .int .i64 y, .int .i64 z, .slice ba n cap] w fun e w' => ∃ v', e = .returned v' ∧ Ow w' w.heap.size v' (By.pack ⟨1, l, s, a, d⟩) ∧ Below w.heap.size w w' := by
  subst hx; subst hy; subst hz
  have CP : Hid (Calls Try.prog 56 #[.agg #[.int .i64 1, .int .i64 l, .int .i64 s, .int .i64 a, .slice ba n cap]] w (NewErr (By.pack ⟨1, l, s, a, d⟩) 0 w)) := Lib.hid (pack_yes 1 l s a ba n cap d w hn hr hb hp)
  clear hn hr hb hp
  go_enter Try.func31, Try.ntmps31
  go_wp2_with fail
  with_reducible refine (CP.out).mono ?_
  rintro e w1 ⟨v1, rfl, ho, hb⟩
  have HO := Lib.hid ho
  have HB := Lib.hid hb
  clear ho hb
  go_wp2
  go_ret
  exact ⟨_, rfl, HO.out, HB.out⟩
set_option maxHeartbeats 800000 in
set_option maxRecDepth 100000 in
theorem indexFunc0_any (f : Value) (cap : Nat) (w : World) : Calls Try.prog 73 #[.slice none 0 cap, f] w fun e w' => e = .returned (.int .i64 (-1)) ∧ w = w' := by
  go_enter Try.func73, Try.ntmps73
  go_wp2
  go_loop [8] (fun i => i = .int .i64 0) (fun i => 4 - (intOf i).toNat)
  case atStart => rfl
  case round =>
    subst hrel
    go_wp2
    go_ret
    exact ⟨rfl, rfl⟩
set_option maxHeartbeats 800000 in
set_option maxRecDepth 100000 in
theorem deleteFunc0_any (f : Value) (cap : Nat) (w : World) : Calls Try.prog 53 #[.slice none 0 cap, f] w fun e w' => e = .returned (.slice none 0 cap) ∧ w = w' := by
  have C := Lib.hid (fun f cap w => indexFunc0_any f cap w)
  go_enter Try.func53, Try.ntmps53
  go_wp2_with fail
  with_reducible refine (C.out _ _ _).mono ?_
  rintro e w1 ⟨rfl, rfl⟩
  go_wp2
  go_ret
  exact ⟨rfl, rfl⟩
end Go.Proofs.Ytndfelbgppbncaa
/- package session: Receive where nothing waits, by contract. -/
set_option linter.unusedVariables false
namespace Go.Proofs.Ytndfelbgppbncaa
open Go.RowKit
/-- what holds where a packet was taken -/
structure Rcv (w W : World) (p q : Nat) (me life last done acc pl : Int) (A : Array Value) (b1 : Option Addr) (c1 : Nat) (d : List UInt8) : Prop where
  se : Se W p me 1 life last (.slice none 0 0) done acc pl
  pk : Blk W q A 34
  res : Blk W w.heap.size #[.int .i64 0, .slice none 0 0] 27
  own : Ow W (w.heap.size + 1) (.slice b1 d.length c1) d
  grown : w.grownBy W (some p)
theorem recv_facts {w w1 : World} {p N : Nat} {me life last done acc pl : Int} {A : Array Value} {b1 : Option Addr} {c1 : Nat} {d : List UInt8} {pl' : Int} (hS : Se w1 p me 1 life last (.slice none 0 0) done acc pl) (hR : Blk w1 w.heap.size #[.int .i64 0, .slice none 0 0] 27)
    (hO : Ow w1 (w.alloc (.cells #[.int .i64 0, .slice none 0 0] 27)).heap.size (.slice b1 d.length c1) d) (hB : Below w.heap.size w w1) (hlt : p < w.heap.size) :
    Rcv w ((((w1.alloc (.cells A 34)).drewN N).setCell ⟨p, 8, none⟩ (.int .i64 pl')).setCell ⟨p, 5, none⟩ (.slice none 0 0)) p w1.heap.size me life last done acc pl' A b1 c1 d := by
  have hb : Below w1.heap.size w1 ((w1.alloc (.cells A 34)).drewN N) := belowN ((Below.refl _ _).alloc (Nat.le_refl _) _) N
  have hg : ((w1.alloc (.cells A 34)).drewN N).grownBy ((((w1.alloc (.cells A 34)).drewN N).setCell ⟨p, 8, none⟩ (.int .i64 pl')).setCell ⟨p, 5, none⟩ (.slice none 0 0)) (some p) := grown_set (grown_set (grown_refl _ _) _ _) _ _
  have hp1 := hS.lt
  have hr1 := hR.lt
  have hO' : Ow w1 (w.heap.size + 1) (.slice b1 d.length c1) d := hO.mono (by simp)
  refine ⟨((hS.below hb).set 8 _).set 5 _, ((Blk.new w1 A _).below (belowN (Below.refl _ _) N)).kept hg (fun e => by have := Option.some.inj e; omega), (hR.below hb).kept hg (fun e => by have := Option.some.inj e; omega), own_kept (own_below hO' hb) hg (fun k hk e => by have h1 := (hO'.lt k hk).1; have h2 := Option.some.inj e; omega), below_grown (hB.trans (hb.mono hB.size)) hg⟩
theorem Rcv.fin {w W : World} {p q : Nat} {me life last done acc pl : Int} {A : Array Value} {b1 : Option Addr} {c1 : Nat} {d : List UInt8} (h : Rcv w W p q me life last done acc pl A b1 c1 d) (hp : p < w.heap.size := by assumption) (n : Nat) (u0 u1 : Value) :
    Ow (((W.drewN n).setCell ⟨w.heap.size, 0, none⟩ u0).setCell ⟨w.heap.size, 1, none⟩ u1) w.heap.size (.slice b1 d.length c1) d ∧ Se (((W.drewN n).setCell ⟨w.heap.size, 0, none⟩ u0).setCell ⟨w.heap.size, 1, none⟩ u1) p me 1 life last (.slice none 0 0) done acc pl ∧ w.grownBy (((W.drewN n).setCell ⟨w.heap.size, 0, none⟩ u0).setCell ⟨w.heap.size, 1, none⟩ u1) (some p) := by
  have hb : Below W.heap.size W (W.drewN n) := belowN (Below.refl _ _) n
  have hg : (W.drewN n).grownBy (((W.drewN n).setCell ⟨w.heap.size, 0, none⟩ u0).setCell ⟨w.heap.size, 1, none⟩ u1) (some w.heap.size) := grown_set (grown_set (grown_refl _ _) _ _) _ _
  refine ⟨own_kept (own_below (h.own.mono (Nat.le_succ _)) hb) hg (fun k hk e => by have h1 := (h.own.lt k hk).1; have h2 := Option.some.inj e; omega), (h.se.below hb).kept hg (fun e => by have := Option.some.inj e; omega), ?_⟩
  have h1 := grown_below h.grown hb
  exact ⟨hg.os.trans h1.os, hg.tape.trans h1.tape, hg.output.trans h1.output, Nat.le_trans h1.size hg.size, fun k hk hne => by rw [hg.block k (Nat.lt_of_lt_of_le hk h1.size) (fun e => by have := Option.some.inj e; omega), h1.block k hk hne]⟩
def RecvYes (p : Nat) (me peer life last done acc pl seq : Int) (d : List UInt8) (w : World) (e : Ending) (w' : World) : Prop := ∃ v', e = .returned (.tuple #[.agg #[.int .i64 seq, v'], .bool true, .int .i64 0]) ∧ Ow w' w.heap.size v' d ∧ Se w' p me peer life last (.slice none 0 0) done acc pl ∧ w.grownBy w' (some p)
def RecvNo (p : Nat) (me peer life last done acc pl : Int) (w : World) (e : Ending) (w' : World) : Prop := e = .returned (.tuple #[.agg #[.int .i64 0, .slice none 0 0], .bool false, .int .i64 0]) ∧ Se w' p me peer life last (.slice none 0 0) done acc pl ∧ w.grownBy w' (some p)
set_option maxHeartbeats 1600000 in
set_option maxRecDepth 100000 in
theorem recv0_yes (p : Nat) (me life last done acc pl : Int) (P : By.Pk) (ba : Option Addr) (n cap : Nat) (w : World) (h : Se w p me 1 life last (.slice none 0 0) done acc pl)
    (hn : (By.pack P).length = n) (hr : Rd w ba (By.pack P)) (hb : ba = none → n = 0) (hc : n ≤ cap) (hp : P.right) (hfr : P.fr = 1) (hlife : pl ≤ P.life) (hack : (P.ack : Int) ≤ last) (hseq : (P.seq : Int) = acc + 1) (hacc : 0 ≤ acc ∧ acc ≤ 4611686018427387904) :
    Calls Try.prog 13 #[.pointer (some ⟨p, 0, none⟩), .slice ba n cap] w (RecvYes p me 1 life last done acc P.life P.seq P.data w) := by
  have hb1 : Below w.heap.size w (w.alloc (.cells #[.int .i64 0, .slice none 0 0] 27)) := (Below.refl _ _).alloc (Nat.le_refl _) _
  have h2 := h.below hb1
  have CN := Lib.hid (none_any p me 1 life last (.slice none 0 0) done acc pl _ h2)
  have CU : Hid (Calls Try.prog 30 #[.slice ba n cap] (w.alloc (.cells #[.int .i64 0, .slice none 0 0] 27)) (UnpPost 1 P.life P.seq P.ack P.data 0 (w.alloc (.cells #[.int .i64 0, .slice none 0 0] 27)))) := Lib.hid (by
    have := unpack_packed ba n cap P (w.alloc (.cells #[.int .i64 0, .slice none 0 0] 27)) hp hn (hr.below hb1) hb hc
    rw [hfr] at this; exact this)
  have CD := Lib.hid (fun f w => deleteFunc0_any f 0 w)
  have HS := Lib.hid h2
  have hlt := h.lt
  obtain ⟨a1, a2⟩ := hacc
  obtain ⟨fr, lf, sq, ak, d⟩ := P
  simp only at hfr hlife hack hseq CU ⊢
  subst hfr
  have HSQ := Lib.hid hseq
  clear h h2 hb1 hn hr hb hp hseq
  go_enter Try.func13, Try.ntmps13
  go_wp2_with fail
  with_reducible refine (CN.out).mono ?_
  rintro e w1 ⟨rfl, rfl⟩
  go_wp2_with fail
  with_reducible refine (CU.out).mono ?_
  rintro e w1 ⟨v1, rfl, ho1, hb1⟩
  obtain ⟨b1, c1, rfl, _, _, _⟩ := ho1.rd
  obtain ⟨q1, q2, q3⟩ := cells_one hb1
  have hres := ((Blk.new w #[.int .i64 0, .slice none 0 0] 27).below hb1)
  have hrf := fun o => hres.free o
  have hS1 := HS.out.below hb1
  have s2 := hS1.cell 2
  have s4 := hS1.cell 4
  have s5 := hS1.cell 5
  have s7 := hS1.cell 7
  have s8 := hS1.cell 8
  have sf := fun o => hS1.free o
  have sl := hS1.lt
  have HS1 := Lib.hid hS1
  have HO1 := Lib.hid ho1
  have HB1 := Lib.hid q3
  have HR1 := Lib.hid hres
  clear ho1 hb1 q3 hres hS1
  have i1 : decide ((lf : Int) < pl) = false := by simp; omega
  have i2 : decide (last < (ak : Int)) = false := by simp; omega
  have i3 : ((sq : Int) != acc + 1) = false := by rw [HSQ.out]; simp
  have i4 : IntKind.i64.wrap (acc + 1) = acc + 1 := IntWalk.i64_in _ (by omega)
  go_wp2_with fail
  go_quiet (fail)
  rename Nat => k1
  go_wp2_with fail
  go_quiet (fail)
  rename Nat => k2
  go_wp2_with fail
  go_quiet (fail)
  rename Nat => k3
  go_wp2_with fail
  with_reducible refine (CD.out _ _).mono ?_
  rintro e w2 ⟨rfl, rfl⟩
  go_wp2_with fail
  have hrcv := recv_facts (w := w) (w1 := w1) (p := p) (N := k1 + k2 + k3) (pl' := lf) HS1.out HR1.out HO1.out HB1.out hlt (A := #[.int .i64 1, .int .i64 lf, .int .i64 sq, .int .i64 ak, .slice b1 d.length c1])
  clear HS1 HO1 HB1 HR1 q1 q2 hrf s2 s4 s5 s7 s8 sf sl
  generalize (((w1.alloc (.cells #[.int .i64 1, .int .i64 lf, .int .i64 sq, .int .i64 ak, .slice b1 d.length c1] 34)).drewN (k1 + k2 + k3)).setCell ⟨p, 8, none⟩ (.int .i64 lf)).setCell ⟨p, 5, none⟩ (.slice none 0 0) = W at hrcv ⊢
  generalize w1.heap.size = q at hrcv ⊢
  have r7 := hrcv.se.cell 7
  have rl := hrcv.se.lt
  have t0 := hrcv.pk.cell 0
  have t1 := hrcv.pk.cell 1
  have t2 := hrcv.pk.cell 2
  have t3 := hrcv.pk.cell 3
  have t4 := hrcv.pk.cell 4
  have tl := hrcv.pk.lt
  have z0 := hrcv.res.cell 0
  have z1 := hrcv.res.cell 1
  have zf := fun o => hrcv.res.free o
  have zl := hrcv.res.lt
  have HRF := Lib.hid hrcv
  clear hrcv
  go_quiet (fail)
  have RG := HRF.out.fin hlt nq (.int .i64 sq) (.slice b1 d.length c1)
  have HRG := Lib.hid RG
  clear RG
  go_wp2
  exact bodyPost_ret (v := .tuple #[.agg #[.int .i64 sq, .slice b1 d.length c1], .bool true, .int .i64 0]) (by unfold results; rw [Try.results13]; go_simp) rfl ⟨_, rfl, HRG.out.1, HRG.out.2.1, HRG.out.2.2⟩
set_option maxHeartbeats 1600000 in
set_option maxRecDepth 100000 in
theorem recv0_no (p : Nat) (me life last done acc pl : Int) (P : By.Pk) (ba : Option Addr) (n cap : Nat) (w : World) (h : Se w p me 1 life last (.slice none 0 0) done acc pl)
    (hn : (By.pack P).length = n) (hr : Rd w ba (By.pack P)) (hb : ba = none → n = 0) (hc : n ≤ cap) (hp : P.right) (hfr : P.fr = 1) (hlife : pl ≤ P.life) (hack : (P.ack : Int) ≤ last) (hseq : (P.seq : Int) ≠ acc + 1) (hacc : 0 ≤ acc ∧ acc ≤ 4611686018427387904) :
    Calls Try.prog 13 #[.pointer (some ⟨p, 0, none⟩), .slice ba n cap] w (RecvNo p me 1 life last done acc P.life w) := by
  have hb1 : Below w.heap.size w (w.alloc (.cells #[.int .i64 0, .slice none 0 0] 27)) := (Below.refl _ _).alloc (Nat.le_refl _) _
  have h2 := h.below hb1
  have CN := Lib.hid (none_any p me 1 life last (.slice none 0 0) done acc pl _ h2)
  have CU : Hid (Calls Try.prog 30 #[.slice ba n cap] (w.alloc (.cells #[.int .i64 0, .slice none 0 0] 27)) (UnpPost 1 P.life P.seq P.ack P.data 0 (w.alloc (.cells #[.int .i64 0, .slice none 0 0] 27)))) := Lib.hid (by
    have := unpack_packed ba n cap P (w.alloc (.cells #[.int .i64 0, .slice none 0 0] 27)) hp hn (hr.below hb1) hb hc
    rw [hfr] at this; exact this)
  have CD := Lib.hid (fun f w => deleteFunc0_any f 0 w)
  have HS := Lib.hid h2
  have hlt := h.lt
  obtain ⟨a1, a2⟩ := hacc
  obtain ⟨fr, lf, sq, ak, d⟩ := P
  simp only at hfr hlife hack hseq CU ⊢
  subst hfr
  have HSQ := Lib.hid hseq
  clear h h2 hb1 hn hr hb hp hseq
  go_enter Try.func13, Try.ntmps13
  go_wp2_with fail
  with_reducible refine (CN.out).mono ?_
  rintro e w1 ⟨rfl, rfl⟩
  go_wp2_with fail
  with_reducible refine (CU.out).mono ?_
  rintro e w1 ⟨v1, rfl, ho1, hb1⟩
  obtain ⟨b1, c1, rfl, _, _, _⟩ := ho1.rd
  obtain ⟨q1, q2, q3⟩ := cells_one hb1
  have hres := ((Blk.new w #[.int .i64 0, .slice none 0 0] 27).below hb1)
  have hrf := fun o => hres.free o
  have hS1 := HS.out.below hb1
  have s2 := hS1.cell 2
  have s4 := hS1.cell 4
  have s5 := hS1.cell 5
  have s7 := hS1.cell 7
  have s8 := hS1.cell 8
  have sf := fun o => hS1.free o
  have sl := hS1.lt
  have HS1 := Lib.hid hS1
  have HO1 := Lib.hid ho1
  have HB1 := Lib.hid q3
  have HR1 := Lib.hid hres
  clear ho1 hb1 q3 hres hS1
  have i1 : decide ((lf : Int) < pl) = false := by simp; omega
  have i2 : decide (last < (ak : Int)) = false := by simp; omega
  have i3 : ((sq : Int) != acc + 1) = true := by rw [bne_iff_ne]; exact HSQ.out
  have i4 : IntKind.i64.wrap (acc + 1) = acc + 1 := IntWalk.i64_in _ (by omega)
  go_wp2_with fail
  go_quiet (fail)
  rename Nat => k1
  go_wp2_with fail
  go_quiet (fail)
  rename Nat => k2
  go_wp2_with fail
  go_quiet (fail)
  rename Nat => k3
  go_wp2_with fail
  with_reducible refine (CD.out _ _).mono ?_
  rintro e w2 ⟨rfl, rfl⟩
  go_wp2_with fail
  have hrcv := recv_facts (w := w) (w1 := w1) (p := p) (N := k1 + k2 + k3) (pl' := lf) HS1.out HR1.out HO1.out HB1.out hlt (A := #[.int .i64 1, .int .i64 lf, .int .i64 sq, .int .i64 ak, .slice b1 d.length c1])
  clear HS1 HO1 HB1 HR1 q1 q2 hrf s2 s4 s5 s7 s8 sf sl
  generalize (((w1.alloc (.cells #[.int .i64 1, .int .i64 lf, .int .i64 sq, .int .i64 ak, .slice b1 d.length c1] 34)).drewN (k1 + k2 + k3)).setCell ⟨p, 8, none⟩ (.int .i64 lf)).setCell ⟨p, 5, none⟩ (.slice none 0 0) = W at hrcv ⊢
  generalize w1.heap.size = q at hrcv ⊢
  have r7 := hrcv.se.cell 7
  have rl := hrcv.se.lt
  have t0 := hrcv.pk.cell 0
  have t1 := hrcv.pk.cell 1
  have t2 := hrcv.pk.cell 2
  have t3 := hrcv.pk.cell 3
  have t4 := hrcv.pk.cell 4
  have tl := hrcv.pk.lt
  have z0 := hrcv.res.cell 0
  have z1 := hrcv.res.cell 1
  have zf := fun o => hrcv.res.free o
  have zl := hrcv.res.lt
  have HRF := Lib.hid hrcv
  clear hrcv
  go_quiet (fail)
  have RG := HRF.out.fin hlt nq (.int .i64 0) (.slice none 0 0)
  have HRG := Lib.hid RG
  clear RG
  go_wp2
  exact bodyPost_ret (v := .tuple #[.agg #[.int .i64 0, .slice none 0 0], .bool false, .int .i64 0]) (by unfold results; rw [Try.results13]; go_simp) rfl ⟨rfl, HRG.out.2.1, HRG.out.2.2⟩
end Go.Proofs.Ytndfelbgppbncaa
/- package session: items that wait: what is read of them, and what stays when a session turns. -/
set_option linter.unusedVariables false
namespace Go.Proofs.Ytndfelbgppbncaa
open Go.RowKit
/-- a []byte in blocks of bytes: it stays whatever becomes of blocks of other types -/
def Rt (w : World) (ba : Option Addr) (l : List UInt8) : Prop := l = [] ∨ ∃ b o cur fr, ba = some (⟨b, o, none⟩ : Addr) ∧ w.heap[b]? = some (.cells cur 5 fr) ∧ ∀ i (h : i < l.length), w.cell? ⟨b, o + i, none⟩ = some (.int .u8 (l[i].toNat : Nat))
theorem Rt.rd {w : World} {ba : Option Addr} {l : List UInt8} (h : Rt w ba l) : Rd w ba l := by
  rcases h with h | ⟨b, o, cur, fr, e, hb, hc⟩
  · exact Or.inl h
  · exact Or.inr ⟨b, o, e, (Array.getElem?_eq_some_iff.1 hb).1, hc⟩
/-- no block of bytes, nor one of lists of bytes, has turned -/
structure Kb (w w' : World) : Prop where
  os : w'.os = w.os
  tape : w'.tape = w.tape
  output : w'.output = w.output
  size : w.heap.size ≤ w'.heap.size
  bytes : ∀ (k : Nat) (cur : Array Value) (fr : Nat × Nat), w.heap[k]? = some (Obj.cells cur 5 fr) → w'.heap[k]? = w.heap[k]?
  lists : ∀ (k : Nat) (cur : Array Value) (fr : Nat × Nat), w.heap[k]? = some (Obj.cells cur 25 fr) → w'.heap[k]? = w.heap[k]?
theorem Kb.refl (w : World) : Kb w w := ⟨rfl, rfl, rfl, Nat.le_refl _, fun _ _ _ _ => rfl, fun _ _ _ _ => rfl⟩
theorem Kb.trans {w w1 w2 : World} (h : Kb w w1) (k : Kb w1 w2) : Kb w w2 :=
  ⟨k.os.trans h.os, k.tape.trans h.tape, k.output.trans h.output, Nat.le_trans h.size k.size,
   fun i cur fr hi => by have h1 := h.bytes i cur fr hi; rw [k.bytes i cur fr (h1.trans hi), h1],
   fun i cur fr hi => by have h1 := h.lists i cur fr hi; rw [k.lists i cur fr (h1.trans hi), h1]⟩
theorem Kb.below {w w' : World} (h : Below w.heap.size w w') : Kb w w' :=
  ⟨h.os, h.tape, h.output, h.size, fun i cur fr hi => h.block i (Array.getElem?_eq_some_iff.1 hi).1, fun i cur fr hi => h.block i (Array.getElem?_eq_some_iff.1 hi).1⟩
/-- a block of another type was turned -/
theorem Kb.grown {w w' : World} {p : Nat} {cs : Array Value} {T : TypeId} {fr : Nat × Nat} (hp : w.heap[p]? = some (.cells cs T fr)) (h1 : T ≠ 5) (h2 : T ≠ 25) (h : w.grownBy w' (some p)) : Kb w w' :=
  ⟨h.os, h.tape, h.output, h.size,
   fun i cur f hi => h.block i (Array.getElem?_eq_some_iff.1 hi).1 (fun e => by have := Option.some.inj e; subst this; rw [hp] at hi; cases hi; exact h1 rfl),
   fun i cur f hi => h.block i (Array.getElem?_eq_some_iff.1 hi).1 (fun e => by have := Option.some.inj e; subst this; rw [hp] at hi; cases hi; exact h2 rfl)⟩
theorem Rt.kept {w w' : World} {ba : Option Addr} {l : List UInt8} (h : Rt w ba l) (k : Kb w w') : Rt w' ba l := by
  rcases h with h | ⟨b, o, cur, fr, e, hb, hc⟩
  · exact Or.inl h
  · refine Or.inr ⟨b, o, cur, fr, e, (k.bytes b cur fr hb).trans hb, fun i hi => ?_⟩
    rw [World.cell?_of_block (w := w) (k.bytes b cur fr hb)]; exact hc i hi
theorem Ow.rt {w : World} {B : Nat} {v : Value} {l : List UInt8} (h : Ow w B v l) : ∃ ba cap, v = .slice ba l.length cap ∧ Rt w ba l ∧ (ba = none → l.length = 0) ∧ l.length ≤ cap := by
  rcases h.2 with ⟨rfl, h0⟩ | ⟨g, cap, cur, rfl, hb, hg, hcap, _⟩
  · exact ⟨none, 0, by rw [h0], Or.inl (List.eq_nil_of_length_eq_zero h0), fun _ => h0, by omega⟩
  · refine ⟨_, cap, rfl, Or.inr ⟨g, 0, cur, (0, 0), rfl, hg, fun i hi => ?_⟩, (fun e => by cases e), hcap⟩
    have := h.cells (g := g) rfl i (.int .u8 (l[i].toNat : Nat)) (by unfold u8s; simp [hi])
    rw [addPl] at this; exact this
/-- an item: its number, its bytes' slice, its bytes -/
structure It where
  seq : Int
  ba : Option Addr
  cap : Nat
  data : List UInt8
def It.cells (x : It) : List Value := [.int .i64 x.seq, .slice x.ba x.data.length x.cap]
def icells (L : List It) : List Value := L.flatMap It.cells
theorem icells_snoc (L : List It) (x : It) : icells (L ++ [x]) = icells L ++ x.cells := by unfold icells; simp
theorem icells_len (L : List It) : (icells L).length = L.length * 2 := by
  induction L with
  | nil => rfl
  | cons x L ih => unfold icells at ih ⊢; rw [List.flatMap_cons, List.length_append, ih, List.length_cons]; show 2 + _ = _; omega
theorem icells_at : ∀ (L : List It) (i c : Nat) (h : i < L.length) (hc : c < 2), (icells L)[2 * i + c]? = (L[i].cells)[c]?
  | [], i, c, h, _ => by simp at h
  | x :: L, 0, c, h, hc => by
    unfold icells
    rw [List.flatMap_cons, Nat.mul_zero, Nat.zero_add, List.getElem?_append_left (by exact hc)]; rfl
  | x :: L, i + 1, c, h, hc => by
    have ih := icells_at L i c (by simpa using h) hc
    unfold icells at ih ⊢
    rw [List.flatMap_cons, List.getElem?_append_right (by show 2 ≤ _; omega), show 2 * (i + 1) + c - x.cells.length = 2 * i + c by show 2 * (i + 1) + c - 2 = _; omega, ih]; rfl
/-- the items that a slice of the session's own holds -/
structure Its (w : World) (B : Nat) (out : Value) (L : List It) : Prop where
  own : w.ownsRow B 27 2 out L.length (icells L)
  rd : ∀ x ∈ L, Rt w x.ba x.data
  nil : ∀ x ∈ L, x.ba = none → x.data.length = 0
  cap : ∀ x ∈ L, x.data.length ≤ x.cap
theorem Try.info_item : (Try.prog.info? 27).map (fun i => (i.zero, i.size, i.bytes)) = some (some (.agg #[.int .i64 0, .slice none 0 0]), 2, 32) := by kernel_rfl
end Go.Proofs.Ytndfelbgppbncaa
/- bytes.Clone of the library, and Send, by contract. -/
set_option linter.unusedVariables false
namespace Go.Proofs.Ytndfelbgppbncaa
open Go.RowKit
set_option maxHeartbeats 1600000 in
set_option maxRecDepth 100000 in
theorem bclone_any (ba : Option Addr) (n cap : Nat) (l : List UInt8) (w : World) (hn : l.length = n) (hr : Rd w ba l) (hb : ba = none → n = 0) (hl : n ≤ 1099511627776) :
    Calls Try.prog 55 #[.slice ba n cap] w (ClPost ba l w) := by
  subst hn
  have q22 : ∀ (w : World) (a : Option Addr) (n c n' c' : Nat), (binOp .eql 25 (.slice a n c) (.slice none n' c')).run Try.prog w = .ok (.bool a.isNone) w := fun w a n c n' c' => Lib.run_eql_slice_nil w _ _ a n c n' c' Try.underlying25
  obtain ⟨i0, hi, hz0, hz1, hz2⟩ := info_parts Try.info_u8
  have HR := Lib.hid hr
  clear hr
  cases ba with
  | none =>
    have h0 := hb rfl
    have hl0 : l = [] := List.eq_nil_of_length_eq_zero h0
    have HL := Lib.hid hl0
    clear h0 hl0 hb
    go_enter Try.func55, Try.ntmps55
    go_wp2
    go_ret
    exact ⟨_, rfl, by rw [HL.out]; exact Ow.nil _ _, Below.refl _ _, Iff.intro (fun _ => rfl) (fun _ => rfl)⟩
  | some a0 =>
    clear hb
    go_enter Try.func55, Try.ntmps55
    go_wp2_with (at_builtin; refine wpList_append_gw _ rfl _ _ 25 rfl w.heap.size 5 i0 (.int .u8 0) 1 1 Try.underlying25 hi hz0 hz1 hz2 rfl (by decide) _ 0 [] rfl (World.ownsRow_made w #[] 0 (Nat.le_refl _) (Nat.zero_le _) rfl) a0 l.length cap (u8s l) rfl ?c0 ?c1 ?c2 ?c3 ?c4 ?c5 ?_)
    case c0 => rw [u8s_len]; omega
    case c1 =>
      intro j u hj
      have hjl : j < l.length := by have := (List.getElem?_eq_some_iff.1 hj).1; rw [u8s_len] at this; exact this
      rcases HR.out with h | ⟨b, o, e, hlt, hc⟩
      · rw [h] at hjl; simp at hjl
      · cases e
        rw [Addr.add_lit]
        rw [((Below.refl w.heap.size w).alloc (Nat.le_refl _) _).cell (p := ⟨b, o + j, none⟩) hlt, hc j hjl, ← hj]
        unfold u8s; simp [hjl]
    case c2 => exact u8s_one l
    case c3 => unfold maxLen; omega
    case c4 => omega
    case c5 => simp
    intro v' w1 hown' hgrow hnn
    have hown1 : Ow w1 w.heap.size v' l := by unfold Ow; simpa using hown'
    have hb1 : Below w.heap.size w w1 := ((Below.refl _ w).alloc (Nat.le_refl _) _).grown hgrow.grown (by simp) (by intro k hk; simp [Value.ownBlock] at hk; omega)
    have hnn1 : v' ≠ .slice none 0 0 := hnn
    have HO1 := Lib.hid hown1
    have HB1 := Lib.hid hb1
    have HN1 := Lib.hid hnn1
    clear hown' hgrow hnn hown1 hb1 hnn1
    go_wp2
    go_ret
    exact ⟨_, rfl, HO1.out, HB1.out, Iff.intro (fun e => absurd e HN1.out) (fun e => by cases e)⟩
end Go.Proofs.Ytndfelbgppbncaa
/- A region that draws its order, where one condition on the world holds till the last operation that writes: copies and loads are taken first. -/
set_option linter.unusedVariables false
set_option linter.unusedSimpArgs false
namespace Go.Proofs.Ytndfelbgppbncaa
section
variable {P : Program} {ops : Array Oper} {Q : Exit → Act → World → Prop} {md : Region.Mode} {S : World → Prop} {k : Nat}
/-- whatever comes up: the condition holds till number k has come up -/
def wpAnyT (P : Program) (md : Region.Mode) (ops : Array Oper) (Q : Exit → Act → World → Prop) (S : World → Prop) (k : Nat) : Nat → Array Bool → Act → World → Prop
  | 0, listed, a, w => Region.ready md ops listed = [] ∧ Q .normal a w
  | fuel + 1, listed, a, w =>
    (Region.ready md ops listed = [] → Q .normal a w) ∧
    ∀ i ∈ Region.ready md ops listed, wpOp P ops Q i (fun a' w' => ((listed.setIfInBounds i true).getD k false = false → S w') ∧ wpAnyT P md ops Q S k fuel (listed.setIfInBounds i true) a' w') a w
theorem wpAny_of_T : ∀ (fuel : Nat) (listed : Array Bool) (a : Act) (w : World), wpAnyT P md ops Q S k fuel listed a w → wpAny P md ops Q fuel listed a w
  | 0, _, _, _, h => h
  | fuel + 1, _, _, _, h => ⟨h.1, fun i hi => wpOp_mono (fun a' w' h' => wpAny_of_T fuel _ a' w' h'.2) (h.2 i hi)⟩
theorem getD_ne {l : Array Bool} {i k : Nat} (h : i ≠ k) : (l.setIfInBounds i true).getD k false = l.getD k false := by
  simp [Array.getD_eq_getD_getElem?, Array.getElem?_setIfInBounds, h]
theorem getD_true_of {l : Array Bool} {i : Nat} (hi : l.getD i true = false) (h : (l.setIfInBounds i true).getD i false = false) : False := by
  rcases Nat.lt_or_ge i l.size with h' | h'
  · simp [Array.getD_eq_getD_getElem?, Array.getElem?_setIfInBounds, h'] at h
  · simp [Array.getD_eq_getD_getElem?, h'] at hi
/-- does k wait for i? -/
def waitsOn (md : Region.Mode) (ops : Array Oper) (k i : Nat) : Bool := match ops[k]? with
  | none => false
  | some o => o.after.toList.any fun e => Region.binds md e && e.on == i
/-- or is k no operation at all? (then the condition holds to the end) -/
def holdsTo (md : Region.Mode) (ops : Array Oper) (k i : Nat) : Bool := waitsOn md ops k i || Nat.ble ops.size k
theorem waits_spec {i : Nat} (h : waitsOn md ops k i = true) {listed : Array Bool} (hk : k ∈ Region.ready md ops listed) : listed.getD i false = true := by
  obtain ⟨_, o, ho, hall⟩ := mem_ready.1 hk
  unfold waitsOn at h
  simp only [ho, List.any_eq_true, Bool.and_eq_true, beq_iff_eq] at h
  obtain ⟨e, he, hb, rfl⟩ := h
  exact hall e (Array.mem_toList_iff.1 he) hb
theorem unlisted {i : Nat} {listed : Array Bool} (hi : i ∈ Region.ready md ops listed) : listed.getD i false = true → False := by
  intro h
  have h0 := (mem_ready.1 hi).1
  rcases Nat.lt_or_ge i listed.size with h' | h'
  · have : listed[i]? = some listed[i] := Array.getElem?_eq_getElem h'
    simp [Array.getD_eq_getD_getElem?, this] at h0 h
    rw [h0] at h; cases h
  · simp [Array.getD_eq_getD_getElem?, Array.getElem?_eq_none h'] at h
theorem wpAnyT_first {i : Nat} {oi : Oper} {v : Value} {S' : World → Prop} (hi : ops[i]? = some oi) (hsel : ∀ (j : Nat) (o : Oper) cs b, ops[j]? = some o → o.op ≠ .select cs b)
    (hQ : ∀ c a w, Q (.panic c) (a.put oi.dst v) w → Q (.panic c) a w) (hik : i ≠ k) (hSS : (S' = S ∧ holdsTo md ops k i = true) ∨ ∀ w, S' w) :
    ∀ (fuel : Nat) (listed : Array Bool) (a : Act) (w : World),
      (∀ j oj, ops[j]? = some oj → j ≠ i → listed.getD j true = false → (∀ e ∈ oj.after, Region.binds md e = true → e.on ≠ i) → oi.apart ops oj = true) →
      i ∈ Region.ready md ops listed → YieldsIf P ops S' oi v a → S' w → (listed.getD k false = false → S w) → (S' = S → (∀ w, S' w) ∨ listed.getD k false = false) →
      wpAnyT P md ops Q S k fuel (listed.setIfInBounds i true) (a.put oi.dst v) w → wpAnyT P md ops Q S k (fuel + 1) listed a w := by
  intro fuel
  induction fuel with
  | zero =>
    intro listed a w _ hr hy hS hO _ H
    refine ⟨(fun h => by rw [h] at hr; cases hr), fun j hj => ?_⟩
    by_cases hji : j = i
    · subst hji; exact hy.wpOp hi hS ⟨fun h => hO (by rwa [getD_ne hik] at h), H⟩
    · have := ready_mono hj hji
      rw [H.1] at this
      cases this
  | succ fuel ih =>
    intro listed a w hfree hr hy hS hO hU H
    refine ⟨(fun h => by rw [h] at hr; cases hr), fun j hj => ?_⟩
    by_cases hji : j = i
    · subst hji; exact hy.wpOp hi hS ⟨fun h => hO (by rwa [getD_ne hik] at h), H⟩
    · have h1 := H.2 j (ready_mono hj hji)
      obtain ⟨hjun, oj, hoj, hall⟩ := mem_ready.1 hj
      have hnot : ∀ e ∈ oj.after, Region.binds md e = true → e.on ≠ i := fun e he hb heq => unlisted hr (heq ▸ hall e he hb)
      have h2 := wpOp_putIf hoj (hfree j oj hoj hji hjun hnot) (fun cs b => hsel i oi cs b hi) (fun cs b => hsel j oj cs b hoj) hQ hy h1
      have hfree' : ∀ m om, ops[m]? = some om → m ≠ i → (listed.setIfInBounds j true).getD m true = false →
          (∀ e ∈ om.after, Region.binds md e = true → e.on ≠ i) → oi.apart ops om = true := fun m om hm hmi hun hno => by
        refine hfree m om hm hmi ?_ hno
        by_cases hjm : j = m
        · subst hjm; exact hjun
        · rw [getD_set_ne true hjm] at hun; exact hun
      have hO' : ∀ w', (((listed.setIfInBounds i true).setIfInBounds j true).getD k false = false → S w') → (listed.setIfInBounds j true).getD k false = false → S w' := fun w' h3 h4 => by
        refine h3 ?_
        rw [Array.setIfInBounds_comm _ _ (Ne.symm hji), getD_ne hik]; exact h4
      refine wpOp_mono (fun a' w' h3 => ⟨hO' w' h3.2.1, ih (listed.setIfInBounds j true) a' w' hfree' (ready_mono hr (Ne.symm hji)) h3.1 ?_ (hO' w' h3.2.1) ?_ ?_⟩) h2
      · rcases hSS with ⟨e, hk⟩ | hall'
        · rcases hU e with hall' | hkl
          · exact hall' _
          · subst e
            have hjk : j ≠ k := by
              rintro rfl
              unfold holdsTo at hk
              rw [Bool.or_eq_true] at hk
              rcases hk with hk | hk
              · exact unlisted hr (waits_spec hk hj)
              · have h5 := (Array.getElem?_eq_some_iff.1 hoj).1
                have h6 := Nat.le_of_ble_eq_true hk
                omega
            exact hO' w' h3.2.1 (by rw [getD_ne hjk]; exact hkl)
        · exact hall' _
      · intro e
        rcases hSS with ⟨_, hk⟩ | hall'
        · rcases hU e with hall' | hkl
          · exact Or.inl hall'
          · have hjk : j ≠ k := by
              rintro rfl
              unfold holdsTo at hk
              rw [Bool.or_eq_true] at hk
              rcases hk with hk | hk
              · exact unlisted hr (waits_spec hk hj)
              · have h5 := (Array.getElem?_eq_some_iff.1 hoj).1
                have h6 := Nat.le_of_ble_eq_true hk
                omega
            exact Or.inr (by rw [getD_ne hjk]; exact hkl)
        · exact Or.inl hall'
      · rw [Array.setIfInBounds_comm _ _ hji]
        exact h3.2.2
/-- a load or a copy first, while k has not come up -/
theorem wpAnyT_take (i : Nat) {oi : Oper} {v : Value} {fuel : Nat} {listed : Array Bool} {a : Act} {w : World} (hi : ops[i]? = some oi)
    (hs : Region.noSelect ops = true) (hk : (holdsTo md ops k i && !listed.getD k false) = true) (hik : i ≠ k) (hf : Region.free md ops listed i = true) (hr : (Region.ready md ops listed).contains i = true)
    (hQ : ∀ c a w, Q (.panic c) (a.put oi.dst v) w → Q (.panic c) a w) (hS : S w) (hw : Region.wanted oi (yielded ops a.tmps) = true) (hy : ∀ w, S w → (execOp a.eval oi).run P w = .ok (.value v) w)
    (h : wpAnyT P md ops Q S k fuel (listed.setIfInBounds i true) (a.put oi.dst v) w) : wpAnyT P md ops Q S k (fuel + 1) listed a w := by
  simp only [Bool.and_eq_true, Bool.not_eq_true'] at hk
  exact wpAnyT_first hi (Region.noSelect_spec hs) hQ hik (Or.inl ⟨rfl, hk.1⟩) fuel listed a w (Region.free_spec hi hf) (by simpa using hr) (Or.inl ⟨hw, hy⟩) hS (fun _ => hS) (fun _ => Or.inr hk.2) h
/-- what hangs on no world, first -/
theorem wpAnyT_pure (i : Nat) {oi : Oper} {v : Value} {fuel : Nat} {listed : Array Bool} {a : Act} {w : World} (hi : ops[i]? = some oi)
    (hs : Region.noSelect ops = true) (hik : i ≠ k) (hf : Region.free md ops listed i = true) (hr : (Region.ready md ops listed).contains i = true)
    (hQ : ∀ c a w, Q (.panic c) (a.put oi.dst v) w → Q (.panic c) a w) (hS : S w) (hw : Region.wanted oi (yielded ops a.tmps) = true) (hy : ∀ w, (execOp a.eval oi).run P w = .ok (.value v) w)
    (h : wpAnyT P md ops Q S k fuel (listed.setIfInBounds i true) (a.put oi.dst v) w) : wpAnyT P md ops Q S k (fuel + 1) listed a w :=
  wpAnyT_first (S' := fun _ => True) hi (Region.noSelect_spec hs) hQ hik (Or.inr fun _ => trivial) fuel listed a w (Region.free_spec hi hf) (by simpa using hr) (Or.inl ⟨hw, fun w _ => hy w⟩) trivial (fun _ => hS) (fun _ => Or.inl fun _ => trivial) h
/-- what is not wanted -/
theorem wpAnyT_skip (i : Nat) {oi : Oper} {fuel : Nat} {listed : Array Bool} {a : Act} {w : World} (hi : ops[i]? = some oi)
    (hs : Region.noSelect ops = true) (hik : i ≠ k) (hf : Region.free md ops listed i = true) (hr : (Region.ready md ops listed).contains i = true)
    (hQ : ∀ c a w, Q (.panic c) (a.put oi.dst undef) w → Q (.panic c) a w) (hS : S w) (hw : Region.wanted oi (yielded ops a.tmps) = false)
    (h : wpAnyT P md ops Q S k fuel (listed.setIfInBounds i true) (a.put oi.dst undef) w) : wpAnyT P md ops Q S k (fuel + 1) listed a w :=
  wpAnyT_first (S' := fun _ => True) hi (Region.noSelect_spec hs) hQ hik (Or.inr fun _ => trivial) fuel listed a w (Region.free_spec hi hf) (by simpa using hr) (Or.inr ⟨hw, rfl⟩) trivial (fun _ => hS) (fun _ => Or.inl fun _ => trivial) h
/-- one alone may come up -/
theorem wpAnyT_one (i : Nat) {o : Oper} {fuel : Nat} {listed : Array Bool} {a : Act} {w : World} (hr : Region.ready md ops listed = [i]) (hi : ops[i]? = some o)
    (hw : Region.wanted o (yielded ops a.tmps) = true)
    (h : ∀ K : Act → World → Prop, (∀ a' w', (i ≠ k → S w') → wpAnyT P md ops Q S k fuel (listed.setIfInBounds i true) a' w' → K a' w') → o.wp P a w K Q) : wpAnyT P md ops Q S k (fuel + 1) listed a w := by
  refine ⟨(fun h0 => by rw [hr] at h0; cases h0), fun j hj => ?_⟩
  rw [hr] at hj
  obtain rfl : j = i := by simpa using hj
  unfold wpOp
  simp only [hi, hw, if_true]
  refine Or.inl (h _ fun a' w' h1 h2 => ⟨fun h3 => h1 ?_, h2⟩)
  rintro rfl
  exact getD_true_of (mem_ready.1 (show _ ∈ Region.ready md ops listed from by rw [hr]; exact List.mem_singleton.2 rfl)).1 h3
theorem wpAnyT_done {fuel : Nat} {listed : Array Bool} {a : Act} {w : World} (hr : Region.ready md ops listed = []) (h : Q .normal a w) :
    wpAnyT P md ops Q S k fuel listed a w := by
  cases fuel with
  | zero => exact ⟨hr, h⟩
  | succ f => exact ⟨fun _ => h, by rw [hr]; simp⟩
theorem wp_region_T {id : Nat} {a : Act} {w : World} (S : World → Prop) (k : Nat) (hm : P.follows .mixedOrders = true)
    (h : wpAnyT P .any ops Q S k ops.size (Array.replicate ops.size false) a { w with drawn := w.drawn + 1 }) : (Code.region id ops true).wp P Q a w :=
  wp_region_any hm (wpAny_of_T _ _ _ _ h)
theorem wp_region_T_drew {id : Nat} {a : Act} {w : World} (S : World → Prop) (k : Nat) (hm : P.follows .mixedOrders = true) (hS : S w.drew)
    (h : S w.drew → wpAnyT P .any ops Q S k ops.size (Array.replicate ops.size false) a w.drew) : (Code.region id ops true).wp P Q a w := wp_region_T S k hm (h hS)
end
end Go.Proofs.Ytndfelbgppbncaa
/- Send, by contract (begun). -/
set_option linter.unusedVariables false
set_option linter.unusedSimpArgs false
namespace Go.Proofs.Ytndfelbgppbncaa
open Go.RowKit
/-- append to a slice of the call's own, at the operation -/
theorem op_append_gw {P : Program} (w : World) {o : Oper} {a : Act} {K : Act → World → Prop} {Q : Exit → Act → World → Prop} (s x : Operand) (t : TypeId)
    (ho : o.op = .call { callee := .builtin .append, args := #[s, x], argTypes := #[t, t] })
    (base : Nat) (e : TypeId) (i : TypeInfo) (z : Value) (size bytes : Nat) (ht : P.underlying t = some (.slice e)) (hi : P.info? e = some i) (hz : i.zero = some z)
    (hsize : i.size = size) (hby : i.bytes = bytes) (hzs : z.cells.size = size) (hsz : 0 < size)
    (v : Value) (n : Nat) (xs : List Value) (hs : a.eval s = v) (hown : w.ownsRow base e size v n xs)
    (ad : Addr) (m c : Nat) (news : List Value) (hx : a.eval x = .slice (some ad) m c) (hl : news.length = m * size) (hnews : ∀ j u, news[j]? = some u → w.cell? (ad.add j) = some u) (h1 : ∀ u ∈ news, u.oneCell' = true)
    (h63 : n + m ≤ maxLen) (hbytes : (n + m) * bytes ≤ 140737488355328) (hbase : base ≤ w.heap.size)
    (hK : ∀ v' w', w'.ownsRow base e size v' (n + m) (xs ++ news) → Gw w w' v v' → (v' = .slice none 0 0 ↔ v = .slice none 0 0 ∧ m = 0) → K (a.put o.dst v') w') :
    Oper.wp P o a w K Q := by
  obtain ⟨v', w', hr, h2, h3, h4⟩ := run_append_own (P := P) w base t o.type e i z size bytes ht hi hz hsize hby hzs hsz v n xs hown ad m c news hl hnews h1 h63 hbytes hbase
  have h5 := own_after (P := P) w base t o.type e i z size bytes ht hi hz hsize hby hzs hsz v n xs hown ad m c news hl hnews h1 h63 hbytes hr h4
  unfold Oper.wp execOp
  simp only [ho, resolve, invoke, builtin, Sem.run_bind, Sem.run_pure, Result.andThen_ok, List.map_toArray, List.map_cons, List.map_nil, hs, hx, hr]
  exact hK _ _ h2 ⟨h3, h5⟩ h4
/-- an append to a row of another type leaves bytes and lists of bytes -/
theorem Kb.gw {w w' : World} {v v' : Value} {B n size : Nat} {T : TypeId} {xs : List Value} (ho : w.ownsRow B T size v n xs) (h1 : T ≠ 5) (h2 : T ≠ 25) (h : Gw w w' v v') : Kb w w' := by
  have key : ∀ (k : Nat) (cur : Array Value) (T' : TypeId) (fr : Nat × Nat), T ≠ T' → w.heap[k]? = some (Obj.cells cur T' fr) → w'.heap[k]? = w.heap[k]? := by
    intro k cur T' fr hT hk
    refine h.grown.block k (Array.getElem?_eq_some_iff.1 hk).1 (fun e => ?_)
    rcases ho.2 with ⟨rfl, _⟩ | ⟨g, cap, cur', rfl, _, hg, _⟩
    · simp [Value.ownBlock] at e
    · simp [Value.ownBlock] at e
      subst e
      rw [hg] at hk; cases hk; exact hT rfl
  exact ⟨h.grown.os, h.grown.tape, h.grown.output, h.grown.size, fun k cur fr hk => key k cur _ fr h1 hk, fun k cur fr hk => key k cur _ fr h2 hk⟩
theorem own_ne {w : World} {v : Value} {B n size p : Nat} {T T' : TypeId} {xs : List Value} {cs : Array Value} (ho : w.ownsRow B T size v n xs) (hp : Blk w p cs T') (hT : T ≠ T') : some p ≠ v.ownBlock := by
  intro e
  rcases ho.2 with ⟨rfl, _⟩ | ⟨g, cap, cur', rfl, _, hg, _⟩
  · simp [Value.ownBlock] at e
  · simp [Value.ownBlock] at e
    subst e
    unfold Blk at hp
    rw [hg] at hp; cases hp; exact hT rfl
theorem bclone_rt (ba : Option Addr) (n cap : Nat) (l : List UInt8) (w : World) (hn : l.length = n) (hr : Rd w ba l) (hb : ba = none → n = 0) (hl : n ≤ 1099511627776) :
    Calls Try.prog 55 #[.slice ba n cap] w fun e w' => ∃ b2 c2, e = .returned (.slice b2 l.length c2) ∧ Ow w' w.heap.size (.slice b2 l.length c2) l ∧ Below w.heap.size w w' :=
  (bclone_any ba n cap l w hn hr hb hl).mono fun e w' ⟨v', he, ho, hbl, _⟩ => by
    obtain ⟨b2, c2, rfl, _, _, _⟩ := ho.rd
    exact ⟨b2, c2, he, ho, hbl⟩
theorem Its.turned {w w' : World} {B : Nat} {out : Value} {L : List It} {row : Option Nat} (h : Its w B out L) (hk : Kb w w') (hg : w.grownBy w' row) (hne : ∀ k, out.ownBlock = some k → row ≠ some k) : Its w' B out L :=
  ⟨World.ownsRow.kept h.own hg (by cases hv : out.ownBlock with | none => exact Or.inl rfl | some k => exact Or.inr (fun e => hne k hv e.symm)), fun x hx => (h.rd x hx).kept hk, h.nil, h.cap⟩
theorem row_below {w w' : World} {B n size : Nat} {T : TypeId} {v : Value} {xs : List Value} (h : w.ownsRow B T size v n xs) (hb : Below w.heap.size w w') : w'.ownsRow B T size v n xs :=
  World.ownsRow.kept (row := none) h ⟨hb.os, hb.tape, hb.output, hb.size, fun k hk _ => hb.block k hk⟩ (by cases v.ownBlock with | none => exact Or.inl rfl | some k => exact Or.inr (by simp))
theorem Its.below {w w' : World} {B : Nat} {out : Value} {L : List It} (h : Its w B out L) (hb : Below w.heap.size w w') : Its w' B out L :=
  ⟨row_below h.own hb, fun x hx => (h.rd x hx).kept (Kb.below hb), h.nil, h.cap⟩
/-- below a bound that the row lies above, nothing has turned -/
theorem below_row {B : Nat} {a w w' : World} {r : Option Nat} (h : Below B a w) (hg : w.grownBy w' r) (hB : B ≤ w.heap.size) (hr : ∀ k, r = some k → B ≤ k) : Below B a w' := h.grown hg hB hr
theorem Rd.kept2 {w w' : World} {ba : Option Addr} {l : List UInt8} {p : Nat} (h : Rd w ba l) (hg : w.grownBy w' (some p)) (hne : l ≠ [] → ∀ b o, ba = some (⟨b, o, none⟩ : Addr) → b ≠ p) : Rd w' ba l := by
  by_cases hl : l = []
  · exact Or.inl hl
  · exact h.kept hg (hne hl)
def SendPost (p B : Nat) (self peer life last done acc pl : Int) (L : List It) (d : List UInt8) (w : World) (e : Ending) (w' : World) : Prop :=
  ∃ b2 c2 out', e = .returned (.tuple #[.int .i64 (last + 1), .int .i64 0]) ∧ Se w' p self peer life (last + 1) out' done acc pl ∧ Its w' B out' (L ++ [⟨last + 1, b2, c2, d⟩]) ∧ Kb w w' ∧ Below B w w'
set_option maxHeartbeats 1600000 in
set_option maxRecDepth 100000 in
theorem send_any (p B : Nat) (self peer life last done acc pl : Int) (out : Value) (L : List It) (ba : Option Addr) (n cap : Nat) (d : List UInt8) (w : World) (h : Se w p self peer life last out done acc pl) (hi : Its w B out L) (hB : B ≤ p) (hlast : 0 ≤ last ∧ last ≤ 4611686018427387904)
    (hn : d.length = n) (hr : Rd w ba d) (hb : ba = none → n = 0) (hap : d ≠ [] → ∀ b o, ba = some (⟨b, o, none⟩ : Addr) → b ≠ p) (hL : L.length < 1024) (hd : n ≤ 1048576) :
    Calls Try.prog 22 #[.pointer (some ⟨p, 0, none⟩), .slice ba n cap] w (SendPost p B self peer life last done acc pl L d w) := by
  obtain ⟨i0, hi0, hz0, hz1, hz2⟩ := info_parts Try.info_item
  have CN := Lib.hid (none_any p self peer life last out done acc pl w h)
  have c4 := h.cell 4
  have c5 := h.cell 5
  have hf := fun o => h.free o
  have hlt := h.lt
  obtain ⟨g, cg, rfl⟩ : ∃ g cg, out = Value.slice g L.length cg := by
    rcases hi.own.2 with ⟨e, h0⟩ | ⟨g, cap, cur, q1, _⟩
    · exact ⟨none, 0, by rw [e, h0]⟩
    · exact ⟨_, cap, q1⟩
  have HS := Lib.hid h
  have HI := Lib.hid hi
  obtain ⟨l1, l2⟩ := hlast
  have CB := Lib.hid (fun W (hW : Kb w W) (hr' : Rd W ba d) => bclone_rt ba n cap d W hn hr' hb (by omega))
  have HR := Lib.hid hr
  have b1 : ¬ (1024 : Int) ≤ (L.length : Int) := by omega
  clear h hi hn hr hb
  go_enter Try.func22, Try.ntmps22
  go_wp2_with fail
  with_reducible refine (CN.out).mono ?_
  rintro e w1 ⟨rfl, rfl⟩
  go_wp2_with fail
  have hS4 : Se (w.setCell ⟨p, 4, none⟩ (.int .i64 (last + 1))) p self peer life (last + 1) (.slice g L.length cg) done acc pl := HS.out.set 4 _
  have hg4 : w.grownBy (w.setCell ⟨p, 4, none⟩ (.int .i64 (last + 1))) (some p) := grown_set (grown_refl _ _) _ _
  have hk4 : Kb w (w.setCell ⟨p, 4, none⟩ (.int .i64 (last + 1))) := Kb.grown HS.out (by decide) (by decide) hg4
  have hI4 : Its (w.setCell ⟨p, 4, none⟩ (.int .i64 (last + 1))) B (.slice g L.length cg) L := HI.out.turned hk4 hg4 (fun k hk e => by
    cases e
    rcases HI.out.own.2 with ⟨e', h0⟩ | ⟨g', cap', cur', e', h1', h2', _⟩
    · rw [e'] at hk; cases hk
    · rw [e'] at hk; simp [Value.ownBlock] at hk; subst hk; have := HS.out; unfold Se Blk at this; rw [h2'] at this; cases this)
  have hr4 : Rd (w.setCell ⟨p, 4, none⟩ (.int .i64 (last + 1))) ba d := HR.out.kept2 hg4 hap
  have hb4 : B ≤ w.heap.size → Below B w (w.setCell ⟨p, 4, none⟩ (.int .i64 (last + 1))) := fun hb => (Below.refl B w).grown hg4 hb (fun k hk => by have := Option.some.inj hk; omega)
  clear c4 c5 hf hlt
  generalize w.setCell ⟨p, 4, none⟩ (.int .i64 (last + 1)) = W at hS4 hg4 hk4 hI4 hr4 hb4 ⊢
  have c4 := hS4.cell 4
  have c5 := hS4.cell 5
  have hf := fun o => hS4.free o
  have hlt := hS4.lt
  have HS4 := Lib.hid hS4
  have HK4 := Lib.hid hk4
  have HI4 := Lib.hid hI4
  have HR4 := Lib.hid hr4
  have HB4 := Lib.hid hb4
  clear hS4 hg4 hk4 hI4 hr4 hb4
  refine wp_region_T_drew (fun w' => w'.cell? ⟨p, 4, none⟩ = some (.int .i64 (last + 1)) ∧ w'.cell? ⟨p, 5, none⟩ = some (.slice g L.length cg)) 19 (by kernel_rfl) ⟨c4, c5⟩ (fun hS => ?_)
  refine wpAnyT_take 0 rfl (by kernel_rfl) (by kernel_rfl) (by decide) (by kernel_rfl) (by kernel_rfl) (fun _ _ _ h => h) hS (by kernel_rfl) (v := ?_) ?_ ?_
  rotate_left
  · intro w' hSw; (try dsimp only at hSw); go_simp; (try with_reducible rfl)
  simp only [Act.put, List.setIfInBounds_toArray, List.set_cons_zero, List.set_cons_succ]
  refine wpAnyT_take 1 rfl (by kernel_rfl) (by kernel_rfl) (by decide) (by kernel_rfl) (by kernel_rfl) (fun _ _ _ h => h) hS (by kernel_rfl) (v := ?_) ?_ ?_
  rotate_left
  · intro w' hSw; (try dsimp only at hSw); go_simp; (try with_reducible rfl)
  simp only [Act.put, List.setIfInBounds_toArray, List.set_cons_zero, List.set_cons_succ]
  refine wpAnyT_take 2 rfl (by kernel_rfl) (by kernel_rfl) (by decide) (by kernel_rfl) (by kernel_rfl) (fun _ _ _ h => h) hS (by kernel_rfl) (v := ?_) ?_ ?_
  rotate_left
  · intro w' hSw; (try dsimp only at hSw); go_simp; (try with_reducible rfl)
  simp only [Act.put, List.setIfInBounds_toArray, List.set_cons_zero, List.set_cons_succ]
  refine wpAnyT_take 3 rfl (by kernel_rfl) (by kernel_rfl) (by decide) (by kernel_rfl) (by kernel_rfl) (fun _ _ _ h => h) hS (by kernel_rfl) (v := ?_) ?_ ?_
  rotate_left
  · intro w' hSw; (try dsimp only at hSw); go_simp; (try with_reducible rfl)
  simp only [Act.put, List.setIfInBounds_toArray, List.set_cons_zero, List.set_cons_succ]
  refine wpAnyT_take 4 rfl (by kernel_rfl) (by kernel_rfl) (by decide) (by kernel_rfl) (by kernel_rfl) (fun _ _ _ h => h) hS (by kernel_rfl) (v := ?_) ?_ ?_
  rotate_left
  · intro w' hSw; (try dsimp only at hSw); go_simp; (try with_reducible rfl)
  simp only [Act.put, List.setIfInBounds_toArray, List.set_cons_zero, List.set_cons_succ]
  refine wpAnyT_take 5 rfl (by kernel_rfl) (by kernel_rfl) (by decide) (by kernel_rfl) (by kernel_rfl) (fun _ _ _ h => h) hS (by kernel_rfl) (v := ?_) ?_ ?_
  rotate_left
  · intro w' hSw; (try dsimp only at hSw); go_simp; (try with_reducible rfl)
  simp only [Act.put, List.setIfInBounds_toArray, List.set_cons_zero, List.set_cons_succ]
  refine wpAnyT_take 6 rfl (by kernel_rfl) (by kernel_rfl) (by decide) (by kernel_rfl) (by kernel_rfl) (fun _ _ _ h => h) hS (by kernel_rfl) (v := ?_) ?_ ?_
  rotate_left
  · intro w' hSw; (try dsimp only at hSw); go_simp; (try with_reducible rfl)
  simp only [Act.put, List.setIfInBounds_toArray, List.set_cons_zero, List.set_cons_succ]
  refine wpAnyT_take 7 rfl (by kernel_rfl) (by kernel_rfl) (by decide) (by kernel_rfl) (by kernel_rfl) (fun _ _ _ h => h) hS (by kernel_rfl) (v := ?_) ?_ ?_
  rotate_left
  · intro w' hSw; (try dsimp only at hSw); go_simp; (try with_reducible rfl)
  simp only [Act.put, List.setIfInBounds_toArray, List.set_cons_zero, List.set_cons_succ]
  refine wpAnyT_take 8 rfl (by kernel_rfl) (by kernel_rfl) (by decide) (by kernel_rfl) (by kernel_rfl) (fun _ _ _ h => h) hS (by kernel_rfl) (v := ?_) ?_ ?_
  rotate_left
  · intro w' hSw; (try dsimp only at hSw); go_simp; (try with_reducible rfl)
  simp only [Act.put, List.setIfInBounds_toArray, List.set_cons_zero, List.set_cons_succ]
  refine wpAnyT_take 9 rfl (by kernel_rfl) (by kernel_rfl) (by decide) (by kernel_rfl) (by kernel_rfl) (fun _ _ _ h => h) hS (by kernel_rfl) (v := ?_) ?_ ?_
  rotate_left
  · intro w' hSw; (try dsimp only at hSw); go_simp; (try with_reducible rfl)
  simp only [Act.put, List.setIfInBounds_toArray, List.set_cons_zero, List.set_cons_succ]
  refine wpAnyT_take 10 rfl (by kernel_rfl) (by kernel_rfl) (by decide) (by kernel_rfl) (by kernel_rfl) (fun _ _ _ h => h) hS (by kernel_rfl) (v := ?_) ?_ ?_
  rotate_left
  · intro w' hSw; (try dsimp only at hSw); go_simp; (try with_reducible rfl)
  simp only [Act.put, List.setIfInBounds_toArray, List.set_cons_zero, List.set_cons_succ]
  refine wpAnyT_take 11 rfl (by kernel_rfl) (by kernel_rfl) (by decide) (by kernel_rfl) (by kernel_rfl) (fun _ _ _ h => h) hS (by kernel_rfl) (v := ?_) ?_ ?_
  rotate_left
  · intro w' hSw; (try dsimp only at hSw); go_simp; (try with_reducible rfl)
  simp only [Act.put, List.setIfInBounds_toArray, List.set_cons_zero, List.set_cons_succ]
  refine wpAnyT_one 12 (by kernel_rfl) rfl (by kernel_rfl) (fun K hK => ?_)
  go_simp
  have hdr : Below W.heap.size W W.drew := (Below.refl _ _).drew
  refine (CB.out _ (HK4.out.trans (Kb.below hdr)) (HR4.out.below hdr)).mono ?_
  rintro e w5 ⟨b2, c2, rfl, ho5, hb5⟩
  have hb5' : Below W.heap.size W w5 := hdr.trans hb5
  have hS5 : Se w5 p self peer life (last + 1) (.slice g L.length cg) done acc pl := HS4.out.below hb5'
  have HS5 := Lib.hid hS5
  have HO5 := Lib.hid ho5
  have HB5 := Lib.hid hb5'
  have hS := And.intro (hS5.cell 4) (hS5.cell 5)
  clear ho5 hb5 hb5' hS5 hdr
  refine hK _ _ (fun _ => hS) ?_
  clear hK K
  refine wpAnyT_take 13 rfl (by kernel_rfl) (by kernel_rfl) (by decide) (by kernel_rfl) (by kernel_rfl) (fun _ _ _ h => h) hS (by kernel_rfl) (v := ?_) ?_ ?_
  rotate_left
  · intro w' hSw; (try dsimp only at hSw); go_simp; (try with_reducible rfl)
  simp only [Act.put, List.setIfInBounds_toArray, List.set_cons_zero, List.set_cons_succ]
  refine wpAnyT_one 14 (by kernel_rfl) rfl (by kernel_rfl) (fun K hK => ?_)
  go_simp
  have HS6 := Lib.hid (HS5.out.below ((Below.refl _ _).alloc (Nat.le_refl _) (.cells #[.int .i64 (last + 1), .slice b2 d.length c2] 27)))
  have hS := And.intro (HS6.out.cell 4) (HS6.out.cell 5)
  refine hK _ _ (fun _ => hS) ?_
  clear hK K
  refine wpAnyT_one 15 (by kernel_rfl) rfl (by kernel_rfl) (fun K hK => ?_)
  have hB5 : B ≤ w5.heap.size := Nat.le_trans hB (Nat.le_of_lt HS5.out.lt)
  refine op_append_gw _ (.tmp 35) (.tmp 44) 22 rfl B 27 i0 _ 2 32 Try.underlying22 hi0 hz0 hz1 hz2 rfl (by decide) (.slice g L.length cg) L.length (icells L) rfl (row_below (row_below HI4.out.own HB5.out) ((Below.refl _ _).alloc (Nat.le_refl _) _)) ⟨w5.heap.size, 0, none⟩ 1 1 [.int .i64 (last + 1), .slice b2 d.length c2] rfl rfl ?_ ?_ ?_ ?_ ?_ ?_
  · intro j u hj
    exact cells_new _ #[.int .i64 (last + 1), .slice b2 d.length c2] _ _ rfl j u (by simpa using hj)
  · intro u hu; simp only [List.mem_cons, List.not_mem_nil, or_false] at hu; rcases hu with rfl | rfl <;> rfl
  · unfold maxLen; omega
  · omega
  · simp; omega
  intro v6 w6 hown6 hg6 hn6
  obtain ⟨g6, cap6, rfl⟩ : ∃ g6 cap6, v6 = Value.slice (some ⟨g6, 0, none⟩) (L.length + 1) cap6 := by
    rcases hown6.2 with ⟨_, h0⟩ | ⟨g6, cap6, _, e6, _⟩
    · omega
    · exact ⟨g6, cap6, e6⟩
  have hne := own_ne (row_below (row_below HI4.out.own HB5.out) ((Below.refl _ _).alloc (Nat.le_refl _) _)) HS6.out (by decide)
  have HS7 := Lib.hid (HS6.out.kept hg6.grown hne)
  have hS := And.intro (HS7.out.cell 4) (HS7.out.cell 5)
  have hk6 : Kb W w6 := (Kb.below HB5.out).trans ((Kb.below ((Below.refl _ _).alloc (Nat.le_refl _) _)).trans (Kb.gw (row_below (row_below HI4.out.own HB5.out) ((Below.refl _ _).alloc (Nat.le_refl _) _)) (by decide) (by decide) hg6))
  have hrd6 : Rt w6 b2 d := by
    obtain ⟨b3, c3, e3, r3, _, _⟩ := HO5.out.rt
    cases e3
    exact r3.kept ((Kb.below ((Below.refl _ _).alloc (Nat.le_refl _) _)).trans (Kb.gw (row_below (row_below HI4.out.own HB5.out) ((Below.refl _ _).alloc (Nat.le_refl _) _)) (by decide) (by decide) hg6))
  have hits : Its w6 B (.slice (some ⟨g6, 0, none⟩) (L.length + 1) cap6) (L ++ [⟨last + 1, b2, c2, d⟩]) := by
    refine ⟨by rw [icells_snoc, List.length_append]; exact hown6, fun x hx => ?_, fun x hx => ?_, fun x hx => ?_⟩
    · rcases List.mem_append.1 hx with hx | hx
      · exact (HI4.out.rd x hx).kept hk6
      · obtain rfl := List.mem_singleton.1 hx; exact hrd6
    · rcases List.mem_append.1 hx with hx | hx
      · exact HI4.out.nil x hx
      · obtain rfl := List.mem_singleton.1 hx
        obtain ⟨b3, c3, e3, _, n3, _⟩ := HO5.out.rt
        cases e3; exact n3
    · rcases List.mem_append.1 hx with hx | hx
      · exact HI4.out.cap x hx
      · obtain rfl := List.mem_singleton.1 hx
        obtain ⟨b3, c3, e3, _, _, n3⟩ := HO5.out.rt
        cases e3; exact n3
  have hbw : Below B w w6 := by
    have h1 := HB4.out (Nat.le_trans hB (Nat.le_of_lt HS.out.lt))
    have h2 : Below B w w5 := h1.trans (HB5.out.mono (Nat.le_trans hB (Nat.le_of_lt HS4.out.lt)))
    exact below_row (h2.alloc hB5 _) hg6.grown (by simp; omega) (fun k hk => (HI4.out.own.lt k hk).1)
  have HK6 := Lib.hid hk6
  have HI6 := Lib.hid hits
  have HB6 := Lib.hid hbw
  clear hown6 hg6 hn6 hne hk6 hrd6 hits hbw hB5
  refine hK _ _ (fun _ => hS) ?_
  clear hK K
  refine wpAnyT_pure 16 rfl (by kernel_rfl) (by decide) (by kernel_rfl) (by kernel_rfl) (fun _ _ _ h => h) hS (by kernel_rfl) (v := ?_) ?_ ?_
  rotate_left
  · intro w'; go_simp; (try with_reducible rfl)
  simp only [Act.put, List.setIfInBounds_toArray, List.set_cons_zero, List.set_cons_succ]
  refine wpAnyT_pure 17 rfl (by kernel_rfl) (by decide) (by kernel_rfl) (by kernel_rfl) (fun _ _ _ h => h) hS (by kernel_rfl) (v := ?_) ?_ ?_
  rotate_left
  · intro w'; go_simp; (try with_reducible rfl)
  simp only [Act.put, List.setIfInBounds_toArray, List.set_cons_zero, List.set_cons_succ]
  refine wpAnyT_take 18 rfl (by kernel_rfl) (by kernel_rfl) (by decide) (by kernel_rfl) (by kernel_rfl) (fun _ _ _ h => h) hS (by kernel_rfl) (v := ?_) ?_ ?_
  rotate_left
  · intro w' hSw; (try dsimp only at hSw); go_simp; (try with_reducible rfl)
  simp only [Act.put, List.setIfInBounds_toArray, List.set_cons_zero, List.set_cons_succ]
  refine wpAnyT_one 19 (by kernel_rfl) rfl (by kernel_rfl) (fun K hK => ?_)
  have z5 := HS7.out.cell 5
  have zf := fun o => HS7.out.free o
  go_simp
  refine hK _ _ (fun h => absurd rfl h) ?_
  clear hK K
  refine wpAnyT_done (by kernel_rfl) ?_
  have z4 := HS7.out.cell 4
  have HS8 := Lib.hid (HS7.out.set 5 (.slice (some ⟨g6, 0, none⟩) (L.length + 1) cap6))
  have hgr := grown_set (grown_refl w6 (some p)) 5 (.slice (some ⟨g6, 0, none⟩) (L.length + 1) cap6)
  have hk8 := Kb.grown HS7.out (by decide) (by decide) hgr
  have HI8 := Lib.hid (HI6.out.turned hk8 hgr (fun k hk e => own_ne HI6.out.own HS7.out (by decide) (e.trans hk.symm)))
  have HB8 := Lib.hid (below_row HB6.out hgr (by have := HS7.out.lt; omega) (fun k hk => by have := Option.some.inj hk; omega))
  have HK8 := Lib.hid (HK4.out.trans (HK6.out.trans hk8))
  clear hgr hk8
  go_wp2
  go_ret2
  exact ⟨b2, c2, _, rfl, HS8.out, HI8.out, HK8.out, HB8.out⟩
end Go.Proofs.Ytndfelbgppbncaa
/- droverlow: bytes, items, packets that are the same, by contract. -/
set_option linter.unusedVariables false
namespace Go.Proofs.Ytndfelbgppbncaa
open Go.RowKit
theorem conv_rd {w : World} {ba : Option Addr} {n cap : Nat} {l : List UInt8} (hn : l.length = n) (hr : Rd w ba l) (hb : ba = none → n = 0) :
    (convert 25 9 (.slice ba n cap)).run Try.prog w = .ok (.string ⟨l.toArray⟩) w := by
  subst hn
  cases ba with
  | none =>
    have h0 := hb rfl
    obtain rfl : l = [] := List.eq_nil_of_length_eq_zero h0
    exact run_convert_bytes_nil w 25 5 Try.underlying25 Try.underlying5 0 cap 9 Try.underlying9
  | some a =>
    refine run_convert_bytes_back w 25 9 5 a cap l Try.underlying25 Try.underlying5 Try.underlying9 fun j hj => ?_
    rcases hr with h | ⟨b, o, e, hlt, hc⟩
    · rw [h] at hj; simp at hj
    · cases e; rw [addPl]; exact hc j hj
set_option maxHeartbeats 800000 in
theorem sameBytes_any (ba bb : Option Addr) (n m ca cb : Nat) (l r : List UInt8) (w : World) (hn : l.length = n) (hr : Rd w ba l) (hb : ba = none → n = 0) (hn' : r.length = m) (hr' : Rd w bb r) (hb' : bb = none → m = 0) :
    Calls Try.prog 60 #[.slice ba n ca, .slice bb m cb] w fun e w' => e = .returned (.bool (l == r)) ∧ w = w' := by
  have k1 := conv_rd (cap := ca) hn hr hb
  have k2 := conv_rd (cap := cb) hn' hr' hb'
  clear hn hr hb hn' hr' hb'
  go_enter Try.func60, Try.ntmps60
  go_wp2
  go_ret
  exact ⟨rfl, rfl⟩
def BB (b : Bool) (w : World) (e : Ending) (w' : World) : Prop := e = .returned (.bool b) ∧ Below w.heap.size w w'
set_option maxHeartbeats 800000 in
theorem sameItem_any (x y : Int) (ba bb : Option Addr) (n m ca cb : Nat) (l r : List UInt8) (w : World) (hn : l.length = n) (hr : Rd w ba l) (hb : ba = none → n = 0) (hn' : r.length = m) (hr' : Rd w bb r) (hb' : bb = none → m = 0) :
    Calls Try.prog 27 #[.agg #[.int .i64 x, .slice ba n ca], .agg #[.int .i64 y, .slice bb m cb]] w (BB ((x == y) && (l == r)) w) := by
  have hw2 : Below w.heap.size w ((w.alloc (.cells #[.int .i64 x, .slice ba n ca] 27)).alloc (.cells #[.int .i64 y, .slice bb m cb] 27)) := ((Below.refl _ _).alloc (Nat.le_refl _) _).alloc (by simp) _
  have C := Lib.hid (sameBytes_any ba bb n m ca cb l r _ hn (hr.below hw2) hb hn' (hr'.below hw2) hb')
  have HW := Lib.hid hw2
  clear hn hr hb hn' hr' hb' hw2
  cases hxy : (x == y)
  · go_enter Try.func27, Try.ntmps27
    go_wp2
    go_ret
    exact ⟨rfl, HW.out⟩
  · go_enter Try.func27, Try.ntmps27
    go_wp2_with fail
    with_reducible refine (C.out).mono ?_
    rintro e w1 ⟨rfl, rfl⟩
    go_wp2
    go_ret
    exact ⟨rfl, HW.out⟩
def pk5 (a b c d : Int) (ba : Option Addr) (n cap : Nat) : Value := .agg #[.int .i64 a, .int .i64 b, .int .i64 c, .int .i64 d, .slice ba n cap]
def eq4 (a b c d a' b' c' d' : Int) : Bool := (a == a') && (b == b') && (c == c') && (d == d')
set_option maxHeartbeats 1600000 in
theorem samePacket_any (a b c d a' b' c' d' : Int) (ba bb : Option Addr) (n m ca cb : Nat) (l r : List UInt8) (w : World) (hn : l.length = n) (hr : Rd w ba l) (hb : ba = none → n = 0) (hn' : r.length = m) (hr' : Rd w bb r) (hb' : bb = none → m = 0) :
    Calls Try.prog 25 #[.agg #[.int .i64 a, .int .i64 b, .int .i64 c, .int .i64 d, .slice ba n ca], .agg #[.int .i64 a', .int .i64 b', .int .i64 c', .int .i64 d', .slice bb m cb]] w (BB (eq4 a b c d a' b' c' d' && (l == r)) w) := by
  have hw2 : Below w.heap.size w ((w.alloc (.cells #[.int .i64 a, .int .i64 b, .int .i64 c, .int .i64 d, .slice ba n ca] 34)).alloc (.cells #[.int .i64 a', .int .i64 b', .int .i64 c', .int .i64 d', .slice bb m cb] 34)) := ((Below.refl _ _).alloc (Nat.le_refl _) _).alloc (by simp) _
  have C := Lib.hid (sameBytes_any ba bb n m ca cb l r _ hn (hr.below hw2) hb hn' (hr'.below hw2) hb')
  have HW := Lib.hid hw2
  clear hn hr hb hn' hr' hb' hw2
  unfold eq4
  cases h1 : (a == a')
  · go_enter Try.func25, Try.ntmps25
    go_wp2
    go_ret
    exact ⟨rfl, HW.out⟩
  cases h2 : (b == b')
  · go_enter Try.func25, Try.ntmps25
    go_wp2
    go_ret
    exact ⟨rfl, HW.out⟩
  cases h3 : (c == c')
  · go_enter Try.func25, Try.ntmps25
    go_wp2
    go_ret
    exact ⟨rfl, HW.out⟩
  cases h4 : (d == d')
  · go_enter Try.func25, Try.ntmps25
    go_wp2
    go_ret
    exact ⟨rfl, HW.out⟩
  · go_enter Try.func25, Try.ntmps25
    go_wp2_with fail
    with_reducible refine (C.out).mono ?_
    rintro e w1 ⟨rfl, rfl⟩
    go_wp2
    go_ret
    exact ⟨rfl, HW.out⟩
end Go.Proofs.Ytndfelbgppbncaa
/- Lists of bytes: of the call's own, and read. -/
set_option linter.unusedVariables false
set_option linter.unusedSimpArgs false
namespace Go.Proofs.Ytndfelbgppbncaa
open Go.RowKit
structure Bt where
  ba : Option Addr
  cap : Nat
  data : List UInt8
def Bt.cell (x : Bt) : Value := .slice x.ba x.data.length x.cap
def bcells (M : List Bt) : List Value := M.map Bt.cell
theorem bcells_len (M : List Bt) : (bcells M).length = M.length := by unfold bcells; simp
theorem bcells_one (M : List Bt) : ∀ u ∈ bcells M, u.oneCell' = true := by
  intro u hu; unfold bcells at hu; obtain ⟨x, _, rfl⟩ := List.mem_map.1 hu; rfl
theorem Try.info_bytes : (Try.prog.info? 25).map (fun i => (i.zero, i.size, i.bytes)) = some (some (.slice none 0 0), 1, 24) := by kernel_rfl
/-- a list of bytes of the call's own -/
structure Ls (w : World) (B : Nat) (v : Value) (M : List Bt) : Prop where
  own : w.ownsRow B 25 1 v M.length (bcells M)
  rd : ∀ x ∈ M, Rt w x.ba x.data
  nil : ∀ x ∈ M, x.ba = none → x.data.length = 0
  cap : ∀ x ∈ M, x.data.length ≤ x.cap
theorem Ls.none_ (w : World) (B : Nat) : Ls w B (.slice none 0 0) [] := ⟨World.ownsRow_nil _ _ _ _, by simp, by simp, by simp⟩
theorem Ls.kept {w w' : World} {B : Nat} {v : Value} {M : List Bt} (h : Ls w B v M) (hk : Kb w w') : Ls w' B v M := by
  refine ⟨?_, fun x hx => (h.rd x hx).kept hk, h.nil, h.cap⟩
  rcases h.own.2 with h1 | ⟨g, cap, cur, h1, h2, h3, h4, h5, h6, h7⟩
  · exact ⟨h.own.1, Or.inl h1⟩
  · exact ⟨h.own.1, Or.inr ⟨g, cap, cur, h1, h2, (hk.lists g cur _ h3).trans h3, h4, h5, h6, h7⟩⟩
theorem Ls.below {w w' : World} {B : Nat} {v : Value} {M : List Bt} (h : Ls w B v M) (hb : Below w.heap.size w w') : Ls w' B v M := h.kept (Kb.below hb)
theorem Ls.mono {w : World} {B B' : Nat} {v : Value} {M : List Bt} (h : Ls w B v M) (hB : B' ≤ B) : Ls w B' v M := by
  refine ⟨?_, h.rd, h.nil, h.cap⟩
  rcases h.own.2 with h1 | ⟨g, cap, cur, h1, h2, h3⟩
  · exact ⟨h.own.1, Or.inl h1⟩
  · exact ⟨h.own.1, Or.inr ⟨g, cap, cur, h1, Nat.le_trans hB h2, h3⟩⟩
theorem Ls.val {w : World} {B : Nat} {v : Value} {M : List Bt} (h : Ls w B v M) : ∃ g c, v = .slice g M.length c := by
  rcases h.own.2 with ⟨rfl, h0⟩ | ⟨g, cap, cur, h1, _⟩
  · exact ⟨none, 0, by rw [h0]⟩
  · exact ⟨_, cap, h1⟩
/-- one more -/
theorem Ls.snoc {w w' : World} {B : Nat} {v v' : Value} {M : List Bt} {x : Bt} (h : Ls w B v M) (hr : Rt w x.ba x.data) (hn : x.ba = none → x.data.length = 0) (hc : x.data.length ≤ x.cap)
    (ho : w'.ownsRow B 25 1 v' (M.length + 1) (bcells M ++ [x.cell])) (hg : Gw w w' v v') : Ls w' B v' (M ++ [x]) := by
  have hb : ∀ (k : Nat) (cur : Array Value) (fr : Nat × Nat), w.heap[k]? = some (Obj.cells cur 5 fr) → w'.heap[k]? = w.heap[k]? := by
    intro k cur fr hk
    refine hg.grown.block k (Array.getElem?_eq_some_iff.1 hk).1 (fun e => ?_)
    rcases h.own.2 with ⟨rfl, _⟩ | ⟨g, cap, cur', rfl, _, hg', _⟩
    · simp [Value.ownBlock] at e
    · simp [Value.ownBlock] at e
      subst e
      rw [hg'] at hk; cases hk
  have kr : ∀ (ba : Option Addr) (l : List UInt8), Rt w ba l → Rt w' ba l := by
    intro ba l hr
    rcases hr with h1 | ⟨b, o, cur, fr, e, hblk, hcell⟩
    · exact Or.inl h1
    · refine Or.inr ⟨b, o, cur, fr, e, (hb b cur fr hblk).trans hblk, fun i hi => ?_⟩
      rw [World.cell?_of_block (w := w) (hb b cur fr hblk)]; exact hcell i hi
  refine ⟨by unfold bcells at *; rw [List.map_append, List.length_append]; exact ho, fun y hy => ?_, fun y hy => ?_, fun y hy => ?_⟩
  · rcases List.mem_append.1 hy with hy | hy
    · exact kr _ _ (h.rd y hy)
    · obtain rfl := List.mem_singleton.1 hy; exact kr _ _ hr
  · rcases List.mem_append.1 hy with hy | hy
    · exact h.nil y hy
    · obtain rfl := List.mem_singleton.1 hy; exact hn
  · rcases List.mem_append.1 hy with hy | hy
    · exact h.cap y hy
    · obtain rfl := List.mem_singleton.1 hy; exact hc
/-- a list of bytes that is read -/
structure Lr (w : World) (ba : Option Addr) (M : List Bt) : Prop where
  at_ : ∀ i (h : i < M.length), ∃ b o, ba = some (⟨b, o, none⟩ : Addr) ∧ b < w.heap.size ∧ w.cell? ⟨b, o + i, none⟩ = some M[i].cell
  rd : ∀ x ∈ M, Rd w x.ba x.data
  nil : ∀ x ∈ M, x.ba = none → x.data.length = 0
  cap : ∀ x ∈ M, x.data.length ≤ x.cap
theorem Lr.below {w w' : World} {ba : Option Addr} {M : List Bt} (h : Lr w ba M) (hb : Below w.heap.size w w') : Lr w' ba M := by
  refine ⟨fun i hi => ?_, fun x hx => (h.rd x hx).below hb, h.nil, h.cap⟩
  obtain ⟨b, o, e, hlt, hc⟩ := h.at_ i hi
  exact ⟨b, o, e, Nat.lt_of_lt_of_le hlt hb.size, by rw [hb.cell (p := ⟨b, o + i, none⟩) hlt]; exact hc⟩
theorem Ls.lr {w : World} {B : Nat} {v : Value} {M : List Bt} (h : Ls w B v M) : ∃ g c, v = .slice g M.length c ∧ Lr w g M ∧ M.length ≤ c := by
  rcases h.own.2 with ⟨rfl, h0⟩ | ⟨g, cap, cur, rfl, hb, hg, hcap, _⟩
  · obtain rfl := List.eq_nil_of_length_eq_zero h0
    exact ⟨none, 0, rfl, ⟨fun i hi => by simp at hi, by simp, by simp, by simp⟩, by simp⟩
  · refine ⟨_, cap, rfl, ⟨fun i hi => ⟨g, 0, rfl, (Array.getElem?_eq_some_iff.1 hg).1, ?_⟩, fun x hx => (h.rd x hx).rd, h.nil, h.cap⟩, hcap⟩
    have := h.own.cells (g := g) rfl i M[i].cell (by unfold bcells; simp [hi])
    rw [addPl] at this; exact this
theorem Lr.take {w : World} {ba : Option Addr} {M : List Bt} (h : Lr w ba M) (n : Nat) : Lr w ba (M.take n) := by
  refine ⟨fun i hi => ?_, fun x hx => h.rd x (List.mem_of_mem_take hx), fun x hx => h.nil x (List.mem_of_mem_take hx), fun x hx => h.cap x (List.mem_of_mem_take hx)⟩
  rw [List.length_take] at hi
  obtain ⟨b, o, e, hlt, hc⟩ := h.at_ i (by omega)
  exact ⟨b, o, e, hlt, by rw [List.getElem_take]; exact hc⟩
/-- an item of the session's own -/
theorem it_cells {w : World} {B : Nat} {g : Nat} {n c : Nat} {L : List It} (h : Its w B (.slice (some ⟨g, 0, none⟩) n c) L) (i : Nat) (hi : i < L.length) :
    w.cell? ⟨g, i * 2, none⟩ = some (.int .i64 L[i].seq) ∧ w.cell? ⟨g, i * 2 + 1, none⟩ = some (.slice L[i].ba L[i].data.length L[i].cap) := by
  have h0 := icells_at L i 0 hi (by omega)
  have h1 := icells_at L i 1 hi (by omega)
  have c0 := h.own.cells (g := g) rfl (2 * i + 0) _ (h0.trans rfl)
  have c1 := h.own.cells (g := g) rfl (2 * i + 1) _ (h1.trans rfl)
  rw [addPl, Nat.zero_add] at c0 c1
  rw [Nat.mul_comm i 2]
  exact ⟨c0, c1⟩
theorem Its.val {w : World} {B : Nat} {v : Value} {L : List It} (h : Its w B v L) : ∃ g c, v = .slice g L.length c ∧ (L ≠ [] → ∃ k, g = some ⟨k, 0, none⟩ ∧ k < w.heap.size ∧ B ≤ k) ∧ L.length ≤ c := by
  rcases h.own.2 with ⟨rfl, h0⟩ | ⟨g, cap, cur, h1, hb, hg, hc, _⟩
  · exact ⟨none, 0, by rw [h0], fun hne => absurd (List.eq_nil_of_length_eq_zero h0) hne, by omega⟩
  · exact ⟨_, cap, h1, fun _ => ⟨g, rfl, (Array.getElem?_eq_some_iff.1 hg).1, hb⟩, hc⟩
end Go.Proofs.Ytndfelbgppbncaa
/- Packets, by contract. -/
set_option linter.unusedVariables false
set_option linter.unusedSimpArgs false
namespace Go.Proofs.Ytndfelbgppbncaa
open Go.RowKit
def zeroIt : It := ⟨0, none, 0, []⟩
/-- what is to be sent now -/
def nowL (L : List It) : List It := if L = [] then [zeroIt] else L.take 8
def pkOf (sf lf dn : Nat) (x : It) : List UInt8 := By.pack ⟨sf, lf, x.seq.toNat, dn, x.data⟩
def ItOk (x : It) : Prop := 0 ≤ x.seq ∧ x.seq ≤ 4611686018427387904 ∧ x.data.length ≤ 1048576 ∧ (0 < x.seq ∨ x.data = [])
def PksPost (sf lf dn : Nat) (L : List It) (w : World) (e : Ending) (w' : World) : Prop := ∃ M g c, e = .returned (.slice g M.length c) ∧ M.map Bt.data = (nowL L).map (pkOf sf lf dn) ∧ Ls w' w.heap.size (.slice g M.length c) M ∧ Below w.heap.size w w'
/-- the source of the loop -/
structure Src (w : World) (b : Nat) (N : List It) : Prop where
  lt : b < w.heap.size
  c0 : ∀ i (h : i < N.length), w.cell? ⟨b, i * 2, none⟩ = some (.int .i64 N[i].seq)
  c1 : ∀ i (h : i < N.length), w.cell? ⟨b, i * 2 + 1, none⟩ = some (.slice N[i].ba N[i].data.length N[i].cap)
  rd : ∀ x ∈ N, Rd w x.ba x.data
  nil : ∀ x ∈ N, x.ba = none → x.data.length = 0
theorem Src.below {w w' : World} {b : Nat} {N : List It} (h : Src w b N) (hb : Below w.heap.size w w') : Src w' b N :=
  ⟨Nat.lt_of_lt_of_le h.lt hb.size, fun i hi => by rw [hb.cell (p := ⟨b, i * 2, none⟩) h.lt]; exact h.c0 i hi, fun i hi => by rw [hb.cell (p := ⟨b, i * 2 + 1, none⟩) h.lt]; exact h.c1 i hi, fun x hx => (h.rd x hx).below hb, h.nil⟩
theorem pack_int (f l s a : Nat) (x y z u : Int) (hx : x = f) (hy : y = l) (hz : z = s) (hu : u = a) (ba : Option Addr) (n cap : Nat) (d : List UInt8) (w : World) (hn : d.length = n) (hr : Rd w ba d) (hb : ba = none → n = 0) (hp : (⟨f, l, s, a, d⟩ : By.Pk).right) :
    Calls Try.prog 56 #[.agg #[.int .i64 x, .int .i64 y, .int .i64 z, .int .i64 u, .slice ba n cap]] w fun e w' => ∃ g c, e = .returned (.tuple #[.slice g (By.pack ⟨f, l, s, a, d⟩).length c, .int .i64 0]) ∧ Ow w' w.heap.size (.slice g (By.pack ⟨f, l, s, a, d⟩).length c) (By.pack ⟨f, l, s, a, d⟩) ∧ Below w.heap.size w w' := by
  subst hx; subst hy; subst hz; subst hu
  refine (pack_yes f l s a ba n cap d w hn hr hb hp).mono fun e w' h => ?_
  obtain ⟨v', he, ho, hb'⟩ := h
  obtain ⟨b1, c1, rfl, _, _, _⟩ := ho.rd
  exact ⟨b1, c1, he, ho, hb'⟩
/-- behind i rounds -/
def PkRel (W0 : World) (sf lf dn : Nat) (N : List It) (out iv : Value) (wr : World) : Prop := ∃ (i : Nat) (M : List Bt), i ≤ N.length ∧ iv = .int .i64 i ∧ M.length = i ∧ M.map Bt.data = (N.take i).map (pkOf sf lf dn) ∧ Ls wr W0.heap.size out M ∧ Below W0.heap.size W0 wr
theorem take_map (N : List It) (sf lf dn i : Nat) (h : i < N.length) : (N.take (i + 1)).map (pkOf sf lf dn) = (N.take i).map (pkOf sf lf dn) ++ [pkOf sf lf dn N[i]] := by
  rw [List.take_succ_eq_append_getElem h, List.map_append]; rfl
theorem itok_right {sf lf dn : Nat} {x : It} (k1 : sf ≤ 4611686018427387904) (k2 : lf ≤ 4611686018427387904) (k3 : dn ≤ 4611686018427387904) (h : ItOk x) : (⟨sf, lf, x.seq.toNat, dn, x.data⟩ : By.Pk).right := by
  obtain ⟨a, b, c, d⟩ := h
  unfold By.Pk.right By.top
  refine ⟨k1, k2, by simp only; omega, k3, c, ?_⟩
  rcases d with d | d
  · exact Or.inl (by simp only; omega)
  · exact Or.inr d
set_option maxHeartbeats 1600000 in
set_option maxRecDepth 100000 in
theorem packets_any (p B : Nat) (sf lf dn : Nat) (self peer life last done acc pl : Int) (out : Value) (L : List It) (w : World) (h : Se w p self peer life last out done acc pl) (hi : Its w B out L)
    (e1 : self = sf) (e2 : life = lf) (e3 : done = dn) (k1 : sf ≤ 4611686018427387904) (k2 : lf ≤ 4611686018427387904) (k3 : dn ≤ 4611686018427387904) (hL : ∀ x ∈ L, ItOk x) (hlen : L.length ≤ 1024) :
    Calls Try.prog 23 #[.pointer (some ⟨p, 0, none⟩)] w (PksPost sf lf dn L w) := by
  obtain ⟨i0, hi0, hz0, hz1, hz2⟩ := info_parts Try.info_bytes
  have CN := Lib.hid (none_any p self peer life last out done acc pl w h)
  have c5 := h.cell 5
  have hlt := h.lt
  obtain ⟨g, cg, rfl, hg, hcg⟩ := hi.val
  have HS := Lib.hid h
  have HI := Lib.hid hi
  have E1 := Lib.hid e1
  have E2 := Lib.hid e2
  have E3 := Lib.hid e3
  clear h hi e1 e2 e3
  by_cases hn : L = []
  · subst hn
    clear hg hlen hL
    go_enter Try.func23, Try.ntmps23
    go_wp2_with fail
    with_reducible refine (CN.out).mono ?_
    rintro e w1 ⟨rfl, rfl⟩
    go_wp2_with fail
    go_quiet (fail)
    go_wp2_with fail
    have hb0 : Below w.heap.size w ((w.drewN nq).alloc (.cells #[.int .i64 0, .slice none 0 0] 27)) := (belowN (Below.refl w.heap.size w) nq).alloc (Nat.le_refl _) _
    have HB0 := Lib.hid hb0
    have HS0 := Lib.hid (HS.out.below hb0)
    have hz : Blk ((w.drewN nq).alloc (.cells #[.int .i64 0, .slice none 0 0] 27)) w.heap.size #[.int .i64 0, .slice none 0 0] 27 := Blk.new _ _ _
    have hsrc : Src ((w.drewN nq).alloc (.cells #[.int .i64 0, .slice none 0 0] 27)) w.heap.size [zeroIt] := by
      refine ⟨hz.lt, fun i hi => ?_, fun i hi => ?_, fun x hx => ?_, fun x hx => ?_⟩
      · obtain rfl : i = 0 := by simp at hi; omega
        exact hz.cell 0
      · obtain rfl : i = 0 := by simp at hi; omega
        exact hz.cell 1
      · obtain rfl := List.mem_singleton.1 hx; exact Or.inl rfl
      · obtain rfl := List.mem_singleton.1 hx; intro _; rfl
    have hokz : ∀ x ∈ [zeroIt], ItOk x := fun x hx => by obtain rfl := List.mem_singleton.1 hx; unfold ItOk zeroIt; simp
    have HOK := Lib.hid hokz
    have HSRC := Lib.hid hsrc
    have HNOW : Hid (nowL [] = [zeroIt]) := Lib.hid rfl
    have HNL : Hid ([zeroIt].length = 1) := Lib.hid rfl
    clear hb0 hz hsrc hokz
    generalize (w.drewN nq).alloc (.cells #[.int .i64 0, .slice none 0 0] 27) = W0 at HB0 HS0 HSRC ⊢
    generalize w.heap.size = k at HSRC ⊢
    generalize [zeroIt] = N at HOK HSRC HNOW HNL
    go_loopw [4, 31] (fun out iv wr => PkRel W0 sf lf dn N out iv wr) (fun _ i _ => N.length - (intOf i).toNat)
    case atStart => exact ⟨0, [], by omega, rfl, rfl, rfl, Ls.none_ _ _, Below.refl _ _⟩
    case round =>
      obtain ⟨_, M, hi, rfl, rfl, hMd, hls, hbr⟩ := hrel
      have HMD := Lib.hid hMd
      have HLS := Lib.hid hls
      have HBR := Lib.hid hbr
      have HSR := Lib.hid (HS0.out.below hbr)
      have hsr := HSRC.out.below hbr
      obtain ⟨go, co, rfl⟩ := hls.val
      clear hMd hls hbr
      by_cases hlt : M.length < N.length
      · have d0 := hsr.c0 M.length hlt
        have d1 := hsr.c1 M.length hlt
        have hok := HOK.out N[M.length] (List.getElem_mem hlt)
        have hrd := hsr.rd N[M.length] (List.getElem_mem hlt)
        have hni := hsr.nil N[M.length] (List.getElem_mem hlt)
        have htk := take_map N sf lf dn M.length hlt
        have hkl := hsr.lt
        have HSRR := Lib.hid hsr
        clear hsr
        generalize N[M.length] = x at d0 d1 hok hrd hni htk
        obtain ⟨sq, xb, xc, xd⟩ := x
        simp only at d0 d1 hrd hni
        have hb2 : Below wr.heap.size wr ((wr.alloc (.cells #[.int .i64 sq, .slice xb xd.length xc] 27)).drew) := ((Below.refl _ _).alloc (Nat.le_refl _) _).drew
        have HS2 := Lib.hid (HSR.out.below hb2)
        have hx2 : Blk (wr.alloc (.cells #[.int .i64 sq, .slice xb xd.length xc] 27)).drew wr.heap.size #[.int .i64 sq, .slice xb xd.length xc] 27 := Blk.new _ _ _
        have HX2 := Lib.hid hx2
        have HRD := Lib.hid (hrd.below hb2)
        have HNI := Lib.hid hni
        have HTK := Lib.hid htk
        have HOKX := Lib.hid hok
        have HB2 := Lib.hid hb2
        have hj0 : (0 : Int) ≤ (M.length : Int) := by omega
        have hj1 : (M.length : Int) < (1 : Int) := by have := HNL.out; omega
        clear hok hrd hni htk hb2 hx2
        go_wp2_with fail
        refine wp_region_T_drew (fun w' => w'.cell? ⟨p, 1, none⟩ = some (.int .i64 self) ∧ w'.cell? ⟨p, 3, none⟩ = some (.int .i64 life) ∧ w'.cell? ⟨p, 6, none⟩ = some (.int .i64 done) ∧ w'.cell? ⟨wr.heap.size, 0, none⟩ = some (.int .i64 sq) ∧ w'.cell? ⟨wr.heap.size, 1, none⟩ = some (.slice xb xd.length xc)) 23 (by kernel_rfl) ⟨HS2.out.cell 1, HS2.out.cell 3, HS2.out.cell 6, HX2.out.cell 0, HX2.out.cell 1⟩ (fun hS => ?_)
        refine wpAnyT_take 0 rfl (by kernel_rfl) (by kernel_rfl) (by decide) (by kernel_rfl) (by kernel_rfl) (fun _ _ _ h => h) hS (by kernel_rfl) (v := ?_) ?_ ?_
        rotate_left
        · intro w' hSw; (try dsimp only at hSw); go_simp; (try with_reducible rfl)
        simp only [Act.put, List.setIfInBounds_toArray, List.set_cons_zero, List.set_cons_succ]
        refine wpAnyT_take 1 rfl (by kernel_rfl) (by kernel_rfl) (by decide) (by kernel_rfl) (by kernel_rfl) (fun _ _ _ h => h) hS (by kernel_rfl) (v := ?_) ?_ ?_
        rotate_left
        · intro w' hSw; (try dsimp only at hSw); go_simp; (try with_reducible rfl)
        simp only [Act.put, List.setIfInBounds_toArray, List.set_cons_zero, List.set_cons_succ]
        refine wpAnyT_take 2 rfl (by kernel_rfl) (by kernel_rfl) (by decide) (by kernel_rfl) (by kernel_rfl) (fun _ _ _ h => h) hS (by kernel_rfl) (v := ?_) ?_ ?_
        rotate_left
        · intro w' hSw; (try dsimp only at hSw); go_simp; (try with_reducible rfl)
        simp only [Act.put, List.setIfInBounds_toArray, List.set_cons_zero, List.set_cons_succ]
        refine wpAnyT_take 3 rfl (by kernel_rfl) (by kernel_rfl) (by decide) (by kernel_rfl) (by kernel_rfl) (fun _ _ _ h => h) hS (by kernel_rfl) (v := ?_) ?_ ?_
        rotate_left
        · intro w' hSw; (try dsimp only at hSw); go_simp; (try with_reducible rfl)
        simp only [Act.put, List.setIfInBounds_toArray, List.set_cons_zero, List.set_cons_succ]
        refine wpAnyT_take 4 rfl (by kernel_rfl) (by kernel_rfl) (by decide) (by kernel_rfl) (by kernel_rfl) (fun _ _ _ h => h) hS (by kernel_rfl) (v := ?_) ?_ ?_
        rotate_left
        · intro w' hSw; (try dsimp only at hSw); go_simp; (try with_reducible rfl)
        simp only [Act.put, List.setIfInBounds_toArray, List.set_cons_zero, List.set_cons_succ]
        refine wpAnyT_take 5 rfl (by kernel_rfl) (by kernel_rfl) (by decide) (by kernel_rfl) (by kernel_rfl) (fun _ _ _ h => h) hS (by kernel_rfl) (v := ?_) ?_ ?_
        rotate_left
        · intro w' hSw; (try dsimp only at hSw); go_simp; (try with_reducible rfl)
        simp only [Act.put, List.setIfInBounds_toArray, List.set_cons_zero, List.set_cons_succ]
        refine wpAnyT_take 6 rfl (by kernel_rfl) (by kernel_rfl) (by decide) (by kernel_rfl) (by kernel_rfl) (fun _ _ _ h => h) hS (by kernel_rfl) (v := ?_) ?_ ?_
        rotate_left
        · intro w' hSw; (try dsimp only at hSw); go_simp; (try with_reducible rfl)
        simp only [Act.put, List.setIfInBounds_toArray, List.set_cons_zero, List.set_cons_succ]
        refine wpAnyT_take 7 rfl (by kernel_rfl) (by kernel_rfl) (by decide) (by kernel_rfl) (by kernel_rfl) (fun _ _ _ h => h) hS (by kernel_rfl) (v := ?_) ?_ ?_
        rotate_left
        · intro w' hSw; (try dsimp only at hSw); go_simp; (try with_reducible rfl)
        simp only [Act.put, List.setIfInBounds_toArray, List.set_cons_zero, List.set_cons_succ]
        refine wpAnyT_take 8 rfl (by kernel_rfl) (by kernel_rfl) (by decide) (by kernel_rfl) (by kernel_rfl) (fun _ _ _ h => h) hS (by kernel_rfl) (v := ?_) ?_ ?_
        rotate_left
        · intro w' hSw; (try dsimp only at hSw); go_simp; (try with_reducible rfl)
        simp only [Act.put, List.setIfInBounds_toArray, List.set_cons_zero, List.set_cons_succ]
        refine wpAnyT_take 9 rfl (by kernel_rfl) (by kernel_rfl) (by decide) (by kernel_rfl) (by kernel_rfl) (fun _ _ _ h => h) hS (by kernel_rfl) (v := ?_) ?_ ?_
        rotate_left
        · intro w' hSw; (try dsimp only at hSw); go_simp; (try with_reducible rfl)
        simp only [Act.put, List.setIfInBounds_toArray, List.set_cons_zero, List.set_cons_succ]
        refine wpAnyT_take 10 rfl (by kernel_rfl) (by kernel_rfl) (by decide) (by kernel_rfl) (by kernel_rfl) (fun _ _ _ h => h) hS (by kernel_rfl) (v := ?_) ?_ ?_
        rotate_left
        · intro w' hSw; (try dsimp only at hSw); go_simp; (try with_reducible rfl)
        simp only [Act.put, List.setIfInBounds_toArray, List.set_cons_zero, List.set_cons_succ]
        refine wpAnyT_take 11 rfl (by kernel_rfl) (by kernel_rfl) (by decide) (by kernel_rfl) (by kernel_rfl) (fun _ _ _ h => h) hS (by kernel_rfl) (v := ?_) ?_ ?_
        rotate_left
        · intro w' hSw; (try dsimp only at hSw); go_simp; (try with_reducible rfl)
        simp only [Act.put, List.setIfInBounds_toArray, List.set_cons_zero, List.set_cons_succ]
        refine wpAnyT_take 12 rfl (by kernel_rfl) (by kernel_rfl) (by decide) (by kernel_rfl) (by kernel_rfl) (fun _ _ _ h => h) hS (by kernel_rfl) (v := ?_) ?_ ?_
        rotate_left
        · intro w' hSw; (try dsimp only at hSw); go_simp; (try with_reducible rfl)
        simp only [Act.put, List.setIfInBounds_toArray, List.set_cons_zero, List.set_cons_succ]
        refine wpAnyT_take 13 rfl (by kernel_rfl) (by kernel_rfl) (by decide) (by kernel_rfl) (by kernel_rfl) (fun _ _ _ h => h) hS (by kernel_rfl) (v := ?_) ?_ ?_
        rotate_left
        · intro w' hSw; (try dsimp only at hSw); go_simp; (try with_reducible rfl)
        simp only [Act.put, List.setIfInBounds_toArray, List.set_cons_zero, List.set_cons_succ]
        refine wpAnyT_take 14 rfl (by kernel_rfl) (by kernel_rfl) (by decide) (by kernel_rfl) (by kernel_rfl) (fun _ _ _ h => h) hS (by kernel_rfl) (v := ?_) ?_ ?_
        rotate_left
        · intro w' hSw; (try dsimp only at hSw); go_simp; (try with_reducible rfl)
        simp only [Act.put, List.setIfInBounds_toArray, List.set_cons_zero, List.set_cons_succ]
        refine wpAnyT_take 15 rfl (by kernel_rfl) (by kernel_rfl) (by decide) (by kernel_rfl) (by kernel_rfl) (fun _ _ _ h => h) hS (by kernel_rfl) (v := ?_) ?_ ?_
        rotate_left
        · intro w' hSw; (try dsimp only at hSw); go_simp; (try with_reducible rfl)
        simp only [Act.put, List.setIfInBounds_toArray, List.set_cons_zero, List.set_cons_succ]
        refine wpAnyT_take 16 rfl (by kernel_rfl) (by kernel_rfl) (by decide) (by kernel_rfl) (by kernel_rfl) (fun _ _ _ h => h) hS (by kernel_rfl) (v := ?_) ?_ ?_
        rotate_left
        · intro w' hSw; (try dsimp only at hSw); go_simp; (try with_reducible rfl)
        simp only [Act.put, List.setIfInBounds_toArray, List.set_cons_zero, List.set_cons_succ]
        refine wpAnyT_take 17 rfl (by kernel_rfl) (by kernel_rfl) (by decide) (by kernel_rfl) (by kernel_rfl) (fun _ _ _ h => h) hS (by kernel_rfl) (v := ?_) ?_ ?_
        rotate_left
        · intro w' hSw; (try dsimp only at hSw); go_simp; (try with_reducible rfl)
        simp only [Act.put, List.setIfInBounds_toArray, List.set_cons_zero, List.set_cons_succ]
        refine wpAnyT_one 18 (by kernel_rfl) rfl (by kernel_rfl) (fun K hK => ?_)
        go_simp
        refine (pack_int sf lf sq.toNat dn _ _ _ _ E1.out E2.out (by have := HOKX.out.1; simp only at this; omega) E3.out xb xd.length xc xd _ rfl HRD.out HNI.out (itok_right k1 k2 k3 HOKX.out)).mono ?_
        rintro e w5 ⟨g5, c5, rfl, ho5, hb5⟩
        have HS5 := HS2.out.below hb5
        have HX5 := HX2.out.below hb5
        have hS : _ ∧ _ ∧ _ ∧ _ ∧ _ := ⟨HS5.cell 1, HS5.cell 3, HS5.cell 6, HX5.cell 0, HX5.cell 1⟩
        have HLS5 := Lib.hid ((HLS.out.below HB2.out).below hb5)
        have HB5 := Lib.hid (HB2.out.trans (hb5.mono HB2.out.size))
        have HO5 := Lib.hid ho5
        clear HS5 HX5 ho5 hb5
        refine hK _ _ (fun _ => hS) ?_
        clear hK K
        refine wpAnyT_take 19 rfl (by kernel_rfl) (by kernel_rfl) (by decide) (by kernel_rfl) (by kernel_rfl) (fun _ _ _ h => h) hS (by kernel_rfl) (v := ?_) ?_ ?_
        rotate_left
        · intro w' hSw; (try dsimp only at hSw); go_simp; (try with_reducible rfl)
        simp only [Act.put, List.setIfInBounds_toArray, List.set_cons_zero, List.set_cons_succ]
        refine wpAnyT_take 20 rfl (by kernel_rfl) (by kernel_rfl) (by decide) (by kernel_rfl) (by kernel_rfl) (fun _ _ _ h => h) hS (by kernel_rfl) (v := ?_) ?_ ?_
        rotate_left
        · intro w' hSw; (try dsimp only at hSw); go_simp; (try with_reducible rfl)
        simp only [Act.put, List.setIfInBounds_toArray, List.set_cons_zero, List.set_cons_succ]
        refine wpAnyT_take 21 rfl (by kernel_rfl) (by kernel_rfl) (by decide) (by kernel_rfl) (by kernel_rfl) (fun _ _ _ h => h) hS (by kernel_rfl) (v := ?_) ?_ ?_
        rotate_left
        · intro w' hSw; (try dsimp only at hSw); go_simp; (try with_reducible rfl)
        simp only [Act.put, List.setIfInBounds_toArray, List.set_cons_zero, List.set_cons_succ]
        refine wpAnyT_take 22 rfl (by kernel_rfl) (by kernel_rfl) (by decide) (by kernel_rfl) (by kernel_rfl) (fun _ _ _ h => h) hS (by kernel_rfl) (v := ?_) ?_ ?_
        rotate_left
        · intro w' hSw; (try dsimp only at hSw); go_simp; (try with_reducible rfl)
        simp only [Act.put, List.setIfInBounds_toArray, List.set_cons_zero, List.set_cons_succ]
        refine wpAnyT_one 23 (by kernel_rfl) rfl (by kernel_rfl) (fun K hK => ?_)
        go_simp
        refine hK _ _ (fun h => absurd rfl h) ?_
        clear hK K
        refine wpAnyT_done (by kernel_rfl) ?_
        have hW5 : W0.heap.size ≤ w5.heap.size := Nat.le_trans HBR.out.size HB5.out.size
        change By.Bs at xd
        have HPK : Hid (pkOf sf lf dn ⟨sq, xb, xc, xd⟩ = By.pack ⟨sf, lf, sq.toNat, dn, xd⟩) := Lib.hid rfl
        generalize By.pack ⟨sf, lf, sq.toNat, dn, xd⟩ = pl at HO5 HPK ⊢
        go_wp2_with (at_builtin; refine wpList_append_gw _ rfl _ _ 48 rfl W0.heap.size 25 i0 (.slice none 0 0) 1 24 Try.underlying48 hi0 hz0 hz1 hz2 rfl (by decide) _ M.length (bcells M) rfl (HLS5.out.own.alloc _) ⟨w5.heap.size, 0, none⟩ 1 1 [.slice g5 pl.length c5] rfl rfl ?_ ?_ ?_ ?_ ?_ ?_)
        · intro j u hj
          exact cells_new _ #[.slice g5 pl.length c5] _ _ rfl j u (by simpa using hj)
        · intro u hu; simp only [List.mem_singleton] at hu; subst hu; rfl
        · unfold maxLen; omega
        · omega
        · simp; omega
        intro v6 w6 hown6 hg6 hn6
        obtain ⟨b7, c7, e7, r7, n7, q7⟩ := HO5.out.rt
        cases e7
        have hbn : Below w5.heap.size w5 (w5.alloc (.cells #[.slice g5 pl.length c5] 25)) := (Below.refl _ _).alloc (Nat.le_refl _) _
        have hls6 : Ls w6 W0.heap.size v6 (M ++ [⟨g5, c5, pl⟩]) := (HLS5.out.below hbn).snoc (x := ⟨g5, c5, pl⟩) (r7.kept (Kb.below hbn)) n7 q7 hown6 hg6
        have hb6 : Below W0.heap.size W0 w6 := below_row (((HBR.out.trans (HB5.out.mono HBR.out.size))).trans (hbn.mono hW5)) hg6.grown (by simp; omega) (fun k hk => (HLS5.out.own.lt k hk).1)
        have HLS6 := Lib.hid hls6
        have HB6 := Lib.hid hb6
        clear hown6 hg6 hn6 r7 n7 q7 hbn hls6 hb6
        go_wp2
        go_roundw
        case rel => exact ⟨M.length + 1, M ++ [⟨g5, c5, pl⟩], by omega, by go_num, by rw [List.length_append]; rfl, by rw [HTK.out, List.map_append, HMD.out, HPK.out]; rfl, HLS6.out, HB6.out⟩
        case measure => simp [intOf]; omega
      · have hme : M.length = N.length := by omega
        have hj2 : ¬ (M.length : Int) < (1 : Int) := by have := HNL.out; omega
        have HME := Lib.hid hme
        clear hme
        go_wp2
        go_ret
        have hMD := HMD.out
        rw [HME.out, List.take_length] at hMD
        exact ⟨M, go, co, rfl, by rw [HNOW.out]; exact hMD, HLS.out.mono HB0.out.size, HB0.out.trans (HBR.out.mono HB0.out.size)⟩
  · have hpos : 0 < L.length := List.length_pos_iff.2 hn
    obtain ⟨k, rfl, hk, hBk⟩ := hg hn
    obtain ⟨m, hm1, hm2, hm3⟩ : ∃ m : Nat, (if (8 : Int) < (L.length : Int) then (8 : Int) else (L.length : Int)) = (m : Nat) ∧ 0 < m ∧ m = (L.take 8).length := ⟨min L.length 8, by split <;> omega, by omega, by simp; omega⟩
    have hml : m ≤ L.length := by rw [hm3]; simp; omega
    have hmin : ((m : Int) == 0) = false := bneI (by omega)
    have hsrc : Src w k (L.take 8) := by
      refine ⟨hk, fun i hi => ?_, fun i hi => ?_, fun x hx => (HI.out.rd x (List.mem_of_mem_take hx)).rd, fun x hx => HI.out.nil x (List.mem_of_mem_take hx)⟩
      · rw [List.getElem_take]; rw [List.length_take] at hi; exact (it_cells HI.out i (by omega)).1
      · rw [List.getElem_take]; rw [List.length_take] at hi; exact (it_cells HI.out i (by omega)).2
    have hnow : nowL L = L.take 8 := by unfold nowL; rw [if_neg hn]
    have hokN : ∀ x ∈ L.take 8, ItOk x := fun x hx => hL x (List.mem_of_mem_take hx)
    have HNOW := Lib.hid hnow
    have HOK := Lib.hid hokN
    have HSR0 := Lib.hid hsrc
    clear hnow hokN hsrc hL
    generalize L.take 8 = N at hm3 HNOW HOK HSR0
    subst hm3
    go_enter Try.func23, Try.ntmps23
    go_wp2_with fail
    with_reducible refine (CN.out).mono ?_
    rintro e w1 ⟨rfl, rfl⟩
    go_wp2_with fail
    go_quiet (fail)
    go_wp2_with fail
    have HB0 := Lib.hid (belowN (Below.refl w.heap.size w) nq)
    have HS0 := Lib.hid (HS.out.below HB0.out)
    have HSRC := Lib.hid (HSR0.out.below HB0.out)
    generalize w.drewN nq = W0 at HB0 HS0 HSRC ⊢
    clear HS HI HSR0 c5 hlt hk hm1
    have HNL : Hid (N.length = N.length) := Lib.hid rfl
    go_loopw [4, 31] (fun out iv wr => PkRel W0 sf lf dn N out iv wr) (fun _ i _ => N.length - (intOf i).toNat)
    case atStart => exact ⟨0, [], by omega, rfl, rfl, rfl, Ls.none_ _ _, Below.refl _ _⟩
    case round =>
      obtain ⟨_, M, hi, rfl, rfl, hMd, hls, hbr⟩ := hrel
      have HMD := Lib.hid hMd
      have HLS := Lib.hid hls
      have HBR := Lib.hid hbr
      have HSR := Lib.hid (HS0.out.below hbr)
      have hsr := HSRC.out.below hbr
      obtain ⟨go, co, rfl⟩ := hls.val
      clear hMd hls hbr
      by_cases hlt : M.length < N.length
      · have d0 := hsr.c0 M.length hlt
        have d1 := hsr.c1 M.length hlt
        have hok := HOK.out N[M.length] (List.getElem_mem hlt)
        have hrd := hsr.rd N[M.length] (List.getElem_mem hlt)
        have hni := hsr.nil N[M.length] (List.getElem_mem hlt)
        have htk := take_map N sf lf dn M.length hlt
        have hkl := hsr.lt
        have HSRR := Lib.hid hsr
        clear hsr
        generalize N[M.length] = x at d0 d1 hok hrd hni htk
        obtain ⟨sq, xb, xc, xd⟩ := x
        simp only at d0 d1 hrd hni
        have hb2 : Below wr.heap.size wr ((wr.alloc (.cells #[.int .i64 sq, .slice xb xd.length xc] 27)).drew) := ((Below.refl _ _).alloc (Nat.le_refl _) _).drew
        have HS2 := Lib.hid (HSR.out.below hb2)
        have hx2 : Blk (wr.alloc (.cells #[.int .i64 sq, .slice xb xd.length xc] 27)).drew wr.heap.size #[.int .i64 sq, .slice xb xd.length xc] 27 := Blk.new _ _ _
        have HX2 := Lib.hid hx2
        have HRD := Lib.hid (hrd.below hb2)
        have HNI := Lib.hid hni
        have HTK := Lib.hid htk
        have HOKX := Lib.hid hok
        have HB2 := Lib.hid hb2
        have hj0 : (0 : Int) ≤ (M.length : Int) := by omega
        have hj1 : (M.length : Int) < (N.length : Int) := by have := HNL.out; omega
        clear hok hrd hni htk hb2 hx2
        go_wp2_with fail
        refine wp_region_T_drew (fun w' => w'.cell? ⟨p, 1, none⟩ = some (.int .i64 self) ∧ w'.cell? ⟨p, 3, none⟩ = some (.int .i64 life) ∧ w'.cell? ⟨p, 6, none⟩ = some (.int .i64 done) ∧ w'.cell? ⟨wr.heap.size, 0, none⟩ = some (.int .i64 sq) ∧ w'.cell? ⟨wr.heap.size, 1, none⟩ = some (.slice xb xd.length xc)) 23 (by kernel_rfl) ⟨HS2.out.cell 1, HS2.out.cell 3, HS2.out.cell 6, HX2.out.cell 0, HX2.out.cell 1⟩ (fun hS => ?_)
        refine wpAnyT_take 0 rfl (by kernel_rfl) (by kernel_rfl) (by decide) (by kernel_rfl) (by kernel_rfl) (fun _ _ _ h => h) hS (by kernel_rfl) (v := ?_) ?_ ?_
        rotate_left
        · intro w' hSw; (try dsimp only at hSw); go_simp; (try with_reducible rfl)
        simp only [Act.put, List.setIfInBounds_toArray, List.set_cons_zero, List.set_cons_succ]
        refine wpAnyT_take 1 rfl (by kernel_rfl) (by kernel_rfl) (by decide) (by kernel_rfl) (by kernel_rfl) (fun _ _ _ h => h) hS (by kernel_rfl) (v := ?_) ?_ ?_
        rotate_left
        · intro w' hSw; (try dsimp only at hSw); go_simp; (try with_reducible rfl)
        simp only [Act.put, List.setIfInBounds_toArray, List.set_cons_zero, List.set_cons_succ]
        refine wpAnyT_take 2 rfl (by kernel_rfl) (by kernel_rfl) (by decide) (by kernel_rfl) (by kernel_rfl) (fun _ _ _ h => h) hS (by kernel_rfl) (v := ?_) ?_ ?_
        rotate_left
        · intro w' hSw; (try dsimp only at hSw); go_simp; (try with_reducible rfl)
        simp only [Act.put, List.setIfInBounds_toArray, List.set_cons_zero, List.set_cons_succ]
        refine wpAnyT_take 3 rfl (by kernel_rfl) (by kernel_rfl) (by decide) (by kernel_rfl) (by kernel_rfl) (fun _ _ _ h => h) hS (by kernel_rfl) (v := ?_) ?_ ?_
        rotate_left
        · intro w' hSw; (try dsimp only at hSw); go_simp; (try with_reducible rfl)
        simp only [Act.put, List.setIfInBounds_toArray, List.set_cons_zero, List.set_cons_succ]
        refine wpAnyT_take 4 rfl (by kernel_rfl) (by kernel_rfl) (by decide) (by kernel_rfl) (by kernel_rfl) (fun _ _ _ h => h) hS (by kernel_rfl) (v := ?_) ?_ ?_
        rotate_left
        · intro w' hSw; (try dsimp only at hSw); go_simp; (try with_reducible rfl)
        simp only [Act.put, List.setIfInBounds_toArray, List.set_cons_zero, List.set_cons_succ]
        refine wpAnyT_take 5 rfl (by kernel_rfl) (by kernel_rfl) (by decide) (by kernel_rfl) (by kernel_rfl) (fun _ _ _ h => h) hS (by kernel_rfl) (v := ?_) ?_ ?_
        rotate_left
        · intro w' hSw; (try dsimp only at hSw); go_simp; (try with_reducible rfl)
        simp only [Act.put, List.setIfInBounds_toArray, List.set_cons_zero, List.set_cons_succ]
        refine wpAnyT_take 6 rfl (by kernel_rfl) (by kernel_rfl) (by decide) (by kernel_rfl) (by kernel_rfl) (fun _ _ _ h => h) hS (by kernel_rfl) (v := ?_) ?_ ?_
        rotate_left
        · intro w' hSw; (try dsimp only at hSw); go_simp; (try with_reducible rfl)
        simp only [Act.put, List.setIfInBounds_toArray, List.set_cons_zero, List.set_cons_succ]
        refine wpAnyT_take 7 rfl (by kernel_rfl) (by kernel_rfl) (by decide) (by kernel_rfl) (by kernel_rfl) (fun _ _ _ h => h) hS (by kernel_rfl) (v := ?_) ?_ ?_
        rotate_left
        · intro w' hSw; (try dsimp only at hSw); go_simp; (try with_reducible rfl)
        simp only [Act.put, List.setIfInBounds_toArray, List.set_cons_zero, List.set_cons_succ]
        refine wpAnyT_take 8 rfl (by kernel_rfl) (by kernel_rfl) (by decide) (by kernel_rfl) (by kernel_rfl) (fun _ _ _ h => h) hS (by kernel_rfl) (v := ?_) ?_ ?_
        rotate_left
        · intro w' hSw; (try dsimp only at hSw); go_simp; (try with_reducible rfl)
        simp only [Act.put, List.setIfInBounds_toArray, List.set_cons_zero, List.set_cons_succ]
        refine wpAnyT_take 9 rfl (by kernel_rfl) (by kernel_rfl) (by decide) (by kernel_rfl) (by kernel_rfl) (fun _ _ _ h => h) hS (by kernel_rfl) (v := ?_) ?_ ?_
        rotate_left
        · intro w' hSw; (try dsimp only at hSw); go_simp; (try with_reducible rfl)
        simp only [Act.put, List.setIfInBounds_toArray, List.set_cons_zero, List.set_cons_succ]
        refine wpAnyT_take 10 rfl (by kernel_rfl) (by kernel_rfl) (by decide) (by kernel_rfl) (by kernel_rfl) (fun _ _ _ h => h) hS (by kernel_rfl) (v := ?_) ?_ ?_
        rotate_left
        · intro w' hSw; (try dsimp only at hSw); go_simp; (try with_reducible rfl)
        simp only [Act.put, List.setIfInBounds_toArray, List.set_cons_zero, List.set_cons_succ]
        refine wpAnyT_take 11 rfl (by kernel_rfl) (by kernel_rfl) (by decide) (by kernel_rfl) (by kernel_rfl) (fun _ _ _ h => h) hS (by kernel_rfl) (v := ?_) ?_ ?_
        rotate_left
        · intro w' hSw; (try dsimp only at hSw); go_simp; (try with_reducible rfl)
        simp only [Act.put, List.setIfInBounds_toArray, List.set_cons_zero, List.set_cons_succ]
        refine wpAnyT_take 12 rfl (by kernel_rfl) (by kernel_rfl) (by decide) (by kernel_rfl) (by kernel_rfl) (fun _ _ _ h => h) hS (by kernel_rfl) (v := ?_) ?_ ?_
        rotate_left
        · intro w' hSw; (try dsimp only at hSw); go_simp; (try with_reducible rfl)
        simp only [Act.put, List.setIfInBounds_toArray, List.set_cons_zero, List.set_cons_succ]
        refine wpAnyT_take 13 rfl (by kernel_rfl) (by kernel_rfl) (by decide) (by kernel_rfl) (by kernel_rfl) (fun _ _ _ h => h) hS (by kernel_rfl) (v := ?_) ?_ ?_
        rotate_left
        · intro w' hSw; (try dsimp only at hSw); go_simp; (try with_reducible rfl)
        simp only [Act.put, List.setIfInBounds_toArray, List.set_cons_zero, List.set_cons_succ]
        refine wpAnyT_take 14 rfl (by kernel_rfl) (by kernel_rfl) (by decide) (by kernel_rfl) (by kernel_rfl) (fun _ _ _ h => h) hS (by kernel_rfl) (v := ?_) ?_ ?_
        rotate_left
        · intro w' hSw; (try dsimp only at hSw); go_simp; (try with_reducible rfl)
        simp only [Act.put, List.setIfInBounds_toArray, List.set_cons_zero, List.set_cons_succ]
        refine wpAnyT_take 15 rfl (by kernel_rfl) (by kernel_rfl) (by decide) (by kernel_rfl) (by kernel_rfl) (fun _ _ _ h => h) hS (by kernel_rfl) (v := ?_) ?_ ?_
        rotate_left
        · intro w' hSw; (try dsimp only at hSw); go_simp; (try with_reducible rfl)
        simp only [Act.put, List.setIfInBounds_toArray, List.set_cons_zero, List.set_cons_succ]
        refine wpAnyT_take 16 rfl (by kernel_rfl) (by kernel_rfl) (by decide) (by kernel_rfl) (by kernel_rfl) (fun _ _ _ h => h) hS (by kernel_rfl) (v := ?_) ?_ ?_
        rotate_left
        · intro w' hSw; (try dsimp only at hSw); go_simp; (try with_reducible rfl)
        simp only [Act.put, List.setIfInBounds_toArray, List.set_cons_zero, List.set_cons_succ]
        refine wpAnyT_take 17 rfl (by kernel_rfl) (by kernel_rfl) (by decide) (by kernel_rfl) (by kernel_rfl) (fun _ _ _ h => h) hS (by kernel_rfl) (v := ?_) ?_ ?_
        rotate_left
        · intro w' hSw; (try dsimp only at hSw); go_simp; (try with_reducible rfl)
        simp only [Act.put, List.setIfInBounds_toArray, List.set_cons_zero, List.set_cons_succ]
        refine wpAnyT_one 18 (by kernel_rfl) rfl (by kernel_rfl) (fun K hK => ?_)
        go_simp
        refine (pack_int sf lf sq.toNat dn _ _ _ _ E1.out E2.out (by have := HOKX.out.1; simp only at this; omega) E3.out xb xd.length xc xd _ rfl HRD.out HNI.out (itok_right k1 k2 k3 HOKX.out)).mono ?_
        rintro e w5 ⟨g5, c5, rfl, ho5, hb5⟩
        have HS5 := HS2.out.below hb5
        have HX5 := HX2.out.below hb5
        have hS : _ ∧ _ ∧ _ ∧ _ ∧ _ := ⟨HS5.cell 1, HS5.cell 3, HS5.cell 6, HX5.cell 0, HX5.cell 1⟩
        have HLS5 := Lib.hid ((HLS.out.below HB2.out).below hb5)
        have HB5 := Lib.hid (HB2.out.trans (hb5.mono HB2.out.size))
        have HO5 := Lib.hid ho5
        clear HS5 HX5 ho5 hb5
        refine hK _ _ (fun _ => hS) ?_
        clear hK K
        refine wpAnyT_take 19 rfl (by kernel_rfl) (by kernel_rfl) (by decide) (by kernel_rfl) (by kernel_rfl) (fun _ _ _ h => h) hS (by kernel_rfl) (v := ?_) ?_ ?_
        rotate_left
        · intro w' hSw; (try dsimp only at hSw); go_simp; (try with_reducible rfl)
        simp only [Act.put, List.setIfInBounds_toArray, List.set_cons_zero, List.set_cons_succ]
        refine wpAnyT_take 20 rfl (by kernel_rfl) (by kernel_rfl) (by decide) (by kernel_rfl) (by kernel_rfl) (fun _ _ _ h => h) hS (by kernel_rfl) (v := ?_) ?_ ?_
        rotate_left
        · intro w' hSw; (try dsimp only at hSw); go_simp; (try with_reducible rfl)
        simp only [Act.put, List.setIfInBounds_toArray, List.set_cons_zero, List.set_cons_succ]
        refine wpAnyT_take 21 rfl (by kernel_rfl) (by kernel_rfl) (by decide) (by kernel_rfl) (by kernel_rfl) (fun _ _ _ h => h) hS (by kernel_rfl) (v := ?_) ?_ ?_
        rotate_left
        · intro w' hSw; (try dsimp only at hSw); go_simp; (try with_reducible rfl)
        simp only [Act.put, List.setIfInBounds_toArray, List.set_cons_zero, List.set_cons_succ]
        refine wpAnyT_take 22 rfl (by kernel_rfl) (by kernel_rfl) (by decide) (by kernel_rfl) (by kernel_rfl) (fun _ _ _ h => h) hS (by kernel_rfl) (v := ?_) ?_ ?_
        rotate_left
        · intro w' hSw; (try dsimp only at hSw); go_simp; (try with_reducible rfl)
        simp only [Act.put, List.setIfInBounds_toArray, List.set_cons_zero, List.set_cons_succ]
        refine wpAnyT_one 23 (by kernel_rfl) rfl (by kernel_rfl) (fun K hK => ?_)
        go_simp
        refine hK _ _ (fun h => absurd rfl h) ?_
        clear hK K
        refine wpAnyT_done (by kernel_rfl) ?_
        have hW5 : W0.heap.size ≤ w5.heap.size := Nat.le_trans HBR.out.size HB5.out.size
        change By.Bs at xd
        have HPK : Hid (pkOf sf lf dn ⟨sq, xb, xc, xd⟩ = By.pack ⟨sf, lf, sq.toNat, dn, xd⟩) := Lib.hid rfl
        generalize By.pack ⟨sf, lf, sq.toNat, dn, xd⟩ = pl at HO5 HPK ⊢
        go_wp2_with (at_builtin; refine wpList_append_gw _ rfl _ _ 48 rfl W0.heap.size 25 i0 (.slice none 0 0) 1 24 Try.underlying48 hi0 hz0 hz1 hz2 rfl (by decide) _ M.length (bcells M) rfl (HLS5.out.own.alloc _) ⟨w5.heap.size, 0, none⟩ 1 1 [.slice g5 pl.length c5] rfl rfl ?_ ?_ ?_ ?_ ?_ ?_)
        · intro j u hj
          exact cells_new _ #[.slice g5 pl.length c5] _ _ rfl j u (by simpa using hj)
        · intro u hu; simp only [List.mem_singleton] at hu; subst hu; rfl
        · unfold maxLen; omega
        · omega
        · simp; omega
        intro v6 w6 hown6 hg6 hn6
        obtain ⟨b7, c7, e7, r7, n7, q7⟩ := HO5.out.rt
        cases e7
        have hbn : Below w5.heap.size w5 (w5.alloc (.cells #[.slice g5 pl.length c5] 25)) := (Below.refl _ _).alloc (Nat.le_refl _) _
        have hls6 : Ls w6 W0.heap.size v6 (M ++ [⟨g5, c5, pl⟩]) := (HLS5.out.below hbn).snoc (x := ⟨g5, c5, pl⟩) (r7.kept (Kb.below hbn)) n7 q7 hown6 hg6
        have hb6 : Below W0.heap.size W0 w6 := below_row (((HBR.out.trans (HB5.out.mono HBR.out.size))).trans (hbn.mono hW5)) hg6.grown (by simp; omega) (fun k hk => (HLS5.out.own.lt k hk).1)
        have HLS6 := Lib.hid hls6
        have HB6 := Lib.hid hb6
        clear hown6 hg6 hn6 r7 n7 q7 hbn hls6 hb6
        go_wp2
        go_roundw
        case rel => exact ⟨M.length + 1, M ++ [⟨g5, c5, pl⟩], by omega, by go_num, by rw [List.length_append]; rfl, by rw [HTK.out, List.map_append, HMD.out, HPK.out]; rfl, HLS6.out, HB6.out⟩
        case measure => simp [intOf]; omega
      · have hme : M.length = N.length := by omega
        have hj2 : ¬ (M.length : Int) < (N.length : Int) := by have := HNL.out; omega
        have HME := Lib.hid hme
        clear hme
        go_wp2
        go_ret
        have hMD := HMD.out
        rw [HME.out, List.take_length] at hMD
        exact ⟨M, go, co, rfl, by rw [HNOW.out]; exact hMD, HLS.out.mono HB0.out.size, HB0.out.trans (HBR.out.mono HB0.out.size)⟩
end Go.Proofs.Ytndfelbgppbncaa
/- slices.DeleteFunc over a session's own items, by contract. -/
set_option linter.unusedVariables false
set_option linter.unusedSimpArgs false
namespace Go.Proofs.Ytndfelbgppbncaa
open Go.RowKit
set_option maxHeartbeats 800000 in
theorem del_any (q : Nat) (sq ack : Int) (a : Option Addr) (n c : Nat) (w : World) (hq : w.cell? ⟨q, 3, none⟩ = some (.int .i64 ack)) (hlt : q < w.heap.size) :
    Calls Try.prog 54 #[.agg #[.int .i64 sq, .slice a n c], .pointer (some ⟨q, 0, none⟩)] w (BB (decide (sq ≤ ack)) w) := by
  go_enter Try.func54, Try.ntmps54
  go_wp2
  go_ret
  exact ⟨rfl, (Below.refl _ _).alloc (Nat.le_refl _) _⟩
def IxPost (i : Int) (w : World) (e : Ending) (w' : World) : Prop := e = .returned (.int .i64 i) ∧ Below w.heap.size w w'
theorem del_yes (q : Nat) (sq ack : Int) (a : Option Addr) (n c : Nat) (w : World) (hq : w.cell? ⟨q, 3, none⟩ = some (.int .i64 ack)) (hlt : q < w.heap.size) (h : sq ≤ ack) :
    Calls Try.prog 54 #[.agg #[.int .i64 sq, .slice a n c], .pointer (some ⟨q, 0, none⟩)] w (BB true w) := by
  have := del_any q sq ack a n c w hq hlt
  rwa [decide_eq_true h] at this
theorem del_no (q : Nat) (sq ack : Int) (a : Option Addr) (n c : Nat) (w : World) (hq : w.cell? ⟨q, 3, none⟩ = some (.int .i64 ack)) (hlt : q < w.heap.size) (h : ack < sq) :
    Calls Try.prog 54 #[.agg #[.int .i64 sq, .slice a n c], .pointer (some ⟨q, 0, none⟩)] w (BB false w) := by
  have := del_any q sq ack a n c w hq hlt
  rwa [decide_eq_false (by omega)] at this
set_option maxHeartbeats 1600000 in
set_option maxRecDepth 100000 in
theorem indexFunc_no (k cg q : Nat) (ack : Int) (L : List It) (w : World) (h : Src w k L) (hq : w.cell? ⟨q, 3, none⟩ = some (.int .i64 ack)) (hlt : q < w.heap.size) (hall : ∀ x ∈ L, ack < x.seq) (hlen : L.length ≤ 1024) :
    Calls Try.prog 73 #[.slice (some ⟨k, 0, none⟩) L.length cg, .func (.func 54) #[] #[.pointer (some ⟨q, 0, none⟩)]] w (IxPost (-1) w) := by
  have HS := Lib.hid h
  have HALL := Lib.hid hall
  have HQ := Lib.hid hq
  clear h hall hq
  go_enter Try.func73, Try.ntmps73
  go_wp2
  go_loopw [8] (fun iv wr => ∃ i : Nat, i ≤ L.length ∧ iv = .int .i64 i ∧ Below w.heap.size w wr) (fun i _ => L.length - (intOf i).toNat)
  case atStart => exact ⟨0, by omega, rfl, Below.refl _ _⟩
  case round =>
    obtain ⟨i, hi, rfl, hb⟩ := hrel
    have HB := Lib.hid hb
    have hs := HS.out.below hb
    have HQR : wr.cell? ⟨q, 3, none⟩ = some (.int .i64 ack) := by rw [hb.cell (p := ⟨q, 3, none⟩) hlt]; exact HQ.out
    have hltr : q < wr.heap.size := Nat.lt_of_lt_of_le hlt hb.size
    by_cases hx : i < L.length
    · have d0 := hs.c0 i hx
      have d1 := hs.c1 i hx
      have hk := hs.lt
      have C := Lib.hid (del_no q L[i].seq ack L[i].ba L[i].data.length L[i].cap wr HQR hltr (HALL.out _ (List.getElem_mem hx)))
      have hj0 : (0 : Int) ≤ (i : Int) := by omega
      have hj1 : (i : Int) < (L.length : Int) := by omega
      clear hb hs HQR
      generalize L[i] = x at d0 d1 C
      go_wp2_with fail
      with_reducible refine (C.out).mono ?_
      rintro e w2 ⟨rfl, hb2⟩
      have HB2 := Lib.hid (HB.out.trans (hb2.mono HB.out.size))
      clear hb2
      go_wp2
      go_roundw
      case rel => exact ⟨i + 1, by omega, by go_num, HB2.out⟩
      case measure => simp [intOf]; omega
    · obtain rfl : i = L.length := by omega
      clear hb hs
      go_wp2
      go_ret
      exact ⟨rfl, HB.out⟩
set_option maxHeartbeats 1600000 in
set_option maxRecDepth 100000 in
theorem indexFunc_yes (k cg q : Nat) (ack : Int) (L : List It) (w : World) (h : Src w k L) (hq : w.cell? ⟨q, 3, none⟩ = some (.int .i64 ack)) (hlt : q < w.heap.size) (hp : 0 < L.length) (hall : L[0].seq ≤ ack) (hlen : L.length ≤ 1024) :
    Calls Try.prog 73 #[.slice (some ⟨k, 0, none⟩) L.length cg, .func (.func 54) #[] #[.pointer (some ⟨q, 0, none⟩)]] w (IxPost 0 w) := by
  have d0 := h.c0 0 hp
  have d1 := h.c1 0 hp
  have hk := h.lt
  have C := Lib.hid (del_yes q L[0].seq ack L[0].ba L[0].data.length L[0].cap w hq hlt hall)
  generalize L[0] = x at d0 d1 C hall
  have hp' : (0 : Int) < (L.length : Int) := by omega
  clear h hq
  go_enter Try.func73, Try.ntmps73
  go_wp2
  go_loopw [8] (fun iv wr => iv = .int .i64 0 ∧ wr = w) (fun i _ => 0)
  case atStart => exact ⟨rfl, rfl⟩
  case round =>
    obtain ⟨rfl, rfl⟩ := hrel
    go_wp2_with fail
    with_reducible refine (C.out).mono ?_
    rintro e w2 ⟨rfl, hb2⟩
    have HB2 := Lib.hid hb2
    clear hb2
    go_wp2
    go_ret
    exact ⟨rfl, HB2.out⟩
end Go.Proofs.Ytndfelbgppbncaa
