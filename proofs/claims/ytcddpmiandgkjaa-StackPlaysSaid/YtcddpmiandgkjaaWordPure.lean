import Derived.Test.YtcddpmiandgkjaaBase
import Derived.Laws.BytesArg
import Derived.IntWalk
/-! Numbers as bytes, in plain Lean: what the calls of package word answer. -/
namespace Go.Proofs.Ytcddpmiandgkjaa
open Go.RowKit

/-- The bytes of x, the lowest first. -/
def wordNums (x : Int) : Nat → List Int
  | 0 => []
  | n + 1 => x % 256 :: wordNums (x / 256) n

theorem wordNums_2 (x : Int) : wordNums x 2 = [x % 256, x / 256 % 256] := rfl
theorem wordNums_4 (x : Int) : wordNums x 4 = [x % 256, x / 256 % 256, x / 65536 % 256, x / 16777216 % 256] := by
  simp only [wordNums, List.cons.injEq, and_true, true_and]
  omega
theorem wordNums_8 (x : Int) (h0 : 0 ≤ x) (h1 : x < 18446744073709551616) :
    wordNums x 8 = [x % 256, x / 256 % 256, x / 65536 % 256, x / 16777216 % 256, x / 4294967296 % 256, x / 1099511627776 % 256, x / 281474976710656 % 256, x / 72057594037927936] := by
  simp only [wordNums, List.cons.injEq, and_true, true_and]
  omega

/-- What word.Of answers. -/
def wordOf (x n : Int) : ByteArray := if n = 1 ∨ n = 2 ∨ n = 4 ∨ n = 8 then strOfNums (wordNums x n.toNat) else ⟨#[]⟩

theorem nat_or (x y i : Nat) (hx : x % 2 ^ i = 0) (hy : y < 2 ^ i) : x ||| y = x + y := by
  have e : x = (x / 2 ^ i) <<< i := by
    rw [Nat.shiftLeft_eq]
    have := Nat.div_add_mod x (2 ^ i)
    rw [hx, Nat.mul_comm] at this
    omega
  rw [e]
  exact (Nat.shiftLeft_add_eq_or_of_lt hy _).symm

theorem bits_or_nat (k : IntKind) (x y : Int) (i : Nat) (hi : i ≤ k.bits) (hx : x % 2 ^ i = 0) (h0 : 0 ≤ y) (h1 : y < 2 ^ i) :
    bits .or k x y = k.wrap (x % 2 ^ k.bits + y) ∧ bits .or k y x = k.wrap (x % 2 ^ k.bits + y) := by
  have hp : (0 : Int) < 2 ^ k.bits := Int.pow_pos (by decide)
  have hle : (2 : Int) ^ i ≤ 2 ^ k.bits := by
    exact_mod_cast Nat.pow_le_pow_right (by decide) hi
  have hdvd : (2 : Int) ^ i ∣ 2 ^ k.bits := by
    have : (2 : Nat) ^ i ∣ 2 ^ k.bits := Nat.pow_dvd_pow 2 hi
    exact_mod_cast this
  have ex : (BitVec.ofInt k.bits x).toNat = (x % 2 ^ k.bits).toNat := by
    simp [BitVec.toNat_ofInt]
  have ey : (BitVec.ofInt k.bits y).toNat = y.toNat := by
    have : y % 2 ^ k.bits = y := Int.emod_eq_of_lt h0 (by omega)
    simp [BitVec.toNat_ofInt, this]
  have hxm : ((x % 2 ^ k.bits).toNat) % 2 ^ i = 0 := by
    have h := Int.emod_emod_of_dvd x hdvd
    rw [hx] at h
    have hnn : 0 ≤ x % 2 ^ k.bits := Int.emod_nonneg _ (by omega)
    have : (((x % 2 ^ k.bits).toNat : Nat) : Int) % ((2 ^ i : Nat) : Int) = 0 := by
      rw [Int.toNat_of_nonneg hnn]
      exact_mod_cast h
    exact_mod_cast this
  have hym : y.toNat < 2 ^ i := by
    have : ((y.toNat : Nat) : Int) < ((2 ^ i : Nat) : Int) := by
      rw [Int.toNat_of_nonneg h0]
      exact_mod_cast h1
    exact_mod_cast this
  have hnn : 0 ≤ x % 2 ^ k.bits := Int.emod_nonneg _ (by omega)
  have hor := nat_or _ _ i hxm hym
  constructor
  · unfold bits
    simp only [BitVec.toNat_or, ex, ey, hor]
    congr 1
    rw [Int.natCast_add, Int.toNat_of_nonneg hnn, Int.toNat_of_nonneg h0]
  · unfold bits
    simp only [BitVec.toNat_or, ex, ey]
    rw [Nat.or_comm, hor]
    congr 1
    rw [Int.natCast_add, Int.toNat_of_nonneg hnn, Int.toNat_of_nonneg h0]

/-- A low part and a multiple of 2 ^ i beside it, unsigned. -/
theorem u64_or (x y : Int) (i : Nat) (hi : i ≤ 64) (hx : x % 2 ^ i = 0) (hx0 : 0 ≤ x) (hx1 : x < 18446744073709551616) (h0 : 0 ≤ y) (h1 : y < 2 ^ i) (hs : x + y < 18446744073709551616) :
    bits .or .u64 y x = y + x := by
  rw [(bits_or_nat .u64 x y i hi hx h0 h1).2]
  have e : x % 2 ^ IntKind.u64.bits = x := Int.emod_eq_of_lt hx0 (by simpa [IntKind.bits] using hx1)
  rw [e, IntWalk.u64_in _ (by omega)]
  omega

/-- Likewise with a sign. -/
theorem i64_or (x y : Int) (i : Nat) (hi : i ≤ 64) (hx : x % 2 ^ i = 0) (h0 : 0 ≤ y) (h1 : y < 2 ^ i) (hs0 : -9223372036854775808 ≤ x + y) (hs1 : x + y ≤ 9223372036854775807) :
    bits .or .i64 x y = x + y := by
  rw [(bits_or_nat .i64 x y i hi hx h0 h1).1]
  have e : (x % 2 ^ IntKind.i64.bits : Int) = x % 18446744073709551616 := by simp [IntKind.bits]
  rw [e, IntKind.wrap_i64]
  omega

/-- A byte of a text. -/
def byteAt (s : ByteArray) (i : Nat) : Int := if h : i < s.size then ((s[i]'h).toNat : Int) else 0

theorem byteAt_range (s : ByteArray) (i : Nat) : 0 ≤ byteAt s i ∧ byteAt s i < 256 := by
  unfold byteAt
  split
  · rename_i h
    have := (s[i]'h).toNat_lt
    omega
  · omega

theorem byteAt_eq (s : ByteArray) (i : Nat) (h : i < s.size) : ((s[i]'h).toNat : Int) = byteAt s i := by
  unfold byteAt
  rw [dif_pos h]

/-- The number whose n bytes stand in s from i on, the lowest first. -/
def numAt (s : ByteArray) (i : Nat) : Nat → Int
  | 0 => 0
  | n + 1 => byteAt s i + 256 * numAt s (i + 1) n

theorem numAt_range (s : ByteArray) (i n : Nat) : 0 ≤ numAt s i n ∧ numAt s i n < 256 ^ n := by
  induction n generalizing i with
  | zero => simp [numAt]
  | succ n ih =>
    have h1 := byteAt_range s i
    have h2 := ih (i + 1)
    have e : (256 : Int) ^ (n + 1) = 256 * 256 ^ n := by rw [Int.pow_succ]; omega
    rw [e]
    simp only [numAt]
    omega

def wordMay (n : Int) : Bool := n == 1 || n == 2 || n == 4 || n == 8

theorem wordMay_iff (n : Int) : wordMay n = true ↔ (n = 1 ∨ n = 2 ∨ n = 4 ∨ n = 8) := by simp [wordMay, or_assoc]

/-- What word.Get answers. -/
def wordGet (s : ByteArray) (i n : Int) : Int × Int :=
  if ¬ (n = 1 ∨ n = 2 ∨ n = 4 ∨ n = 8) ∨ i < 0 then (0, 2)
  else if i > s.size ∨ n > s.size - i then (0, 10)
  else (numAt s i.toNat n.toNat, 0)

theorem wordGet_ok {s : ByteArray} {i n : Int} (h : (wordGet s i n).2 = 0) : 0 ≤ i ∧ i ≤ s.size ∧ n ≤ s.size - i ∧ (n = 1 ∨ n = 2 ∨ n = 4 ∨ n = 8) := by
  unfold wordGet at h
  split at h
  · simp at h
  · split at h
    · simp at h
    · omega

/-- What word.Set answers. -/
def wordSet (s : ByteArray) (i x n : Int) : ByteArray × Int :=
  if (wordGet s i n).2 ≠ 0 then (⟨#[]⟩, (wordGet s i n).2)
  else (s.extract 0 i.toNat ++ wordOf x n ++ s.extract (i + n).toNat s.size, 0)

/-- What word.Low answers. -/
def wordLow (x n : Int) : Int := if n = 1 ∨ n = 2 ∨ n = 4 ∨ n = 8 then x % 256 ^ n.toNat else 0

/-- What word.Sign answers. -/
def wordSign (x n : Int) : Int :=
  if n = 1 ∨ n = 2 ∨ n = 4 ∨ n = 8 then
    (if x % 256 ^ n.toNat < 256 ^ n.toNat / 2 then x % 256 ^ n.toNat else x % 256 ^ n.toNat - 256 ^ n.toNat) else 0

theorem strOfNums_append (l m : List Int) : strOfNums l ++ strOfNums m = strOfNums (l ++ m) := by
  apply ByteArray.ext
  simp [strOfNums, ByteArray.data_append]

theorem wordNums_length (x : Int) (n : Nat) : (wordNums x n).length = n := by
  induction n generalizing x with
  | zero => rfl
  | succ n ih => simp [wordNums, ih]

theorem wordNums_range (x : Int) (n : Nat) : ∀ b ∈ wordNums x n, 0 ≤ b ∧ b < 256 := by
  induction n generalizing x with
  | zero => intro b hb; simp [wordNums] at hb
  | succ n ih =>
    intro b hb
    simp only [wordNums, List.mem_cons] at hb
    rcases hb with rfl | hb
    · omega
    · exact ih _ b hb

theorem strOfNums_size_ (l : List Int) : (strOfNums l).size = l.length := by simp [strOfNums, ByteArray.size]

theorem byteAt_str (l : List Int) (hl : ∀ b ∈ l, 0 ≤ b ∧ b < 256) (i : Nat) (h : i < l.length) : byteAt (strOfNums l) i = l[i] := by
  have h2 : i < (strOfNums l).size := by rw [strOfNums_size_]; exact h
  unfold byteAt
  rw [dif_pos h2]
  have e : (strOfNums l)[i] = UInt8.ofNat (l[i].toNat) := by
    show (strOfNums l).data[i] = _
    simp [strOfNums]
  rw [e]
  have := hl l[i] (List.getElem_mem h)
  rw [UInt8.toNat_ofNat']
  omega

def numOf : List Int → Int
  | [] => 0
  | b :: l => b + 256 * numOf l

theorem numAt_str (l : List Int) (hl : ∀ b ∈ l, 0 ≤ b ∧ b < 256) (n : Nat) : ∀ i, i + n ≤ l.length → numAt (strOfNums l) i n = numOf ((l.drop i).take n) := by
  induction n with
  | zero => intro i _; simp [numAt, numOf]
  | succ n ih =>
    intro i h
    have hi : i < l.length := by omega
    rw [List.drop_eq_getElem_cons hi]
    simp only [numAt, List.take_succ_cons, numOf]
    rw [byteAt_str l hl i hi, ih (i + 1) (by omega)]

theorem numAt_word (x : Int) (n : Nat) : numAt (strOfNums (wordNums x n)) 0 n = numOf (wordNums x n) := by
  rw [numAt_str _ (wordNums_range x n) n 0 (by rw [wordNums_length]; omega)]
  rw [List.drop_zero, List.take_of_length_le (by rw [wordNums_length]; exact Nat.le_refl _)]

theorem numOf_word (x : Int) (h0 : 0 ≤ x) (h1 : x < 18446744073709551616) :
    numOf (wordNums x 1) = x % 256 ∧ numOf (wordNums x 2) = x % 65536 ∧ numOf (wordNums x 4) = x % 4294967296 ∧ numOf (wordNums x 8) = x % 18446744073709551616 := by
  simp only [wordNums, numOf]
  omega

theorem wordOf_size (x n : Int) : (wordOf x n).size ≤ 8 := by
  unfold wordOf
  split
  · rename_i h
    rw [strOfNums_size_, wordNums_length]
    omega
  · simp [ByteArray.size]

theorem wordOf_size_eq (x n : Int) (h : n = 1 ∨ n = 2 ∨ n = 4 ∨ n = 8) : ((wordOf x n).size : Int) = n := by
  unfold wordOf
  rw [if_pos h, strOfNums_size_, wordNums_length]
  omega

theorem wordGet_of (x n : Int) (h0 : 0 ≤ x) (h1 : x < 18446744073709551616) : (wordGet (wordOf x n) 0 n).1 = wordLow x n := by
  by_cases h : n = 1 ∨ n = 2 ∨ n = 4 ∨ n = 8
  · have hs := wordOf_size_eq x n h
    unfold wordGet
    rw [if_neg (by omega), if_neg (by omega)]
    have e : wordOf x n = strOfNums (wordNums x n.toNat) := if_pos h
    have hh := numOf_word x h0 h1
    rw [e]
    show numAt (strOfNums (wordNums x n.toNat)) 0 n.toNat = _
    rw [numAt_word]
    unfold wordLow
    rw [if_pos h]
    rcases h with rfl | rfl | rfl | rfl
    · exact hh.1
    · exact hh.2.1
    · exact hh.2.2.1
    · exact hh.2.2.2
  · unfold wordGet wordLow
    rw [if_pos (.inl h), if_neg h]

end Go.Proofs.Ytcddpmiandgkjaa
