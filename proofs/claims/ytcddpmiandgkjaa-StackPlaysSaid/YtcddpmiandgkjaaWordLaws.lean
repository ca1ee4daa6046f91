import Derived.Test.YtcddpmiandgkjaaWordPure
/-! What holds of numbers as bytes: signs, low bytes, and texts in which numbers are set. -/
namespace Go.Proofs.Ytcddpmiandgkjaa
open Go.RowKit

theorem u64_mod (x : Int) : IntKind.u64.wrap x = x % 18446744073709551616 := rfl

theorem low_range (x n : Int) (h0 : 0 ≤ x) : 0 ≤ wordLow x n ∧ wordLow x n ≤ x := by
  unfold wordLow
  split
  · rename_i h
    rcases h with rfl | rfl | rfl | rfl
    · show 0 ≤ x % 256 ∧ x % 256 ≤ x; omega
    · show 0 ≤ x % 65536 ∧ x % 65536 ≤ x; omega
    · show 0 ≤ x % 4294967296 ∧ x % 4294967296 ≤ x; omega
    · show 0 ≤ x % 18446744073709551616 ∧ x % 18446744073709551616 ≤ x; omega
  · omega

/-- Two numbers have the same bytes just if they have the same low part. -/
theorem of_same (x y n : Int) (h0 : 0 ≤ x) (h1 : x < 18446744073709551616) (g0 : 0 ≤ y) (g1 : y < 18446744073709551616) : wordOf x n = wordOf y n ↔ wordLow x n = wordLow y n := by
  constructor
  · intro h
    rw [← wordGet_of x n h0 h1, ← wordGet_of y n g0 g1, h]
  · intro h
    by_cases hn : n = 1 ∨ n = 2 ∨ n = 4 ∨ n = 8
    · have e1 : wordOf x n = strOfNums (wordNums x n.toNat) := if_pos hn
      have e2 : wordOf y n = strOfNums (wordNums y n.toNat) := if_pos hn
      have e3 : wordLow x n = x % 256 ^ n.toNat := if_pos hn
      have e4 : wordLow y n = y % 256 ^ n.toNat := if_pos hn
      rw [e3, e4] at h
      rw [e1, e2]
      congr 1
      rcases hn with rfl | rfl | rfl | rfl
      · have h : x % 256 = y % 256 := h
        show wordNums x 1 = wordNums y 1
        simp only [wordNums, List.cons.injEq, and_true]
        omega
      · have h : x % 65536 = y % 65536 := h
        show wordNums x 2 = wordNums y 2
        simp only [wordNums, List.cons.injEq, and_true]
        omega
      · have h : x % 4294967296 = y % 4294967296 := h
        show wordNums x 4 = wordNums y 4
        simp only [wordNums, List.cons.injEq, and_true]
        omega
      · have h : x % 18446744073709551616 = y % 18446744073709551616 := h
        have : x = y := by omega
        rw [this]
    · have e1 : wordOf x n = ⟨#[]⟩ := if_neg hn
      have e2 : wordOf y n = ⟨#[]⟩ := if_neg hn
      rw [e1, e2]

theorem toList_inj {a b : ByteArray} (h : a.toList = b.toList) : a = b := by
  rw [ByteArray.toList_eq, ByteArray.toList_eq] at h
  exact ByteArray.ext (Array.toList_inj.1 h)

theorem strOfNums_take (l : List Int) (k : Nat) : (strOfNums l).extract 0 k = strOfNums (l.take k) := by
  apply ByteArray.ext
  apply Array.toList_inj.1
  simp [strOfNums, ByteArray.data_extract, List.map_take]

/-- What holds of a number with a sign. -/
structure SignOk (x n s low : Int) : Prop where
  range : -9223372036854775808 ≤ s ∧ s ≤ 9223372036854775807
  lows : wordLow (s % 18446744073709551616) n = low
  sign : wordSign (s % 18446744073709551616) n = s
  again : wordLow low n = low
  pos : 0 ≤ s → s = low

theorem sign_ok (x n : Int) (_ : 0 ≤ x) (_ : x < 18446744073709551616) (hn : n = 1 ∨ n = 2 ∨ n = 4 ∨ n = 8) : SignOk x n (wordSign x n) (wordLow x n) := by
  rcases hn with rfl | rfl | rfl | rfl
  · have e : ∀ z, wordSign z 1 = if z % 256 < 128 then z % 256 else z % 256 - 256 := fun _ => rfl
    have l : ∀ z, wordLow z 1 = z % 256 := fun _ => rfl
    constructor <;> simp only [e, l] <;> (repeat' split) <;> omega
  · have e : ∀ z, wordSign z 2 = if z % 65536 < 32768 then z % 65536 else z % 65536 - 65536 := fun _ => rfl
    have l : ∀ z, wordLow z 2 = z % 65536 := fun _ => rfl
    constructor <;> simp only [e, l] <;> (repeat' split) <;> omega
  · have e : ∀ z, wordSign z 4 = if z % 4294967296 < 2147483648 then z % 4294967296 else z % 4294967296 - 4294967296 := fun _ => rfl
    have l : ∀ z, wordLow z 4 = z % 4294967296 := fun _ => rfl
    constructor <;> simp only [e, l] <;> (repeat' split) <;> omega
  · have e : ∀ z, wordSign z 8 = if z % 18446744073709551616 < 9223372036854775808 then z % 18446744073709551616 else z % 18446744073709551616 - 18446744073709551616 := fun _ => rfl
    have l : ∀ z, wordLow z 8 = z % 18446744073709551616 := fun _ => rfl
    constructor <;> simp only [e, l] <;> (repeat' split) <;> omega

end Go.Proofs.Ytcddpmiandgkjaa
