import Derived.Test.YtdlgipoaimgbpaaAluAsks
import Derived.Test.YtdlgipoaimgbpaaAluPairs
/-! What alu.Does and alu.Asks answer, as numbers modulo 2^64 or 2^32. -/
namespace Go.Proofs.Ytdlgipoaimgbpaa
open Go.RowKit
set_option maxRecDepth 100000

def aluMod (wide : Bool) : Int := if wide then 18446744073709551616 else 4294967296
def aluBits (wide : Bool) : Nat := if wide then 64 else 32

theorem aluMod_eq (wide : Bool) : aluMod wide = 2 ^ aluBits wide := by cases wide <;> rfl
theorem aluMod_pos (wide : Bool) : 0 < aluMod wide := by cases wide <;> decide
theorem aluMod_le (wide : Bool) : aluMod wide ≤ 18446744073709551616 := by cases wide <;> decide
theorem aluMod_ge (wide : Bool) : 4294967296 ≤ aluMod wide := by cases wide <;> decide
theorem aluMod_dvd (wide : Bool) : aluMod wide ∣ 18446744073709551616 := by
  cases wide
  · exact ⟨4294967296, rfl⟩
  · exact ⟨1, rfl⟩
theorem aluBits_size (wide : Bool) : 8 * aluSize wide = aluBits wide := by cases wide <;> rfl

theorem low_mod (x : Int) (wide : Bool) : wordLow x (aluSize wide) = x % aluMod wide := by
  cases wide <;> rfl

theorem wrap_low (x : Int) (wide : Bool) : IntKind.u64.wrap x % aluMod wide = x % aluMod wide :=
  Int.emod_emod_of_dvd x (aluMod_dvd wide)

theorem sign_mod (x : Int) (wide : Bool) (h0 : 0 ≤ x) (h1 : x < aluMod wide) : wordSign x (aluSize wide) = if x < aluMod wide / 2 then x else x - aluMod wide := by
  have e : x % aluMod wide = x := Int.emod_eq_of_lt h0 h1
  cases wide
  · show (if x % 4294967296 < 2147483648 then x % 4294967296 else x % 4294967296 - 4294967296) = _
    have e : x % 4294967296 = x := e
    rw [e]
    rfl
  · show (if x % 18446744073709551616 < 9223372036854775808 then x % 18446744073709551616 else x % 18446744073709551616 - 18446744073709551616) = _
    have e : x % 18446744073709551616 = x := e
    rw [e]
    rfl

theorem bits_nat (x y : Nat) (hx : x < 18446744073709551616) (hy : y < 18446744073709551616) :
    bits .and .u64 x y = ((x &&& y : Nat) : Int) ∧ bits .or .u64 x y = ((x ||| y : Nat) : Int) ∧ bits .xor .u64 x y = ((x ^^^ y : Nat) : Int) := by
  have e : ∀ z : Nat, z < 18446744073709551616 → (BitVec.ofInt IntKind.u64.bits (z : Int)).toNat = z := fun z hz => by
    simp [IntKind.bits]
    omega
  have w : ∀ z : Nat, z < 18446744073709551616 → IntKind.u64.wrap (z : Int) = z := fun z hz => wrap_u64 (by omega) (by omega)
  refine ⟨?_, ?_, ?_⟩
  · unfold bits
    simp only [BitVec.toNat_and, e x hx, e y hy]
    exact w _ (Nat.lt_of_le_of_lt Nat.and_le_left hx)
  · unfold bits
    simp only [BitVec.toNat_or, e x hx, e y hy]
    exact w _ (Nat.or_lt_two_pow (n := 64) hx hy)
  · unfold bits
    simp only [BitVec.toNat_xor, e x hx, e y hy]
    exact w _ (Nat.xor_lt_two_pow (n := 64) hx hy)

/-- What alu.Does answers where the code is one, its numbers modulo M. -/
theorem does_of (c : Int) (wide : Bool) (a b r : Int) (h : aluOp c (aluSize wide) (a % aluMod wide) (b % aluMod wide) = some r) : aluDoes c wide a b = (r % aluMod wide, 0) := by
  unfold aluDoes
  rw [low_mod, low_mod, h]
  simp only [low_mod]

theorem does_add (wide : Bool) (a b : Int) : aluDoes 0 wide a b = ((a + b) % aluMod wide, 0) := by
  rw [does_of 0 wide a b _ rfl, wrap_low, ← Int.add_emod]
theorem does_sub (wide : Bool) (a b : Int) : aluDoes 1 wide a b = ((a - b) % aluMod wide, 0) := by
  rw [does_of 1 wide a b _ rfl, wrap_low, ← Int.sub_emod]
theorem does_mul (wide : Bool) (a b : Int) : aluDoes 2 wide a b = ((a * b) % aluMod wide, 0) := by
  rw [does_of 2 wide a b _ rfl, wrap_low, ← Int.mul_emod]
theorem does_div (wide : Bool) (a b : Int) : aluDoes 3 wide a b = (if b % aluMod wide = 0 then 0 else a % aluMod wide / (b % aluMod wide), 0) := by
  rw [does_of 3 wide a b _ rfl]
  have hp := aluMod_pos wide
  have ha := Int.emod_nonneg a (show aluMod wide ≠ 0 by omega)
  have ha2 := Int.emod_lt_of_pos a hp
  have hb := Int.emod_nonneg b (show aluMod wide ≠ 0 by omega)
  split
  · rw [Int.zero_emod]
  · rw [Int.emod_eq_of_lt (Int.ediv_nonneg ha hb) (by have := Int.ediv_le_self (b % aluMod wide) ha; omega)]
theorem does_mod (wide : Bool) (a b : Int) : aluDoes 9 wide a b = (if b % aluMod wide = 0 then a % aluMod wide else a % aluMod wide % (b % aluMod wide), 0) := by
  rw [does_of 9 wide a b _ rfl]
  have hp := aluMod_pos wide
  have hb := Int.emod_nonneg b (show aluMod wide ≠ 0 by omega)
  have hb2 := Int.emod_lt_of_pos b hp
  split
  · rw [Int.emod_emod]
  · rename_i h
    rw [Int.emod_eq_of_lt (Int.emod_nonneg _ h) (by have := Int.emod_lt_of_pos (a % aluMod wide) (show 0 < b % aluMod wide by omega); omega)]
theorem does_neg (wide : Bool) (a b : Int) : aluDoes 8 wide a b = ((-a) % aluMod wide, 0) := by
  rw [does_of 8 wide a b _ rfl, wrap_low]
  rw [show -(a % aluMod wide) = 0 - a % aluMod wide by omega, show -a = 0 - a by omega, Int.sub_emod, Int.emod_emod, ← Int.sub_emod]
theorem does_mov (wide : Bool) (a b : Int) : aluDoes 11 wide a b = (b % aluMod wide, 0) := by
  rw [does_of 11 wide a b _ rfl, Int.emod_emod]
theorem does_lsh (wide : Bool) (a b : Int) : aluDoes 6 wide a b = ((a * 2 ^ (b % aluMod wide % aluBits wide).toNat) % aluMod wide, 0) := by
  rw [does_of 6 wide a b _ rfl, wrap_low, aluBits_size, Int.mul_emod, Int.emod_emod, ← Int.mul_emod]
theorem does_rsh (wide : Bool) (a b : Int) : aluDoes 7 wide a b = (a % aluMod wide / 2 ^ (b % aluMod wide % aluBits wide).toNat, 0) := by
  rw [does_of 7 wide a b _ rfl, aluBits_size]
  have hp := aluMod_pos wide
  have ha := Int.emod_nonneg a (show aluMod wide ≠ 0 by omega)
  have ha2 := Int.emod_lt_of_pos a hp
  rw [Int.emod_eq_of_lt (Int.ediv_nonneg ha (Int.pow_nonneg (by omega))) (by have := Int.ediv_le_self (2 ^ (b % aluMod wide % aluBits wide).toNat) ha; omega)]
theorem does_arsh (wide : Bool) (a b : Int) : aluDoes 12 wide a b = ((if a % aluMod wide < aluMod wide / 2 then a % aluMod wide else a % aluMod wide - aluMod wide) / 2 ^ (b % aluMod wide % aluBits wide).toNat % aluMod wide, 0) := by
  have hp := aluMod_pos wide
  rw [does_of 12 wide a b _ rfl, aluBits_size, wrap_low, sign_mod _ _ (Int.emod_nonneg a (show aluMod wide ≠ 0 by omega)) (Int.emod_lt_of_pos a hp)]

/-- A number's low part, as a natural number. -/
def lowN (wide : Bool) (a : Int) : Nat := (a % aluMod wide).toNat
theorem lowN_cast (wide : Bool) (a : Int) : ((lowN wide a : Nat) : Int) = a % aluMod wide := Int.toNat_of_nonneg (Int.emod_nonneg a (by have := aluMod_pos wide; omega))
theorem lowN_lt (wide : Bool) (a : Int) : lowN wide a < 2 ^ aluBits wide := by
  have h := Int.emod_lt_of_pos a (aluMod_pos wide)
  have e := lowN_cast wide a
  have e2 := aluMod_eq wide
  have : ((lowN wide a : Nat) : Int) < ((2 ^ aluBits wide : Nat) : Int) := by
    rw [e, show ((2 ^ aluBits wide : Nat) : Int) = aluMod wide by rw [e2]; exact_mod_cast rfl]
    exact h
  exact_mod_cast this
theorem pow_bits (wide : Bool) : ((2 ^ aluBits wide : Nat) : Int) = aluMod wide := by rw [aluMod_eq]; exact_mod_cast rfl
theorem lowN_lt64 (wide : Bool) (a : Int) : lowN wide a < 18446744073709551616 := Nat.lt_of_lt_of_le (lowN_lt wide a) (by cases wide <;> decide)

theorem does_or (wide : Bool) (a b : Int) : aluDoes 4 wide a b = (((lowN wide a ||| lowN wide b : Nat) : Int), 0) := by
  rw [does_of 4 wide a b _ rfl, ← lowN_cast wide a, ← lowN_cast wide b, (bits_nat _ _ (lowN_lt64 wide a) (lowN_lt64 wide b)).2.1, Int.emod_eq_of_lt (by omega)]
  rw [← pow_bits]
  exact_mod_cast Nat.or_lt_two_pow (lowN_lt wide a) (lowN_lt wide b)
theorem does_and (wide : Bool) (a b : Int) : aluDoes 5 wide a b = (((lowN wide a &&& lowN wide b : Nat) : Int), 0) := by
  rw [does_of 5 wide a b _ rfl, ← lowN_cast wide a, ← lowN_cast wide b, (bits_nat _ _ (lowN_lt64 wide a) (lowN_lt64 wide b)).1, Int.emod_eq_of_lt (by omega)]
  rw [← pow_bits]
  exact_mod_cast Nat.lt_of_le_of_lt Nat.and_le_left (lowN_lt wide a)
theorem does_xor (wide : Bool) (a b : Int) : aluDoes 10 wide a b = (((lowN wide a ^^^ lowN wide b : Nat) : Int), 0) := by
  rw [does_of 10 wide a b _ rfl, ← lowN_cast wide a, ← lowN_cast wide b, (bits_nat _ _ (lowN_lt64 wide a) (lowN_lt64 wide b)).2.2, Int.emod_eq_of_lt (by omega)]
  rw [← pow_bits]
  exact_mod_cast Nat.xor_lt_two_pow (lowN_lt wide a) (lowN_lt wide b)

theorem does_none (c : Int) (wide : Bool) (a b : Int) (h : ¬ (0 ≤ c ∧ c ≤ 12)) : aluDoes c wide a b = (0, 20) := by
  have e : aluOp c (aluSize wide) (wordLow a (aluSize wide)) (wordLow b (aluSize wide)) = none := by
    unfold aluOp
    simp (disch := omega) only [if_neg]
  unfold aluDoes
  rw [e]

theorem does_range (c : Int) (wide : Bool) (a b : Int) : 0 ≤ (aluDoes c wide a b).1 ∧ (aluDoes c wide a b).1 < aluMod wide := by
  have hp := aluMod_pos wide
  unfold aluDoes
  split
  · rw [low_mod]
    exact ⟨Int.emod_nonneg _ (by omega), Int.emod_lt_of_pos _ hp⟩
  · exact ⟨Int.le_refl _, hp⟩

theorem does_in (c : Int) (wide : Bool) (a b : Int) : 0 ≤ (aluDoes c wide a b).1 ∧ (aluDoes c wide a b).1 < 18446744073709551616 := by
  have h := does_range c wide a b
  have := aluMod_le wide
  omega

/-- Two numbers with the same low parts are reckoned alike. -/
theorem does_congr (c : Int) (wide : Bool) (a b a' b' : Int) (ha : a % aluMod wide = a' % aluMod wide) (hb : b % aluMod wide = b' % aluMod wide) : aluDoes c wide a b = aluDoes c wide a' b' := by
  unfold aluDoes
  simp only [low_mod]
  rw [ha, hb]

theorem asks_congr (c : Int) (wide : Bool) (a b a' b' : Int) (ha : a % aluMod wide = a' % aluMod wide) (hb : b % aluMod wide = b' % aluMod wide) : aluAsks c wide a b = aluAsks c wide a' b' := by
  unfold aluAsks
  simp only [low_mod]
  rw [ha, hb]

theorem and_add_or (x : Nat) : ∀ y : Nat, (x &&& y) + (x ||| y) = x + y := by
  induction x using Nat.strongRecOn with
  | _ x ih =>
    intro y
    by_cases h : x = 0
    · subst h
      simp
    · have h2 := ih (x / 2) (by omega) (y / 2)
      have a1 : (x &&& y) / 2 = x / 2 &&& y / 2 := Nat.and_div_two
      have a2 : (x ||| y) / 2 = x / 2 ||| y / 2 := Nat.or_div_two
      have m1 : (x &&& y) % 2 + (x ||| y) % 2 = x % 2 + y % 2 := by
        have e1 : (x &&& y) % 2 = (x % 2 &&& y % 2) := by
          have := Nat.and_mod_two_pow (a := x) (b := y) (n := 1)
          simpa using this
        have e2 : (x ||| y) % 2 = (x % 2 ||| y % 2) := by
          have := Nat.or_mod_two_pow (a := x) (b := y) (n := 1)
          simpa using this
        rw [e1, e2]
        rcases Nat.mod_two_eq_zero_or_one x with h | h <;> rcases Nat.mod_two_eq_zero_or_one y with h' | h' <;> rw [h, h'] <;> decide
      omega

theorem and_xor_or (x y : Nat) : (x &&& y) ^^^ (x ||| y) = x ^^^ y := by
  apply Nat.eq_of_testBit_eq
  intro i
  simp
  cases x.testBit i <;> cases y.testBit i <;> rfl

theorem xor_ones (k x : Nat) (h : x < 2 ^ k) : x ^^^ (2 ^ k - 1) = 2 ^ k - 1 - x := by
  apply Nat.eq_of_testBit_eq
  intro i
  rw [Nat.testBit_xor, Nat.testBit_two_pow_sub_one, Nat.sub_sub, Nat.add_comm 1 x, Nat.testBit_two_pow_sub_succ h]
  by_cases hi : i < k
  · simp [hi]
  · have : x.testBit i = false := Nat.testBit_lt_two_pow (Nat.lt_of_lt_of_le h (Nat.pow_le_pow_right (by decide) (by omega)))
    simp [hi, this]

end Go.Proofs.Ytdlgipoaimgbpaa
