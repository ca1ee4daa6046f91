/- Types: lemmas on what the functions that the laws reach answer. No conditions of their own beyond those that each theorem states. -/
import Derived.Test.YtkflofjcjolehaaProg
import Derived.Test.YtkflofjcjolehaaBig0
/-! word.Of: the bytes of a number, in the array that the call makes. -/
namespace Go.Proofs.Ytkflofjcjolehaa
open Go.RowKit
set_option maxHeartbeats 1000000
set_option maxRecDepth 100000

theorem word_may_yes (x : Int) (h : x = 1 ∨ x = 2 ∨ x = 4 ∨ x = 8) (w : World) : Calls Try.prog 62 #[.int .i64 x] w fun e w' => e = .returned (.bool true) ∧ w = w' := by
  rcases h with rfl | rfl | rfl | rfl
  all_goals
    go_enter Try.func62, Try.ntmps62
    go_wp2
    go_ret
    exact ⟨rfl, rfl⟩

theorem word_may_no (x : Int) (h : ¬ (x = 1 ∨ x = 2 ∨ x = 4 ∨ x = 8)) (w : World) : Calls Try.prog 62 #[.int .i64 x] w fun e w' => e = .returned (.bool false) ∧ w = w' := by
  have a1 : (x == 1) = false := beq_eq_false_iff_ne.2 (by omega)
  have a2 : (x == 2) = false := beq_eq_false_iff_ne.2 (by omega)
  have a4 : (x == 4) = false := beq_eq_false_iff_ne.2 (by omega)
  have a8 : (x == 8) = false := beq_eq_false_iff_ne.2 (by omega)
  go_enter Try.func62, Try.ntmps62
  go_wp2
  go_ret
  exact ⟨rfl, rfl⟩

theorem word_of_1 (x : Int) (h0 : 0 ≤ x) (h1 : x < 18446744073709551616) (w : World) : Calls Try.prog 61 #[.int .u64 x, .int .i64 1] w fun e w' => e = .returned (.string (strOfNums [x % 256])) ∧ Below w.heap.size w w' := by
  go_enter Try.func61, Try.ntmps61
  go_wp2_with fail
  refine (word_may_yes _ (by decide) _).mono ?_
  rintro e w1 ⟨rfl, rfl⟩
  go_wp2_with fail
  refine wp_loop_rounds 9 ?_
  iterate 9 (rw [rounds_succ]; go_wp2_with fail)
  rw [run_convert_bytes_arg _ 41 5 Try.underlying41 Try.underlying5 w.heap.size 0 1 8 [x % 256] rfl (by
    intro i hi
    have hc : i = 0 := by omega
    rcases hc with rfl <;> simp) 9 Try.underlying9]
  go_wp2_with fail
  go_ret
  exact ⟨rfl, (Below.refl _ w).alloc (Nat.le_refl _) _⟩

theorem word_of_2 (x : Int) (h0 : 0 ≤ x) (h1 : x < 18446744073709551616) (w : World) : Calls Try.prog 61 #[.int .u64 x, .int .i64 2] w fun e w' => e = .returned (.string (strOfNums [x % 256, x / 256 % 256])) ∧ Below w.heap.size w w' := by
  go_enter Try.func61, Try.ntmps61
  go_wp2_with fail
  refine (word_may_yes _ (by decide) _).mono ?_
  rintro e w1 ⟨rfl, rfl⟩
  go_wp2_with fail
  refine wp_loop_rounds 9 ?_
  iterate 9 (rw [rounds_succ]; go_wp2_with fail)
  rw [run_convert_bytes_arg _ 41 5 Try.underlying41 Try.underlying5 w.heap.size 0 2 8 [x % 256, x / 256 % 256] rfl (by
    intro i hi
    have hc : i = 0 ∨ i = 1 := by omega
    rcases hc with rfl | rfl <;> simp) 9 Try.underlying9]
  go_wp2_with fail
  go_ret
  exact ⟨rfl, (Below.refl _ w).alloc (Nat.le_refl _) _⟩

theorem word_of_4 (x : Int) (h0 : 0 ≤ x) (h1 : x < 18446744073709551616) (w : World) : Calls Try.prog 61 #[.int .u64 x, .int .i64 4] w fun e w' => e = .returned (.string (strOfNums [x % 256, x / 256 % 256, x / 65536 % 256, x / 16777216 % 256])) ∧ Below w.heap.size w w' := by
  go_enter Try.func61, Try.ntmps61
  go_wp2_with fail
  refine (word_may_yes _ (by decide) _).mono ?_
  rintro e w1 ⟨rfl, rfl⟩
  go_wp2_with fail
  refine wp_loop_rounds 9 ?_
  iterate 9 (rw [rounds_succ]; go_wp2_with fail)
  rw [run_convert_bytes_arg _ 41 5 Try.underlying41 Try.underlying5 w.heap.size 0 4 8 [x % 256, x / 256 % 256, x / 65536 % 256, x / 16777216 % 256] rfl (by
    intro i hi
    have hc : i = 0 ∨ i = 1 ∨ i = 2 ∨ i = 3 := by omega
    rcases hc with rfl | rfl | rfl | rfl <;> simp) 9 Try.underlying9]
  go_wp2_with fail
  go_ret
  exact ⟨rfl, (Below.refl _ w).alloc (Nat.le_refl _) _⟩

theorem word_of_8 (x : Int) (h0 : 0 ≤ x) (h1 : x < 18446744073709551616) (w : World) : Calls Try.prog 61 #[.int .u64 x, .int .i64 8] w fun e w' => e = .returned (.string (strOfNums [x % 256, x / 256 % 256, x / 65536 % 256, x / 16777216 % 256, x / 4294967296 % 256, x / 1099511627776 % 256, x / 281474976710656 % 256, x / 72057594037927936])) ∧ Below w.heap.size w w' := by
  go_enter Try.func61, Try.ntmps61
  go_wp2_with fail
  refine (word_may_yes _ (by decide) _).mono ?_
  rintro e w1 ⟨rfl, rfl⟩
  go_wp2_with fail
  refine wp_loop_rounds 9 ?_
  iterate 9 (rw [rounds_succ]; go_wp2_with fail)
  rw [run_convert_bytes_arg _ 41 5 Try.underlying41 Try.underlying5 w.heap.size 0 8 8 [x % 256, x / 256 % 256, x / 65536 % 256, x / 16777216 % 256, x / 4294967296 % 256, x / 1099511627776 % 256, x / 281474976710656 % 256, x / 72057594037927936] rfl (by
    intro i hi
    have hc : i = 0 ∨ i = 1 ∨ i = 2 ∨ i = 3 ∨ i = 4 ∨ i = 5 ∨ i = 6 ∨ i = 7 := by omega
    rcases hc with rfl | rfl | rfl | rfl | rfl | rfl | rfl | rfl <;> simp) 9 Try.underlying9]
  go_wp2_with fail
  go_ret
  exact ⟨rfl, (Below.refl _ w).alloc (Nat.le_refl _) _⟩

theorem word_of_none (x n : Int) (h : ¬ (n = 1 ∨ n = 2 ∨ n = 4 ∨ n = 8)) (w : World) : Calls Try.prog 61 #[.int .u64 x, .int .i64 n] w fun e w' => e = .returned (.string ⟨#[]⟩) ∧ Below w.heap.size w w' := by
  have H := hide h
  clear h
  go_enter Try.func61, Try.ntmps61
  go_wp2_with fail
  refine (word_may_no _ H.out _).mono ?_
  rintro e w1 ⟨rfl, rfl⟩
  go_wp2_with fail
  go_ret
  exact ⟨rfl, Below.refl _ w⟩

theorem word_of (x n : Int) (h0 : 0 ≤ x) (h1 : x < 18446744073709551616) (w : World) :
    Calls Try.prog 61 #[.int .u64 x, .int .i64 n] w fun e w' => e = .returned (.string (wordOf x n)) ∧ Below w.heap.size w w' := by
  by_cases h : n = 1 ∨ n = 2 ∨ n = 4 ∨ n = 8
  · rcases h with rfl | rfl | rfl | rfl
    · exact word_of_1 x h0 h1 w
    · have e : wordOf x 2 = strOfNums [x % 256, x / 256 % 256] := rfl
      rw [e]
      exact word_of_2 x h0 h1 w
    · have e : wordOf x 4 = strOfNums (wordNums x 4) := rfl
      rw [e, wordNums_4]
      exact word_of_4 x h0 h1 w
    · have e : wordOf x 8 = strOfNums (wordNums x 8) := rfl
      rw [e, wordNums_8 x h0 h1]
      exact word_of_8 x h0 h1 w
  · have e : wordOf x n = ⟨#[]⟩ := if_neg h
    rw [e]
    exact word_of_none x n h w

end Go.Proofs.Ytkflofjcjolehaa

/-! The calls of package word and of its reference: what each answers. Written by gen01.py. -/
namespace Go.Proofs.Ytkflofjcjolehaa
open Go.RowKit
set_option maxHeartbeats 1000000
set_option maxRecDepth 100000
set_option linter.unusedSimpArgs false
set_option linter.unusedVariables false

theorem ret_pair_u64 {a b c : Int} (h : a = b) : Ending.returned (.tuple #[.int .u64 a, .int .i64 c]) = Ending.returned (.tuple #[.int .u64 b, .int .i64 c]) := by rw [h]
theorem ret_u64 {a b : Int} (h : a = b) : Ending.returned (.int .u64 a) = Ending.returned (.int .u64 b) := by rw [h]
theorem ret_i64 {a b : Int} (h : a = b) : Ending.returned (.int .i64 a) = Ending.returned (.int .i64 b) := by rw [h]
theorem ret_str {a b : ByteArray} (h : a = b) : Ending.returned (.string a) = Ending.returned (.string b) := by rw [h]

theorem or_step (acc b P : Int) (e : Nat) (hP : P = 2 ^ e) (he : e ≤ 64) (h0 : 0 ≤ acc) (h1 : acc < P) (b0 : 0 ≤ b) (b1 : b < 256) (hm : 256 * P ≤ 18446744073709551616) :
    bits .or .u64 acc (IntKind.u64.wrap (IntKind.u64.wrap b * P)) = acc + b * P ∧ 0 ≤ acc + b * P ∧ acc + b * P < 256 * P := by
  have hp : (0 : Int) < P := by omega
  have h2 : 0 ≤ b * P := Int.mul_nonneg b0 (by omega)
  have h3 : b * P ≤ 255 * P := Int.mul_le_mul_of_nonneg_right (by omega) (by omega)
  rw [IntWalk.u64_in b (by omega), IntWalk.u64_in (b * P) (by omega)]
  refine ⟨u64_or (b * P) acc e he ?_ h2 (by omega) h0 (by omega) (by omega), by omega, by omega⟩
  rw [hP]
  exact Int.mul_emod_left _ _

theorem horner_step (x b : Int) (h0 : 0 ≤ x) (h1 : x < 72057594037927936) (b0 : 0 ≤ b) (b1 : b < 256) : IntKind.u64.wrap (IntKind.u64.wrap (256 * x) + IntKind.u64.wrap b) = b + 256 * x := by
  rw [IntWalk.u64_in b (by omega), IntWalk.u64_in (256 * x) (by omega), IntWalk.u64_in _ (by omega)]
  omega

theorem get_join_1 (b0 : Int) (h0 : 0 ≤ b0 ∧ b0 < 256) :
    bits .or .u64 0 (IntKind.u64.wrap (IntKind.u64.wrap b0)) = b0 + 256 * 0 := by
  have g0 := or_step 0 b0 1 0 rfl (by decide) (by decide) (by decide) h0.1 h0.2 (by decide)
  simp only [Int.mul_one] at g0
  rw [g0.1]
  omega

theorem get_horner_1 (b0 : Int) (h0 : 0 ≤ b0 ∧ b0 < 256) :
    IntKind.u64.wrap (IntKind.u64.wrap b0) = b0 + 256 * 0 := by
  have g0 : IntKind.u64.wrap (IntKind.u64.wrap b0) = b0 := by rw [IntWalk.u64_in b0 (by omega), IntWalk.u64_in b0 (by omega)]
  rw [g0]
  try omega


theorem get_join_2 (b0 b1 : Int) (h0 : 0 ≤ b0 ∧ b0 < 256) (h1 : 0 ≤ b1 ∧ b1 < 256) :
    bits .or .u64 (bits .or .u64 0 (IntKind.u64.wrap (IntKind.u64.wrap b0))) (IntKind.u64.wrap (IntKind.u64.wrap b1 * 256)) = b0 + 256 * (b1 + 256 * 0) := by
  have g0 := or_step 0 b0 1 0 rfl (by decide) (by decide) (by decide) h0.1 h0.2 (by decide)
  simp only [Int.mul_one] at g0
  have g1 := or_step (0 + b0) b1 256 8 rfl (by decide) g0.2.1 (by omega) h1.1 h1.2 (by decide)
  rw [g0.1, g1.1]
  omega

theorem get_horner_2 (b0 b1 : Int) (h0 : 0 ≤ b0 ∧ b0 < 256) (h1 : 0 ≤ b1 ∧ b1 < 256) :
    IntKind.u64.wrap (IntKind.u64.wrap (256 * IntKind.u64.wrap (IntKind.u64.wrap b1)) + IntKind.u64.wrap b0) = b0 + 256 * (b1 + 256 * 0) := by
  have g1 : IntKind.u64.wrap (IntKind.u64.wrap b1) = b1 := by rw [IntWalk.u64_in b1 (by omega), IntWalk.u64_in b1 (by omega)]
  have g0 := horner_step (b1) b0 (by omega) (by omega) h0.1 h0.2
  rw [g1, g0]
  try omega


theorem get_join_4 (b0 b1 b2 b3 : Int) (h0 : 0 ≤ b0 ∧ b0 < 256) (h1 : 0 ≤ b1 ∧ b1 < 256) (h2 : 0 ≤ b2 ∧ b2 < 256) (h3 : 0 ≤ b3 ∧ b3 < 256) :
    bits .or .u64 (bits .or .u64 (bits .or .u64 (bits .or .u64 0 (IntKind.u64.wrap (IntKind.u64.wrap b0))) (IntKind.u64.wrap (IntKind.u64.wrap b1 * 256))) (IntKind.u64.wrap (IntKind.u64.wrap b2 * 65536))) (IntKind.u64.wrap (IntKind.u64.wrap b3 * 16777216)) = b0 + 256 * (b1 + 256 * (b2 + 256 * (b3 + 256 * 0))) := by
  have g0 := or_step 0 b0 1 0 rfl (by decide) (by decide) (by decide) h0.1 h0.2 (by decide)
  simp only [Int.mul_one] at g0
  have g1 := or_step (0 + b0) b1 256 8 rfl (by decide) g0.2.1 (by omega) h1.1 h1.2 (by decide)
  have g2 := or_step ((0 + b0) + b1 * 256) b2 65536 16 rfl (by decide) g1.2.1 (by omega) h2.1 h2.2 (by decide)
  have g3 := or_step (((0 + b0) + b1 * 256) + b2 * 65536) b3 16777216 24 rfl (by decide) g2.2.1 (by omega) h3.1 h3.2 (by decide)
  rw [g0.1, g1.1, g2.1, g3.1]
  omega

theorem get_horner_4 (b0 b1 b2 b3 : Int) (h0 : 0 ≤ b0 ∧ b0 < 256) (h1 : 0 ≤ b1 ∧ b1 < 256) (h2 : 0 ≤ b2 ∧ b2 < 256) (h3 : 0 ≤ b3 ∧ b3 < 256) :
    IntKind.u64.wrap (IntKind.u64.wrap (256 * IntKind.u64.wrap (IntKind.u64.wrap (256 * IntKind.u64.wrap (IntKind.u64.wrap (256 * IntKind.u64.wrap (IntKind.u64.wrap b3)) + IntKind.u64.wrap b2)) + IntKind.u64.wrap b1)) + IntKind.u64.wrap b0) = b0 + 256 * (b1 + 256 * (b2 + 256 * (b3 + 256 * 0))) := by
  have g3 : IntKind.u64.wrap (IntKind.u64.wrap b3) = b3 := by rw [IntWalk.u64_in b3 (by omega), IntWalk.u64_in b3 (by omega)]
  have g2 := horner_step (b3) b2 (by omega) (by omega) h2.1 h2.2
  have g1 := horner_step (b2 + 256 * (b3)) b1 (by omega) (by omega) h1.1 h1.2
  have g0 := horner_step (b1 + 256 * (b2 + 256 * (b3))) b0 (by omega) (by omega) h0.1 h0.2
  rw [g3, g2, g1, g0]
  try omega


theorem get_join_8 (b0 b1 b2 b3 b4 b5 b6 b7 : Int) (h0 : 0 ≤ b0 ∧ b0 < 256) (h1 : 0 ≤ b1 ∧ b1 < 256) (h2 : 0 ≤ b2 ∧ b2 < 256) (h3 : 0 ≤ b3 ∧ b3 < 256) (h4 : 0 ≤ b4 ∧ b4 < 256) (h5 : 0 ≤ b5 ∧ b5 < 256) (h6 : 0 ≤ b6 ∧ b6 < 256) (h7 : 0 ≤ b7 ∧ b7 < 256) :
    bits .or .u64 (bits .or .u64 (bits .or .u64 (bits .or .u64 (bits .or .u64 (bits .or .u64 (bits .or .u64 (bits .or .u64 0 (IntKind.u64.wrap (IntKind.u64.wrap b0))) (IntKind.u64.wrap (IntKind.u64.wrap b1 * 256))) (IntKind.u64.wrap (IntKind.u64.wrap b2 * 65536))) (IntKind.u64.wrap (IntKind.u64.wrap b3 * 16777216))) (IntKind.u64.wrap (IntKind.u64.wrap b4 * 4294967296))) (IntKind.u64.wrap (IntKind.u64.wrap b5 * 1099511627776))) (IntKind.u64.wrap (IntKind.u64.wrap b6 * 281474976710656))) (IntKind.u64.wrap (IntKind.u64.wrap b7 * 72057594037927936)) = b0 + 256 * (b1 + 256 * (b2 + 256 * (b3 + 256 * (b4 + 256 * (b5 + 256 * (b6 + 256 * (b7 + 256 * 0))))))) := by
  have g0 := or_step 0 b0 1 0 rfl (by decide) (by decide) (by decide) h0.1 h0.2 (by decide)
  simp only [Int.mul_one] at g0
  have g1 := or_step (0 + b0) b1 256 8 rfl (by decide) g0.2.1 (by omega) h1.1 h1.2 (by decide)
  have g2 := or_step ((0 + b0) + b1 * 256) b2 65536 16 rfl (by decide) g1.2.1 (by omega) h2.1 h2.2 (by decide)
  have g3 := or_step (((0 + b0) + b1 * 256) + b2 * 65536) b3 16777216 24 rfl (by decide) g2.2.1 (by omega) h3.1 h3.2 (by decide)
  have g4 := or_step ((((0 + b0) + b1 * 256) + b2 * 65536) + b3 * 16777216) b4 4294967296 32 rfl (by decide) g3.2.1 (by omega) h4.1 h4.2 (by decide)
  have g5 := or_step (((((0 + b0) + b1 * 256) + b2 * 65536) + b3 * 16777216) + b4 * 4294967296) b5 1099511627776 40 rfl (by decide) g4.2.1 (by omega) h5.1 h5.2 (by decide)
  have g6 := or_step ((((((0 + b0) + b1 * 256) + b2 * 65536) + b3 * 16777216) + b4 * 4294967296) + b5 * 1099511627776) b6 281474976710656 48 rfl (by decide) g5.2.1 (by omega) h6.1 h6.2 (by decide)
  have g7 := or_step (((((((0 + b0) + b1 * 256) + b2 * 65536) + b3 * 16777216) + b4 * 4294967296) + b5 * 1099511627776) + b6 * 281474976710656) b7 72057594037927936 56 rfl (by decide) g6.2.1 (by omega) h7.1 h7.2 (by decide)
  rw [g0.1, g1.1, g2.1, g3.1, g4.1, g5.1, g6.1, g7.1]
  omega

theorem get_horner_8 (b0 b1 b2 b3 b4 b5 b6 b7 : Int) (h0 : 0 ≤ b0 ∧ b0 < 256) (h1 : 0 ≤ b1 ∧ b1 < 256) (h2 : 0 ≤ b2 ∧ b2 < 256) (h3 : 0 ≤ b3 ∧ b3 < 256) (h4 : 0 ≤ b4 ∧ b4 < 256) (h5 : 0 ≤ b5 ∧ b5 < 256) (h6 : 0 ≤ b6 ∧ b6 < 256) (h7 : 0 ≤ b7 ∧ b7 < 256) :
    IntKind.u64.wrap (IntKind.u64.wrap (256 * IntKind.u64.wrap (IntKind.u64.wrap (256 * IntKind.u64.wrap (IntKind.u64.wrap (256 * IntKind.u64.wrap (IntKind.u64.wrap (256 * IntKind.u64.wrap (IntKind.u64.wrap (256 * IntKind.u64.wrap (IntKind.u64.wrap (256 * IntKind.u64.wrap (IntKind.u64.wrap (256 * IntKind.u64.wrap (IntKind.u64.wrap b7)) + IntKind.u64.wrap b6)) + IntKind.u64.wrap b5)) + IntKind.u64.wrap b4)) + IntKind.u64.wrap b3)) + IntKind.u64.wrap b2)) + IntKind.u64.wrap b1)) + IntKind.u64.wrap b0) = b0 + 256 * (b1 + 256 * (b2 + 256 * (b3 + 256 * (b4 + 256 * (b5 + 256 * (b6 + 256 * (b7 + 256 * 0))))))) := by
  have g7 : IntKind.u64.wrap (IntKind.u64.wrap b7) = b7 := by rw [IntWalk.u64_in b7 (by omega), IntWalk.u64_in b7 (by omega)]
  have g6 := horner_step (b7) b6 (by omega) (by omega) h6.1 h6.2
  have g5 := horner_step (b6 + 256 * (b7)) b5 (by omega) (by omega) h5.1 h5.2
  have g4 := horner_step (b5 + 256 * (b6 + 256 * (b7))) b4 (by omega) (by omega) h4.1 h4.2
  have g3 := horner_step (b4 + 256 * (b5 + 256 * (b6 + 256 * (b7)))) b3 (by omega) (by omega) h3.1 h3.2
  have g2 := horner_step (b3 + 256 * (b4 + 256 * (b5 + 256 * (b6 + 256 * (b7))))) b2 (by omega) (by omega) h2.1 h2.2
  have g1 := horner_step (b2 + 256 * (b3 + 256 * (b4 + 256 * (b5 + 256 * (b6 + 256 * (b7)))))) b1 (by omega) (by omega) h1.1 h1.2
  have g0 := horner_step (b1 + 256 * (b2 + 256 * (b3 + 256 * (b4 + 256 * (b5 + 256 * (b6 + 256 * (b7))))))) b0 (by omega) (by omega) h0.1 h0.2
  rw [g7, g6, g5, g4, g3, g2, g1, g0]
  try omega


theorem word_get_1 (s : ByteArray) (k : Nat) (hs : s.size ≤ 9223372036854775807) (hk : k + 1 ≤ s.size) (w : World) :
    Calls Try.prog 34 #[.string s, .int .i64 k, .int .i64 1] w fun e w' => e = .returned (.tuple #[.int .u64 (numAt s k 1), .int .i64 0]) ∧ w = w' := by
  have h1 : decide ((k : Int) < 0) = false := by simp
  have h2 : decide (s.size < k) = false := by simp; omega
  have h3 : decide ((s.size : Int) - k < 1) = false := by simp; omega
  go_enter Try.func34, Try.ntmps34
  go_wp2_with fail
  refine (word_may_yes _ (by decide) _).mono ?_
  rintro e w1 ⟨rfl, rfl⟩
  go_wp2_with fail
  refine wp_loop_rounds 2 ?_
  iterate 2 (rw [rounds_succ]; go_wp2_with fail)
  go_ret2
  refine ⟨ret_pair_u64 ?_, rfl⟩
  simp only [byteAt_eq]
  exact get_join_1 (byteAt s k) (byteAt_range _ _)


theorem word_get_2 (s : ByteArray) (k : Nat) (hs : s.size ≤ 9223372036854775807) (hk : k + 2 ≤ s.size) (w : World) :
    Calls Try.prog 34 #[.string s, .int .i64 k, .int .i64 2] w fun e w' => e = .returned (.tuple #[.int .u64 (numAt s k 2), .int .i64 0]) ∧ w = w' := by
  have h1 : decide ((k : Int) < 0) = false := by simp
  have h2 : decide (s.size < k) = false := by simp; omega
  have h3 : decide ((s.size : Int) - k < 2) = false := by simp; omega
  go_enter Try.func34, Try.ntmps34
  go_wp2_with fail
  refine (word_may_yes _ (by decide) _).mono ?_
  rintro e w1 ⟨rfl, rfl⟩
  go_wp2_with fail
  refine wp_loop_rounds 3 ?_
  iterate 3 (rw [rounds_succ]; go_wp2_with fail)
  go_ret2
  refine ⟨ret_pair_u64 ?_, rfl⟩
  simp only [byteAt_eq]
  exact get_join_2 (byteAt s k) (byteAt s (k + 1)) (byteAt_range _ _) (byteAt_range _ _)


theorem word_get_4 (s : ByteArray) (k : Nat) (hs : s.size ≤ 9223372036854775807) (hk : k + 4 ≤ s.size) (w : World) :
    Calls Try.prog 34 #[.string s, .int .i64 k, .int .i64 4] w fun e w' => e = .returned (.tuple #[.int .u64 (numAt s k 4), .int .i64 0]) ∧ w = w' := by
  have h1 : decide ((k : Int) < 0) = false := by simp
  have h2 : decide (s.size < k) = false := by simp; omega
  have h3 : decide ((s.size : Int) - k < 4) = false := by simp; omega
  go_enter Try.func34, Try.ntmps34
  go_wp2_with fail
  refine (word_may_yes _ (by decide) _).mono ?_
  rintro e w1 ⟨rfl, rfl⟩
  go_wp2_with fail
  refine wp_loop_rounds 5 ?_
  iterate 5 (rw [rounds_succ]; go_wp2_with fail)
  go_ret2
  refine ⟨ret_pair_u64 ?_, rfl⟩
  simp only [byteAt_eq]
  exact get_join_4 (byteAt s k) (byteAt s (k + 1)) (byteAt s (k + 2)) (byteAt s (k + 3)) (byteAt_range _ _) (byteAt_range _ _) (byteAt_range _ _) (byteAt_range _ _)


theorem word_get_8 (s : ByteArray) (k : Nat) (hs : s.size ≤ 9223372036854775807) (hk : k + 8 ≤ s.size) (w : World) :
    Calls Try.prog 34 #[.string s, .int .i64 k, .int .i64 8] w fun e w' => e = .returned (.tuple #[.int .u64 (numAt s k 8), .int .i64 0]) ∧ w = w' := by
  have h1 : decide ((k : Int) < 0) = false := by simp
  have h2 : decide (s.size < k) = false := by simp; omega
  have h3 : decide ((s.size : Int) - k < 8) = false := by simp; omega
  go_enter Try.func34, Try.ntmps34
  go_wp2_with fail
  refine (word_may_yes _ (by decide) _).mono ?_
  rintro e w1 ⟨rfl, rfl⟩
  go_wp2_with fail
  refine wp_loop_rounds 9 ?_
  iterate 9 (rw [rounds_succ]; go_wp2_with fail)
  go_ret2
  refine ⟨ret_pair_u64 ?_, rfl⟩
  simp only [byteAt_eq]
  exact get_join_8 (byteAt s k) (byteAt s (k + 1)) (byteAt s (k + 2)) (byteAt s (k + 3)) (byteAt s (k + 4)) (byteAt s (k + 5)) (byteAt s (k + 6)) (byteAt s (k + 7)) (byteAt_range _ _) (byteAt_range _ _) (byteAt_range _ _) (byteAt_range _ _) (byteAt_range _ _) (byteAt_range _ _) (byteAt_range _ _) (byteAt_range _ _)


theorem word_get_arg (s : ByteArray) (i n : Int) (h : ¬ (n = 1 ∨ n = 2 ∨ n = 4 ∨ n = 8) ∨ i < 0) (w : World) :
    Calls Try.prog 34 #[.string s, .int .i64 i, .int .i64 n] w fun e w' => e = .returned (.tuple #[.int .u64 0, .int .i64 2]) ∧ w = w' := by
  by_cases hm : n = 1 ∨ n = 2 ∨ n = 4 ∨ n = 8
  · have hi : i < 0 := by rcases h with h | h; exact absurd hm h; exact h
    have HM := hide hm
    clear hm h
    go_enter Try.func34, Try.ntmps34
    go_wp2_with fail
    refine (word_may_yes _ HM.out _).mono ?_
    rintro e w1 ⟨rfl, rfl⟩
    go_wp2_with fail
    go_ret2
    exact ⟨rfl, rfl⟩
  · have HM := hide hm
    clear hm h
    go_enter Try.func34, Try.ntmps34
    go_wp2_with fail
    refine (word_may_no _ HM.out _).mono ?_
    rintro e w1 ⟨rfl, rfl⟩
    go_wp2_with fail
    go_ret2
    exact ⟨rfl, rfl⟩

theorem word_get_short (s : ByteArray) (i n : Int) (hs : s.size ≤ 9223372036854775807) (h : n = 1 ∨ n = 2 ∨ n = 4 ∨ n = 8) (hi : 0 ≤ i) (hsh : i > s.size ∨ n > s.size - i) (w : World) :
    Calls Try.prog 34 #[.string s, .int .i64 i, .int .i64 n] w fun e w' => e = .returned (.tuple #[.int .u64 0, .int .i64 10]) ∧ w = w' := by
  have HM := hide h
  have n0 : 0 < n := by omega
  have n1 : n ≤ 8 := by omega
  clear h
  have hi0 : decide (i < 0) = false := by simp; omega
  by_cases hb : (s.size : Int) < i
  · clear hsh
    go_enter Try.func34, Try.ntmps34
    go_wp2_with fail
    refine (word_may_yes _ HM.out _).mono ?_
    rintro e w1 ⟨rfl, rfl⟩
    go_wp2_with fail
    go_ret2
    exact ⟨rfl, rfl⟩
  · have hb2 : (s.size : Int) - i < n := by omega
    have hb3 : i ≤ (s.size : Int) := by omega
    clear hsh hb
    go_enter Try.func34, Try.ntmps34
    go_wp2_with fail
    refine (word_may_yes _ HM.out _).mono ?_
    rintro e w1 ⟨rfl, rfl⟩
    go_wp2_with fail
    go_ret2
    exact ⟨rfl, rfl⟩

theorem word_get (s : ByteArray) (i n : Int) (hs : s.size ≤ 9223372036854775807) (w : World) :
    Calls Try.prog 34 #[.string s, .int .i64 i, .int .i64 n] w fun e w' => e = .returned (.tuple #[.int .u64 (wordGet s i n).1, .int .i64 (wordGet s i n).2]) ∧ w = w' := by
  unfold wordGet
  split
  · exact word_get_arg s i n (by assumption) w
  · rename_i h1
    split
    · exact word_get_short s i n hs (by omega) (by omega) (by assumption) w
    · rename_i h2
      obtain ⟨k, rfl⟩ := Int.eq_ofNat_of_zero_le (show 0 ≤ i by omega)
      have hm : n = 1 ∨ n = 2 ∨ n = 4 ∨ n = 8 := by omega
      rcases hm with rfl | rfl | rfl | rfl
      · exact word_get_1 s k hs (by omega) w
      · exact word_get_2 s k hs (by omega) w
      · exact word_get_4 s k hs (by omega) w
      · exact word_get_8 s k hs (by omega) w


theorem conv_one (w : World) (b : Nat) (v : Int) (hc : w.cell? ⟨b, 0, none⟩ = some (.int .u8 v)) :
    (convert 41 9 (.slice (some ⟨b, 0, none⟩) 1 1)).run Try.prog w = .ok (.string (strOfNums [v])) w :=
  run_convert_bytes_arg w 41 5 Try.underlying41 Try.underlying5 b 0 1 1 [v] rfl (fun i hi => by
    obtain rfl : i = 0 := by omega
    exact hc) 9 Try.underlying9

theorem sign_step (acc b : Int) (h0 : -36028797018963968 ≤ acc) (h1 : acc ≤ 36028797018963967) (b0 : 0 ≤ b) (b1 : b < 256) : bits .or .i64 (wrap64 (acc * 256)) (wrap64 b) = acc * 256 + b := by
  have e1 : wrap64 (acc * 256) = acc * 256 := by unfold wrap64; omega
  have e2 : wrap64 b = b := by unfold wrap64; omega
  rw [e1, e2]
  exact i64_or (acc * 256) b 8 (by decide) (by simp) b0 (by omega) (by omega) (by omega)

theorem sign_first (b : Int) (b0 : 0 ≤ b) (b1 : b < 256) : bits .or .i64 (-256) (wrap64 b) = -256 + b ∧ bits .or .i64 0 b = b := by
  have h1 := sign_step (-1) b (by omega) (by omega) b0 b1
  have h2 := sign_step 0 b (by omega) (by omega) b0 b1
  rw [show wrap64 (-1 * 256) = -256 by unfold wrap64; omega] at h1
  rw [show wrap64 (0 * 256) = 0 by unfold wrap64; omega, show wrap64 b = b by unfold wrap64; omega] at h2
  exact ⟨by rw [h1]; omega, by rw [h2]; omega⟩

theorem numAt_wordOf (x n : Int) (h0 : 0 ≤ x) (h1 : x < 18446744073709551616) (h : n = 1 ∨ n = 2 ∨ n = 4 ∨ n = 8) : numAt (wordOf x n) 0 n.toNat = x % 256 ^ n.toNat := by
  have e : wordOf x n = strOfNums (wordNums x n.toNat) := if_pos h
  have hh := numOf_word x h0 h1
  rw [e, numAt_word]
  rcases h with rfl | rfl | rfl | rfl
  · exact hh.1
  · exact hh.2.1
  · exact hh.2.2.1
  · exact hh.2.2.2


end Go.Proofs.Ytkflofjcjolehaa
