import Derived.Test.YtcddpmiandgkjaaProg
import Derived.Test.YtcddpmiandgkjaaWordPure
/-! word.Of: the bytes of a number, in the array that the call makes. -/
namespace Go.Proofs.Ytcddpmiandgkjaa
open Go.RowKit
set_option maxHeartbeats 1000000
set_option maxRecDepth 100000

theorem word_may_yes (x : Int) (h : x = 1 ∨ x = 2 ∨ x = 4 ∨ x = 8) (w : World) : Calls Try.prog 58 #[.int .i64 x] w fun e w' => e = .returned (.bool true) ∧ w = w' := by
  rcases h with rfl | rfl | rfl | rfl
  all_goals
    go_enter Try.func58, Try.ntmps58
    go_wp2
    go_ret
    exact ⟨rfl, rfl⟩

theorem word_may_no (x : Int) (h : ¬ (x = 1 ∨ x = 2 ∨ x = 4 ∨ x = 8)) (w : World) : Calls Try.prog 58 #[.int .i64 x] w fun e w' => e = .returned (.bool false) ∧ w = w' := by
  have a1 : (x == 1) = false := beq_eq_false_iff_ne.2 (by omega)
  have a2 : (x == 2) = false := beq_eq_false_iff_ne.2 (by omega)
  have a4 : (x == 4) = false := beq_eq_false_iff_ne.2 (by omega)
  have a8 : (x == 8) = false := beq_eq_false_iff_ne.2 (by omega)
  go_enter Try.func58, Try.ntmps58
  go_wp2
  go_ret
  exact ⟨rfl, rfl⟩

theorem word_of_1 (x : Int) (h0 : 0 ≤ x) (h1 : x < 18446744073709551616) (w : World) : Calls Try.prog 41 #[.int .u64 x, .int .i64 1] w fun e w' => e = .returned (.string (strOfNums [x % 256])) ∧ Below w.heap.size w w' := by
  go_enter Try.func41, Try.ntmps41
  go_wp2_with fail
  refine (word_may_yes _ (by decide) _).mono ?_
  rintro e w1 ⟨rfl, rfl⟩
  go_wp2_with fail
  refine wp_loop_rounds 9 ?_
  iterate 9 (rw [rounds_succ]; go_wp2_with fail)
  rw [run_convert_bytes_arg _ 68 5 Try.underlying68 Try.underlying5 w.heap.size 0 1 8 [x % 256] rfl (by
    intro i hi
    have hc : i = 0 := by omega
    rcases hc with rfl <;> simp) 9 Try.underlying9]
  go_wp2_with fail
  go_ret
  exact ⟨rfl, (Below.refl _ w).alloc (Nat.le_refl _) _⟩

theorem word_of_2 (x : Int) (h0 : 0 ≤ x) (h1 : x < 18446744073709551616) (w : World) : Calls Try.prog 41 #[.int .u64 x, .int .i64 2] w fun e w' => e = .returned (.string (strOfNums [x % 256, x / 256 % 256])) ∧ Below w.heap.size w w' := by
  go_enter Try.func41, Try.ntmps41
  go_wp2_with fail
  refine (word_may_yes _ (by decide) _).mono ?_
  rintro e w1 ⟨rfl, rfl⟩
  go_wp2_with fail
  refine wp_loop_rounds 9 ?_
  iterate 9 (rw [rounds_succ]; go_wp2_with fail)
  rw [run_convert_bytes_arg _ 68 5 Try.underlying68 Try.underlying5 w.heap.size 0 2 8 [x % 256, x / 256 % 256] rfl (by
    intro i hi
    have hc : i = 0 ∨ i = 1 := by omega
    rcases hc with rfl | rfl <;> simp) 9 Try.underlying9]
  go_wp2_with fail
  go_ret
  exact ⟨rfl, (Below.refl _ w).alloc (Nat.le_refl _) _⟩

theorem word_of_4 (x : Int) (h0 : 0 ≤ x) (h1 : x < 18446744073709551616) (w : World) : Calls Try.prog 41 #[.int .u64 x, .int .i64 4] w fun e w' => e = .returned (.string (strOfNums [x % 256, x / 256 % 256, x / 65536 % 256, x / 16777216 % 256])) ∧ Below w.heap.size w w' := by
  go_enter Try.func41, Try.ntmps41
  go_wp2_with fail
  refine (word_may_yes _ (by decide) _).mono ?_
  rintro e w1 ⟨rfl, rfl⟩
  go_wp2_with fail
  refine wp_loop_rounds 9 ?_
  iterate 9 (rw [rounds_succ]; go_wp2_with fail)
  rw [run_convert_bytes_arg _ 68 5 Try.underlying68 Try.underlying5 w.heap.size 0 4 8 [x % 256, x / 256 % 256, x / 65536 % 256, x / 16777216 % 256] rfl (by
    intro i hi
    have hc : i = 0 ∨ i = 1 ∨ i = 2 ∨ i = 3 := by omega
    rcases hc with rfl | rfl | rfl | rfl <;> simp) 9 Try.underlying9]
  go_wp2_with fail
  go_ret
  exact ⟨rfl, (Below.refl _ w).alloc (Nat.le_refl _) _⟩

theorem word_of_8 (x : Int) (h0 : 0 ≤ x) (h1 : x < 18446744073709551616) (w : World) : Calls Try.prog 41 #[.int .u64 x, .int .i64 8] w fun e w' => e = .returned (.string (strOfNums [x % 256, x / 256 % 256, x / 65536 % 256, x / 16777216 % 256, x / 4294967296 % 256, x / 1099511627776 % 256, x / 281474976710656 % 256, x / 72057594037927936])) ∧ Below w.heap.size w w' := by
  go_enter Try.func41, Try.ntmps41
  go_wp2_with fail
  refine (word_may_yes _ (by decide) _).mono ?_
  rintro e w1 ⟨rfl, rfl⟩
  go_wp2_with fail
  refine wp_loop_rounds 9 ?_
  iterate 9 (rw [rounds_succ]; go_wp2_with fail)
  rw [run_convert_bytes_arg _ 68 5 Try.underlying68 Try.underlying5 w.heap.size 0 8 8 [x % 256, x / 256 % 256, x / 65536 % 256, x / 16777216 % 256, x / 4294967296 % 256, x / 1099511627776 % 256, x / 281474976710656 % 256, x / 72057594037927936] rfl (by
    intro i hi
    have hc : i = 0 ∨ i = 1 ∨ i = 2 ∨ i = 3 ∨ i = 4 ∨ i = 5 ∨ i = 6 ∨ i = 7 := by omega
    rcases hc with rfl | rfl | rfl | rfl | rfl | rfl | rfl | rfl <;> simp) 9 Try.underlying9]
  go_wp2_with fail
  go_ret
  exact ⟨rfl, (Below.refl _ w).alloc (Nat.le_refl _) _⟩

theorem word_of_none (x n : Int) (h : ¬ (n = 1 ∨ n = 2 ∨ n = 4 ∨ n = 8)) (w : World) : Calls Try.prog 41 #[.int .u64 x, .int .i64 n] w fun e w' => e = .returned (.string ⟨#[]⟩) ∧ Below w.heap.size w w' := by
  have H := hide h
  clear h
  go_enter Try.func41, Try.ntmps41
  go_wp2_with fail
  refine (word_may_no _ H.out _).mono ?_
  rintro e w1 ⟨rfl, rfl⟩
  go_wp2_with fail
  go_ret
  exact ⟨rfl, Below.refl _ w⟩

theorem word_of (x n : Int) (h0 : 0 ≤ x) (h1 : x < 18446744073709551616) (w : World) :
    Calls Try.prog 41 #[.int .u64 x, .int .i64 n] w fun e w' => e = .returned (.string (wordOf x n)) ∧ Below w.heap.size w w' := by
  by_cases h : n = 1 ∨ n = 2 ∨ n = 4 ∨ n = 8
  · rcases h with rfl | rfl | rfl | rfl
    · exact word_of_1 x h0 h1 w
    · have e : wordOf x 2 = strOfNums [x % 256, x / 256 % 256] := rfl
      rw [e]
      exact word_of_2 x h0 h1 w
    · have e : wordOf x 4 = strOfNums (wordNums x 4) := rfl
      rw [e, wordNums_4]
      exact word_of_4 x h0 h1 w
    · have e : wordOf x 8 = strOfNums (wordNums x 8) := rfl
      rw [e, wordNums_8 x h0 h1]
      exact word_of_8 x h0 h1 w
  · have e : wordOf x n = ⟨#[]⟩ := if_neg h
    rw [e]
    exact word_of_none x n h w

end Go.Proofs.Ytcddpmiandgkjaa
