import Derived.Test.YtdlgipoaimgbpaaProg
import Derived.Test.YtdlgipoaimgbpaaWordPure
/-! word.Of: the bytes of a number, in the array that the call makes. -/
namespace Go.Proofs.Ytdlgipoaimgbpaa
open Go.RowKit
set_option maxHeartbeats 1000000
set_option maxRecDepth 100000

theorem word_may_yes (x : Int) (h : x = 1 ∨ x = 2 ∨ x = 4 ∨ x = 8) (w : World) : Calls Try.prog 62 #[.int .i64 x] w fun e w' => e = .returned (.bool true) ∧ w = w' := by
  rcases h with rfl | rfl | rfl | rfl
  all_goals
    go_enter Try.func62, Try.ntmps62
    go_wp2
    go_ret
    exact ⟨rfl, rfl⟩

theorem word_may_no (x : Int) (h : ¬ (x = 1 ∨ x = 2 ∨ x = 4 ∨ x = 8)) (w : World) : Calls Try.prog 62 #[.int .i64 x] w fun e w' => e = .returned (.bool false) ∧ w = w' := by
  have a1 : (x == 1) = false := beq_eq_false_iff_ne.2 (by omega)
  have a2 : (x == 2) = false := beq_eq_false_iff_ne.2 (by omega)
  have a4 : (x == 4) = false := beq_eq_false_iff_ne.2 (by omega)
  have a8 : (x == 8) = false := beq_eq_false_iff_ne.2 (by omega)
  go_enter Try.func62, Try.ntmps62
  go_wp2
  go_ret
  exact ⟨rfl, rfl⟩

end Go.Proofs.Ytdlgipoaimgbpaa
