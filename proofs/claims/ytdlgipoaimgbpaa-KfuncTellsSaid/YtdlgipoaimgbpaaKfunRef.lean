import Derived.Test.YtdlgipoaimgbpaaKfunCalls
import Derived.Handy
/-! wardenref25.args, gives, Of: the document's answer, walked by hand. -/
namespace Go.Proofs.Ytdlgipoaimgbpaa
open Go.RowKit Go.Shelf
set_option maxHeartbeats 4000000
set_option maxRecDepth 100000
set_option linter.unusedSimpArgs false
set_option linter.unusedVariables false

theorem ref_kargs (w : World) (id : Int) : Calls Try.prog 51 #[.int .i32 id] w fun e w' => ∃ v, e = .returned v ∧ Arg w.heap.size (kfK id).args v w' ∧ Below w.heap.size w w' := by
  by_cases h : 1 ≤ id ∧ id ≤ 17
  · have hc : id = 1 ∨ id = 2 ∨ id = 3 ∨ id = 4 ∨ id = 5 ∨ id = 6 ∨ id = 7 ∨ id = 8 ∨ id = 9 ∨ id = 10 ∨ id = 11 ∨ id = 12 ∨ id = 13 ∨ id = 14 ∨ id = 15 ∨ id = 16 ∨ id = 17 := by omega
    clear h
    rcases hc with rfl | rfl | rfl | rfl | rfl | rfl | rfl | rfl | rfl | rfl | rfl | rfl | rfl | rfl | rfl | rfl | rfl
    all_goals
      go_enter Try.func51, Try.ntmps51
      go_wp2_with fail
      go_ret
      first
        | exact ⟨_, rfl, .inr ⟨w.heap.size, Nat.le_refl _, rfl, World.alloc_heap_new _ _⟩, (Below.refl _ w).alloc (Nat.le_refl _) _⟩
        | exact ⟨_, rfl, .inl ⟨rfl, rfl⟩, Below.refl _ w⟩
  · rw [show kfK id = KF.none by unfold kfK; rw [if_neg h]]
    have n1 : (id == 1) = false := beq_eq_false_iff_ne.2 (by omega)
    have n2 : (id == 2) = false := beq_eq_false_iff_ne.2 (by omega)
    have n3 : (id == 3) = false := beq_eq_false_iff_ne.2 (by omega)
    have n4 : (id == 4) = false := beq_eq_false_iff_ne.2 (by omega)
    have n5 : (id == 5) = false := beq_eq_false_iff_ne.2 (by omega)
    have n6 : (id == 6) = false := beq_eq_false_iff_ne.2 (by omega)
    have n7 : (id == 7) = false := beq_eq_false_iff_ne.2 (by omega)
    have n8 : (id == 8) = false := beq_eq_false_iff_ne.2 (by omega)
    have n9 : (id == 9) = false := beq_eq_false_iff_ne.2 (by omega)
    have n10 : (id == 10) = false := beq_eq_false_iff_ne.2 (by omega)
    have n11 : (id == 11) = false := beq_eq_false_iff_ne.2 (by omega)
    have n12 : (id == 12) = false := beq_eq_false_iff_ne.2 (by omega)
    have n13 : (id == 13) = false := beq_eq_false_iff_ne.2 (by omega)
    have n14 : (id == 14) = false := beq_eq_false_iff_ne.2 (by omega)
    have n15 : (id == 15) = false := beq_eq_false_iff_ne.2 (by omega)
    have n16 : (id == 16) = false := beq_eq_false_iff_ne.2 (by omega)
    have n17 : (id == 17) = false := beq_eq_false_iff_ne.2 (by omega)
    go_enter Try.func51, Try.ntmps51
    go_wp2_with fail
    go_ret
    exact ⟨_, rfl, .inl ⟨rfl, rfl⟩, Below.refl _ w⟩

theorem ref_kgives (w : World) (id : Int) : Calls Try.prog 52 #[.int .i32 id] w fun e w' => e = .returned (.int .u8 (kfK id).gives) ∧ w = w' := by
  by_cases h : 1 ≤ id ∧ id ≤ 17
  · have hc : id = 1 ∨ id = 2 ∨ id = 3 ∨ id = 4 ∨ id = 5 ∨ id = 6 ∨ id = 7 ∨ id = 8 ∨ id = 9 ∨ id = 10 ∨ id = 11 ∨ id = 12 ∨ id = 13 ∨ id = 14 ∨ id = 15 ∨ id = 16 ∨ id = 17 := by omega
    clear h
    rcases hc with rfl | rfl | rfl | rfl | rfl | rfl | rfl | rfl | rfl | rfl | rfl | rfl | rfl | rfl | rfl | rfl | rfl
    all_goals
      go_enter Try.func52, Try.ntmps52
      go_wp2_with fail
      go_ret
      exact ⟨rfl, rfl⟩
  · rw [show kfK id = KF.none by unfold kfK; rw [if_neg h]]
    have n1 : (id == 1) = false := beq_eq_false_iff_ne.2 (by omega)
    have n2 : (id == 2) = false := beq_eq_false_iff_ne.2 (by omega)
    have n3 : (id == 3) = false := beq_eq_false_iff_ne.2 (by omega)
    have n4 : (id == 4) = false := beq_eq_false_iff_ne.2 (by omega)
    have n5 : (id == 5) = false := beq_eq_false_iff_ne.2 (by omega)
    have n6 : (id == 6) = false := beq_eq_false_iff_ne.2 (by omega)
    have n7 : (id == 7) = false := beq_eq_false_iff_ne.2 (by omega)
    have n8 : (id == 8) = false := beq_eq_false_iff_ne.2 (by omega)
    have n9 : (id == 9) = false := beq_eq_false_iff_ne.2 (by omega)
    have n10 : (id == 10) = false := beq_eq_false_iff_ne.2 (by omega)
    have n11 : (id == 11) = false := beq_eq_false_iff_ne.2 (by omega)
    have n12 : (id == 12) = false := beq_eq_false_iff_ne.2 (by omega)
    have n13 : (id == 13) = false := beq_eq_false_iff_ne.2 (by omega)
    have n14 : (id == 14) = false := beq_eq_false_iff_ne.2 (by omega)
    have n15 : (id == 15) = false := beq_eq_false_iff_ne.2 (by omega)
    have n16 : (id == 16) = false := beq_eq_false_iff_ne.2 (by omega)
    have n17 : (id == 17) = false := beq_eq_false_iff_ne.2 (by omega)
    go_enter Try.func52, Try.ntmps52
    go_wp2_with fail
    go_ret
    exact ⟨rfl, rfl⟩

end Go.Proofs.Ytdlgipoaimgbpaa
