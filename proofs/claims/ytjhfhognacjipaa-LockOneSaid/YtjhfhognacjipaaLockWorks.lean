import Derived.Test.YtjhfhognacjipaaLock
/-! What works() answers, and no lock. -/
namespace Go.Proofs.Ytjhfhognacjipaa
open Go.RowKit
set_option maxHeartbeats 400000

theorem lock_works (w : World) : Calls Try.prog 12 #[] w fun e w' => e = .returned (.bool true) ∧ Below w.heap.size w w' := by
  go_enter Try.func12, Try.ntmps12
  go_wp2_with fail
  refine (lock_new _).mono ?_
  rintro e w1 ⟨rfl, h1, hw1⟩
  have t1 : Below w.heap.size w w1 := by rw [hw1]; exact (Below.refl _ w).alloc (Nat.le_refl _) _
  clear hw1
  go_wp2_with fail
  refine (lock_take_none _ _ 1 2 0 h1).mono ?_
  rintro e w2 ⟨rfl, h2, t2⟩
  go_wp2_with fail
  refine (lock_take_some _ _ 1 3 0 _ h2).mono ?_
  rintro e w2 ⟨rfl, rfl⟩
  go_wp2_with fail
  refine (lock_held_some _ _ 0 1 2 h2).mono ?_
  rintro e w3 ⟨rfl, k, rfl⟩
  go_wp2_with fail
  have h2 := h2.drewN k
  refine (lock_give_other _ _ 1 3 0 1 2 h2 rfl).mono ?_
  rintro e w3 ⟨rfl, hw3⟩
  rw [← hw3]
  clear hw3
  go_wp2_with fail
  refine (lock_give_some _ _ 1 2 0 h2).mono ?_
  rintro e w3 ⟨rfl, h3, t3⟩
  go_wp2_with fail
  refine (lock_epoch _ _ _ none h3).mono ?_
  rintro e w4 ⟨rfl, rfl⟩
  go_wp2_with fail
  refine (lock_is_none _ _ 1 2 _ h3).mono ?_
  rintro e w4 ⟨rfl, rfl⟩
  go_wp2_with fail
  go_ret
  refine ⟨rfl, t1.trans ?_⟩
  exact ((t2.drewN k).trans t3).below (by have := t1.size; omega) (fun k hk => by rw [hk]; exact Nat.le_refl _)

theorem lock_held_no (w : World) : Calls Try.prog 16 #[.pointer none] w fun e w' => e = .returned (.tuple #[.int .i64 0, .int .i64 0, .bool false]) ∧ w = w' := by
  go_enter Try.func16, Try.ntmps16
  go_wp2
  go_ret3
  exact ⟨rfl, rfl⟩

theorem lock_take_no (w : World) (m s : Int) : Calls Try.prog 15 #[.pointer none, .int .i64 m, .int .i64 s] w fun e w' => e = .returned (.int .i64 1) ∧ w = w' := by
  go_enter Try.func15, Try.ntmps15
  go_wp2
  go_ret
  exact ⟨rfl, rfl⟩

theorem lock_give_no (w : World) (m s : Int) : Calls Try.prog 14 #[.pointer none, .int .i64 m, .int .i64 s] w fun e w' => e = .returned (.int .i64 1) ∧ w = w' := by
  go_enter Try.func14, Try.ntmps14
  go_wp2
  go_ret
  exact ⟨rfl, rfl⟩

theorem lock_is_no (w : World) (m s : Int) : Calls Try.prog 18 #[.pointer none, .int .i64 m, .int .i64 s] w fun e w' => e = .returned (.bool false) ∧ w = w' := by
  go_enter Try.func18, Try.ntmps18
  go_wp2
  go_ret
  exact ⟨rfl, rfl⟩

theorem lock_epoch_no (w : World) : Calls Try.prog 17 #[.pointer none] w fun e w' => e = .returned (.int .u64 0) ∧ w = w' := by
  go_enter Try.func17, Try.ntmps17
  go_wp2
  go_ret
  exact ⟨rfl, rfl⟩

/-- The law LockNone's walk. -/
theorem lock_none_walk (w : World) (m : Int) (_ : (Lit.int .i64 m).wf = true) (s : Int) (_ : (Lit.int .i64 s).wf = true) :
    Calls Try.prog 6 #[.int .i64 m, .int .i64 s] w fun e w' => e = .returned (.bool true) ∧ Below w.heap.size w w' := by
  go_enter Try.func6, Try.ntmps6
  go_wp2_with fail
  refine (lock_held_no _).mono ?_
  rintro e w1 ⟨rfl, rfl⟩
  go_wp2_with fail
  refine (lock_take_no _ _ _).mono ?_
  rintro e w1 ⟨rfl, rfl⟩
  go_wp2_with fail
  refine (lock_give_no _ _ _).mono ?_
  rintro e w1 ⟨rfl, rfl⟩
  go_wp2_with fail
  refine (lock_is_no _ _ _).mono ?_
  rintro e w1 ⟨rfl, rfl⟩
  go_wp2_with fail
  refine (lock_epoch_no _).mono ?_
  rintro e w1 ⟨rfl, rfl⟩
  go_wp2_with fail
  refine (lock_works _).mono ?_
  rintro e w1 ⟨rfl, hb⟩
  go_wp2
  go_ret
  exact ⟨rfl, hb⟩

end Go.Proofs.Ytjhfhognacjipaa
