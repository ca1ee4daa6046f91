import Derived.Test.YtdlgipoaimgbpaaKfunRef
/-! wardenref25.Of: the document's answer, walked by hand. -/
namespace Go.Proofs.Ytdlgipoaimgbpaa
open Go.RowKit Go.Shelf
set_option maxHeartbeats 4000000
set_option maxRecDepth 100000
set_option linter.unusedSimpArgs false
set_option linter.unusedVariables false

theorem kfK_marks (id : Int) (h : 1 ≤ id ∧ id ≤ 17) : (kfK id).lk = decide (8 ≤ id) ∧ (kfK id).un = (decide (8 ≤ id) || (id == 5)) := by
  have hc : id = 1 ∨ id = 2 ∨ id = 3 ∨ id = 4 ∨ id = 5 ∨ id = 6 ∨ id = 7 ∨ id = 8 ∨ id = 9 ∨ id = 10 ∨ id = 11 ∨ id = 12 ∨ id = 13 ∨ id = 14 ∨ id = 15 ∨ id = 16 ∨ id = 17 := by omega
  rcases hc with rfl | rfl | rfl | rfl | rfl | rfl | rfl | rfl | rfl | rfl | rfl | rfl | rfl | rfl | rfl | rfl | rfl <;> decide

theorem ref_kof (w : World) (id : Int) : Calls Try.prog 17 #[.int .i32 id] w fun e w' => ∃ v0, e = .returned (.tuple #[.agg #[v0, .int .u8 (kfK id).gives, .bool (kfK id).lk, .bool (kfK id).un], .bool (decide (1 ≤ id ∧ id ≤ 17))]) ∧ Arg w.heap.size (kfK id).args v0 w' ∧ Below w.heap.size w w' := by
  by_cases h : 1 ≤ id ∧ id ≤ 17
  · rw [decide_eq_true h]
    obtain ⟨m1, m2⟩ := kfK_marks id h
    rw [m1, m2]
    clear m1 m2
    have d1 : decide (id < 1) = false := decide_eq_false (by omega)
    have d2 : decide (17 < id) = false := decide_eq_false (by omega)
    rcases (show 8 ≤ id ∨ (id < 8 ∧ id = 5) ∨ (id < 8 ∧ id ≠ 5) by omega) with h8 | ⟨h8, h5⟩ | ⟨h8, h5⟩
    · have e8 : decide (8 ≤ id) = true := decide_eq_true h8
      rw [e8, Bool.true_or]
      clear h h8
      go_enter Try.func17, Try.ntmps17
      go_wp2_with fail
      refine (ref_kargs _ _).mono ?_
      rintro e w1 ⟨v, rfl, hA, hb⟩
      obtain ⟨A, m, c, rfl⟩ := Arg.slice hA
      have hH := (Has.new w 37 #[.slice none 0 0, .int .u8 0, .bool false, .bool false]).below hb (by simp)
      have B1 := hide (((Below.refl _ w).alloc (Nat.le_refl _) _).trans (hb.mono (by simp)))
      have HA := hide (hA.weaken (B' := w.heap.size + 1) (by simp))
      have HH := hide hH
      have hlt := hH.lt
      clear hb hA hH
      go_wp2_with fail
      refine (ref_kgives _ _).mono ?_
      rintro e w2 ⟨rfl, rfl⟩
      have c0 : w1.cell? ⟨w.heap.size, 0, none⟩ = some (.slice none 0 0) := HH.out.cell 0
      have c1 : w1.cell? ⟨w.heap.size, 1, none⟩ = some (.int .u8 0) := HH.out.cell 1
      have c2 : w1.cell? ⟨w.heap.size, 2, none⟩ = some (.bool false) := HH.out.cell 2
      have c3 : w1.cell? ⟨w.heap.size, 3, none⟩ = some (.bool false) := HH.out.cell 3
      have q0 := HH.out.free 0
      have q1 := HH.out.free 1
      have q2 := HH.out.free 2
      have q3 := HH.out.free 3
      go_wp2_with fail
      refine bodyPost_ret (by simp [results, Try.results17, go_sem, c0, c1, c2, c3]; rfl) rfl ?_
      refine ⟨_, rfl, ((((HA.out.far (p := ⟨w.heap.size, 0, none⟩) (by simp) _).far (p := ⟨w.heap.size, 1, none⟩) (by simp) _).far (p := ⟨w.heap.size, 2, none⟩) (by simp) _).far (p := ⟨w.heap.size, 3, none⟩) (by simp) _).weaken (by simp), ?_⟩
      exact (((B1.out.setCell (p := ⟨w.heap.size, 0, none⟩) (by simp) _).setCell (p := ⟨w.heap.size, 1, none⟩) (by simp) _).setCell (p := ⟨w.heap.size, 2, none⟩) (by simp) _).setCell (p := ⟨w.heap.size, 3, none⟩) (by simp) _
    · subst h5
      clear h h8 d1 d2
      go_enter Try.func17, Try.ntmps17
      go_wp2_with fail
      refine (ref_kargs _ _).mono ?_
      rintro e w1 ⟨v, rfl, hA, hb⟩
      obtain ⟨A, m, c, rfl⟩ := Arg.slice hA
      have hH := (Has.new w 37 #[.slice none 0 0, .int .u8 0, .bool false, .bool false]).below hb (by simp)
      have B1 := hide (((Below.refl _ w).alloc (Nat.le_refl _) _).trans (hb.mono (by simp)))
      have HA := hide (hA.weaken (B' := w.heap.size + 1) (by simp))
      have HH := hide hH
      have hlt := hH.lt
      clear hb hA hH
      go_wp2_with fail
      refine (ref_kgives _ _).mono ?_
      rintro e w2 ⟨rfl, rfl⟩
      have c0 : w1.cell? ⟨w.heap.size, 0, none⟩ = some (.slice none 0 0) := HH.out.cell 0
      have c1 : w1.cell? ⟨w.heap.size, 1, none⟩ = some (.int .u8 0) := HH.out.cell 1
      have c2 : w1.cell? ⟨w.heap.size, 2, none⟩ = some (.bool false) := HH.out.cell 2
      have c3 : w1.cell? ⟨w.heap.size, 3, none⟩ = some (.bool false) := HH.out.cell 3
      have q0 := HH.out.free 0
      have q1 := HH.out.free 1
      have q2 := HH.out.free 2
      have q3 := HH.out.free 3
      go_wp2_with fail
      refine bodyPost_ret (by simp [results, Try.results17, go_sem, c0, c1, c2, c3]; rfl) rfl ?_
      refine ⟨_, rfl, ((((HA.out.far (p := ⟨w.heap.size, 0, none⟩) (by simp) _).far (p := ⟨w.heap.size, 1, none⟩) (by simp) _).far (p := ⟨w.heap.size, 2, none⟩) (by simp) _).far (p := ⟨w.heap.size, 3, none⟩) (by simp) _).weaken (by simp), ?_⟩
      exact (((B1.out.setCell (p := ⟨w.heap.size, 0, none⟩) (by simp) _).setCell (p := ⟨w.heap.size, 1, none⟩) (by simp) _).setCell (p := ⟨w.heap.size, 2, none⟩) (by simp) _).setCell (p := ⟨w.heap.size, 3, none⟩) (by simp) _
    · have e8 : decide (8 ≤ id) = false := decide_eq_false (by omega)
      have e5 : (id == 5) = false := beq_eq_false_iff_ne.2 h5
      rw [e8, e5, Bool.false_or]
      clear h h8 h5
      go_enter Try.func17, Try.ntmps17
      go_wp2_with fail
      refine (ref_kargs _ _).mono ?_
      rintro e w1 ⟨v, rfl, hA, hb⟩
      obtain ⟨A, m, c, rfl⟩ := Arg.slice hA
      have hH := (Has.new w 37 #[.slice none 0 0, .int .u8 0, .bool false, .bool false]).below hb (by simp)
      have B1 := hide (((Below.refl _ w).alloc (Nat.le_refl _) _).trans (hb.mono (by simp)))
      have HA := hide (hA.weaken (B' := w.heap.size + 1) (by simp))
      have HH := hide hH
      have hlt := hH.lt
      clear hb hA hH
      go_wp2_with fail
      refine (ref_kgives _ _).mono ?_
      rintro e w2 ⟨rfl, rfl⟩
      have c0 : w1.cell? ⟨w.heap.size, 0, none⟩ = some (.slice none 0 0) := HH.out.cell 0
      have c1 : w1.cell? ⟨w.heap.size, 1, none⟩ = some (.int .u8 0) := HH.out.cell 1
      have c2 : w1.cell? ⟨w.heap.size, 2, none⟩ = some (.bool false) := HH.out.cell 2
      have c3 : w1.cell? ⟨w.heap.size, 3, none⟩ = some (.bool false) := HH.out.cell 3
      have q0 := HH.out.free 0
      have q1 := HH.out.free 1
      have q2 := HH.out.free 2
      have q3 := HH.out.free 3
      go_wp2_with fail
      refine bodyPost_ret (by simp [results, Try.results17, go_sem, c0, c1, c2, c3]; rfl) rfl ?_
      refine ⟨_, rfl, ((((HA.out.far (p := ⟨w.heap.size, 0, none⟩) (by simp) _).far (p := ⟨w.heap.size, 1, none⟩) (by simp) _).far (p := ⟨w.heap.size, 2, none⟩) (by simp) _).far (p := ⟨w.heap.size, 3, none⟩) (by simp) _).weaken (by simp), ?_⟩
      exact (((B1.out.setCell (p := ⟨w.heap.size, 0, none⟩) (by simp) _).setCell (p := ⟨w.heap.size, 1, none⟩) (by simp) _).setCell (p := ⟨w.heap.size, 2, none⟩) (by simp) _).setCell (p := ⟨w.heap.size, 3, none⟩) (by simp) _
  · have hK : kfK id = KF.none := by unfold kfK; rw [if_neg h]
    rw [decide_eq_false h, hK]
    rcases (show id < 1 ∨ 17 < id by omega) with h1 | h1
    · have d1 : decide (id < 1) = true := decide_eq_true h1
      clear h h1 hK
      go_enter Try.func17, Try.ntmps17
      go_wp2_with fail
      go_returns
      exact ⟨_, rfl, .inl ⟨rfl, rfl⟩, (Below.refl _ w).alloc (Nat.le_refl _) _⟩
    · have d1 : decide (id < 1) = false := decide_eq_false (by omega)
      have d2 : decide (17 < id) = true := decide_eq_true h1
      clear h h1 hK
      go_enter Try.func17, Try.ntmps17
      go_wp2_with fail
      go_returns
      exact ⟨_, rfl, .inl ⟨rfl, rfl⟩, (Below.refl _ w).alloc (Nat.le_refl _) _⟩

end Go.Proofs.Ytdlgipoaimgbpaa
