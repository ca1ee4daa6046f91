import Derived.Test.YtcddpmiandgkjaaVal3
/-! value.Moved, wardenlaw22.Is, value.Must, and what panics. -/
namespace Go.Proofs.Ytcddpmiandgkjaa
open Go.RowKit
set_option maxHeartbeats 1000000
set_option maxRecDepth 100000

theorem eq_v22 (w : World) (s n x y o g s2 n2 x2 y2 o2 g2 : Int) : (binOp .eql 25 (.agg #[.int .u8 s, .int .u64 n, .int .i64 x, .int .i64 y, .int .i64 o, .int .u64 g]) (.agg #[.int .u8 s2, .int .u64 n2, .int .i64 x2, .int .i64 y2, .int .i64 o2, .int .u64 g2])).run Try.prog w = .ok (.bool (decide ((⟨s, n, x, y, o, g⟩ : V22) = ⟨s2, n2, x2, y2, o2, g2⟩))) w := by
  go_simp
  (repeat' split) <;> simp [*]

/-- wardenlaw22.Is. -/
theorem val_law_is (w : World) (a : AV) (v : V22) : Calls Try.prog 16 #[a.enc, v.agg] w fun e w' => e = .returned (.bool (decide (a.plain = v))) ∧ Below w.heap.size w w' := by
  obtain ⟨P, hP⟩ : ∃ P, P = a.plain := ⟨_, rfl⟩
  have hc := fun w => val_of w a
  rw [← hP] at hc ⊢
  have HP := hide hP
  clear hP
  obtain ⟨s, n, x, y, o, g⟩ := v
  obtain ⟨s2, n2, x2, y2, o2, g2⟩ := P
  unfold V22.agg at hc ⊢
  simp only [] at hc ⊢
  have HC := hide hc
  clear hc
  have E := fun w => eq_v22 w s2 n2 x2 y2 o2 g2 s n x y o g
  generalize decide ((⟨s2, n2, x2, y2, o2, g2⟩ : V22) = ⟨s, n, x, y, o, g⟩) = r at E ⊢
  go_enter Try.func16, Try.ntmps16
  go_wp2_with fail
  have hH := Has.new w 25 #[.int .u8 s, .int .u64 n, .int .i64 x, .int .i64 y, .int .i64 o, .int .u64 g]
  have B0 := hide ((Below.refl w.heap.size w).alloc (Nat.le_refl _) (.cells #[.int .u8 s, .int .u64 n, .int .i64 x, .int .i64 y, .int .i64 o, .int .u64 g] 25))
  have hlt := hH.lt
  generalize w.alloc (.cells #[.int .u8 s, .int .u64 n, .int .i64 x, .int .i64 y, .int .i64 o, .int .u64 g] 25) = W0 at *
  generalize hq : w.heap.size = q at *
  have hq := hide hq
  have c0 : W0.cell? ⟨q, 0, none⟩ = some (.int .u8 s) := hH.cell 0
  have c1 : W0.cell? ⟨q, 1, none⟩ = some (.int .u64 n) := hH.cell 1
  have c2 : W0.cell? ⟨q, 2, none⟩ = some (.int .i64 x) := hH.cell 2
  have c3 : W0.cell? ⟨q, 3, none⟩ = some (.int .i64 y) := hH.cell 3
  have c4 : W0.cell? ⟨q, 4, none⟩ = some (.int .i64 o) := hH.cell 4
  have c5 : W0.cell? ⟨q, 5, none⟩ = some (.int .u64 g) := hH.cell 5
  clear hH
  go_region_held3 (fun w' => w'.cell? ⟨q, 0, none⟩ = some (.int .u8 s) ∧ w'.cell? ⟨q, 1, none⟩ = some (.int .u64 n) ∧ w'.cell? ⟨q, 2, none⟩ = some (.int .i64 x) ∧ w'.cell? ⟨q, 3, none⟩ = some (.int .i64 y) ∧ w'.cell? ⟨q, 4, none⟩ = some (.int .i64 o) ∧ w'.cell? ⟨q, 5, none⟩ = some (.int .u64 g))
    (first
      | go_keep
      | (go_split_ands; exact ⟨t5.cell (by assumption) (fun h => h), t5.cell (by assumption) (fun h => h), t5.cell (by assumption) (fun h => h), t5.cell (by assumption) (fun h => h), t5.cell (by assumption) (fun h => h), t5.cell (by assumption) (fun h => h)⟩))
    (first | (go_at_call 28; refine (HC.out _).mono ?_; rintro e w4 ⟨rfl, hb⟩; have t5 := Turned.of_below (S := fun _ => False) hb; clear hb))
  have B := B0.out.trans ((Below.drew (Below.refl q W0)).trans (t5.below (B := q) (Nat.le_of_lt hlt) (fun k h => h.elim)))
  rw [show q = w.heap.size from hq.out.symm] at B
  clear E
  go_wp2_with fail
  go_returns
  exact ⟨rfl, B⟩

/-- near. -/
theorem val_near (w : World) (o : Int) : Calls Try.prog 53 #[.int .i64 o] w fun e w' => e = .returned (.bool (decide (-536870912 ≤ o ∧ o ≤ 536870912))) ∧ w = w' := by
  by_cases h1 : -536870912 ≤ o
  · by_cases h2 : o ≤ 536870912
    · rw [decide_eq_true (show -536870912 ≤ o ∧ o ≤ 536870912 from ⟨h1, h2⟩)]
      have d1 : decide (-536870912 ≤ o) = true := decide_eq_true h1
      have d2 : decide (o ≤ 536870912) = true := decide_eq_true h2
      go_enter Try.func53, Try.ntmps53
      go_wp2_with fail
      go_returns
      exact ⟨rfl, rfl⟩
    · rw [decide_eq_false (show ¬ (-536870912 ≤ o ∧ o ≤ 536870912) from fun h => h2 h.2)]
      have d1 : decide (-536870912 ≤ o) = true := decide_eq_true h1
      have d2 : decide (o ≤ 536870912) = false := decide_eq_false h2
      go_enter Try.func53, Try.ntmps53
      go_wp2_with fail
      go_returns
      exact ⟨rfl, rfl⟩
  · rw [decide_eq_false (show ¬ (-536870912 ≤ o ∧ o ≤ 536870912) from fun h => h1 h.1)]
    have d1 : decide (-536870912 ≤ o) = false := decide_eq_false h1
    go_enter Try.func53, Try.ntmps53
    go_wp2_with fail
    go_returns
    exact ⟨rfl, rfl⟩

end Go.Proofs.Ytcddpmiandgkjaa
