import Derived.Test.YtagminbfboncoaaListNo
/-! Package list: the law ListNone. -/
namespace Go.Proofs.Ytagminbfboncoaa
open Go.RowKit Go.Maps
set_option maxHeartbeats 2000000
set_option maxRecDepth 100000
set_option linter.unusedSimpArgs false
set_option linter.unusedVariables false

theorem list_none_walk (w : World) (h : Int × Int) (hok : hOk h) (front : Bool) :
    Calls Try.prog 6 #[.agg #[.int .i64 h.1, .int .u64 h.2], .bool front] w fun e w' => e = .returned (.bool true) ∧ Below w.heap.size w w' := by
  obtain ⟨s, g⟩ := h
  clear hok
  go_enter Try.func6, Try.ntmps6
  go_wp2_with fail
  have R0 : Has (w.alloc (.cells #[.int .i64 s, .int .u64 g] 29)) w.heap.size 29 #[.int .i64 s, .int .u64 g] := Has.new _ _ _
  have t1 : Below w.heap.size w (w.alloc (.cells #[.int .i64 s, .int .u64 g] 29)) := (Below.refl _ w).alloc (Nat.le_refl _) _
  refine (no_pop _ front).mono ?_
  rintro e wA ⟨rfl, t2⟩
  have t1 := below_on t1 t2
  have R0 := R0.below t2 R0.lt
  clear t2
  go_wp2_with fail
  have R1 : Has (wA.alloc (.cells #[.int .i64 0, .int .u64 0] 29)) wA.heap.size 29 #[.int .i64 0, .int .u64 0] := Has.new _ _ _
  have t2 : Below wA.heap.size wA (wA.alloc (.cells #[.int .i64 0, .int .u64 0] 29)) := (Below.refl _ _).alloc (Nat.le_refl _) _
  have t1 := below_on t1 t2
  have R0 := R0.below t2 R0.lt
  clear t2
  refine (no_peek _ front).mono ?_
  rintro e wB ⟨rfl, t2⟩
  have t1 := below_on t1 t2
  have R0 := R0.below t2 R0.lt
  have R1 := R1.below t2 R1.lt
  clear t2
  have c0 : (wB.alloc (.cells #[.int .i64 0, .int .u64 0] 29)).cell? ⟨w.heap.size, 0, none⟩ = some (.int .i64 s) := (R0.alloc _).cell 0
  have c1 : (wB.alloc (.cells #[.int .i64 0, .int .u64 0] 29)).cell? ⟨w.heap.size, 1, none⟩ = some (.int .u64 g) := (R0.alloc _).cell 1
  go_wp2_with fail
  have R2 : Has (wB.alloc (.cells #[.int .i64 0, .int .u64 0] 29)) wB.heap.size 29 #[.int .i64 0, .int .u64 0] := Has.new _ _ _
  have t2 : Below wB.heap.size wB (wB.alloc (.cells #[.int .i64 0, .int .u64 0] 29)) := (Below.refl _ _).alloc (Nat.le_refl _) _
  have t1 := below_on t1 t2
  have R0 := R0.below t2 R0.lt
  have R1 := R1.below t2 R1.lt
  clear t2
  refine (no_next _ s g).mono ?_
  rintro e wC ⟨rfl, t2⟩
  have t1 := below_on t1 t2
  have R0 := R0.below t2 R0.lt
  have R1 := R1.below t2 R1.lt
  have R2 := R2.below t2 R2.lt
  clear t2
  clear c0 c1
  have R3 : Has (wC.alloc (.cells #[.int .i64 0, .int .u64 0] 29)) wC.heap.size 29 #[.int .i64 0, .int .u64 0] := Has.new _ _ _
  have t2 : Below wC.heap.size wC (wC.alloc (.cells #[.int .i64 0, .int .u64 0] 29)) := (Below.refl _ _).alloc (Nat.le_refl _) _
  have t1 := below_on t1 t2
  have R0 := R0.below t2 R0.lt
  have R1 := R1.below t2 R1.lt
  have R2 := R2.below t2 R2.lt
  clear t2
  have cR0 : (wC.alloc (.cells #[.int .i64 0, .int .u64 0] 29)).cell? ⟨w.heap.size, 0, none⟩ = some (.int .i64 s) := R0.cell 0
  have dR0 : (wC.alloc (.cells #[.int .i64 0, .int .u64 0] 29)).cell? ⟨w.heap.size, 1, none⟩ = some (.int .u64 g) := R0.cell 1
  have cR1 : (wC.alloc (.cells #[.int .i64 0, .int .u64 0] 29)).cell? ⟨wA.heap.size, 0, none⟩ = some (.int .i64 0) := R1.cell 0
  have dR1 : (wC.alloc (.cells #[.int .i64 0, .int .u64 0] 29)).cell? ⟨wA.heap.size, 1, none⟩ = some (.int .u64 0) := R1.cell 1
  have cR2 : (wC.alloc (.cells #[.int .i64 0, .int .u64 0] 29)).cell? ⟨wB.heap.size, 0, none⟩ = some (.int .i64 0) := R2.cell 0
  have dR2 : (wC.alloc (.cells #[.int .i64 0, .int .u64 0] 29)).cell? ⟨wB.heap.size, 1, none⟩ = some (.int .u64 0) := R2.cell 1
  have cR3 : (wC.alloc (.cells #[.int .i64 0, .int .u64 0] 29)).cell? ⟨wC.heap.size, 0, none⟩ = some (.int .i64 0) := R3.cell 0
  have dR3 : (wC.alloc (.cells #[.int .i64 0, .int .u64 0] 29)).cell? ⟨wC.heap.size, 1, none⟩ = some (.int .u64 0) := R3.cell 1
  go_wp2_with fail
  refine (no_push _ s g front).mono ?_
  rintro e u1 ⟨rfl, t2⟩
  have t1 := below_on t1 t2
  have R0 := R0.below t2 R0.lt
  have R1 := R1.below t2 R1.lt
  have R2 := R2.below t2 R2.lt
  have R3 := R3.below t2 R3.lt
  clear t2
  clear cR0 dR0 cR1 dR1 cR2 dR2 cR3 dR3
  have cR0 : u1.cell? ⟨w.heap.size, 0, none⟩ = some (.int .i64 s) := R0.cell 0
  have dR0 : u1.cell? ⟨w.heap.size, 1, none⟩ = some (.int .u64 g) := R0.cell 1
  have cR1 : u1.cell? ⟨wA.heap.size, 0, none⟩ = some (.int .i64 0) := R1.cell 0
  have dR1 : u1.cell? ⟨wA.heap.size, 1, none⟩ = some (.int .u64 0) := R1.cell 1
  have cR2 : u1.cell? ⟨wB.heap.size, 0, none⟩ = some (.int .i64 0) := R2.cell 0
  have dR2 : u1.cell? ⟨wB.heap.size, 1, none⟩ = some (.int .u64 0) := R2.cell 1
  have cR3 : u1.cell? ⟨wC.heap.size, 0, none⟩ = some (.int .i64 0) := R3.cell 0
  have dR3 : u1.cell? ⟨wC.heap.size, 1, none⟩ = some (.int .u64 0) := R3.cell 1
  go_wp2_with fail
  refine (no_remove _ s g).mono ?_
  rintro e u2 ⟨rfl, t2⟩
  have t1 := below_on t1 t2
  have R0 := R0.below t2 R0.lt
  have R1 := R1.below t2 R1.lt
  have R2 := R2.below t2 R2.lt
  have R3 := R3.below t2 R3.lt
  clear t2
  clear cR0 dR0 cR1 dR1 cR2 dR2 cR3 dR3
  have cR0 : u2.cell? ⟨w.heap.size, 0, none⟩ = some (.int .i64 s) := R0.cell 0
  have dR0 : u2.cell? ⟨w.heap.size, 1, none⟩ = some (.int .u64 g) := R0.cell 1
  have cR1 : u2.cell? ⟨wA.heap.size, 0, none⟩ = some (.int .i64 0) := R1.cell 0
  have dR1 : u2.cell? ⟨wA.heap.size, 1, none⟩ = some (.int .u64 0) := R1.cell 1
  have cR2 : u2.cell? ⟨wB.heap.size, 0, none⟩ = some (.int .i64 0) := R2.cell 0
  have dR2 : u2.cell? ⟨wB.heap.size, 1, none⟩ = some (.int .u64 0) := R2.cell 1
  have cR3 : u2.cell? ⟨wC.heap.size, 0, none⟩ = some (.int .i64 0) := R3.cell 0
  have dR3 : u2.cell? ⟨wC.heap.size, 1, none⟩ = some (.int .u64 0) := R3.cell 1
  go_wp2_with fail
  refine (no_has _ s g).mono ?_
  rintro e u3 ⟨rfl, t2⟩
  have t1 := below_on t1 t2
  have R0 := R0.below t2 R0.lt
  have R1 := R1.below t2 R1.lt
  have R2 := R2.below t2 R2.lt
  have R3 := R3.below t2 R3.lt
  clear t2
  clear cR0 dR0 cR1 dR1 cR2 dR2 cR3 dR3
  have cR0 : u3.cell? ⟨w.heap.size, 0, none⟩ = some (.int .i64 s) := R0.cell 0
  have dR0 : u3.cell? ⟨w.heap.size, 1, none⟩ = some (.int .u64 g) := R0.cell 1
  have cR1 : u3.cell? ⟨wA.heap.size, 0, none⟩ = some (.int .i64 0) := R1.cell 0
  have dR1 : u3.cell? ⟨wA.heap.size, 1, none⟩ = some (.int .u64 0) := R1.cell 1
  have cR2 : u3.cell? ⟨wB.heap.size, 0, none⟩ = some (.int .i64 0) := R2.cell 0
  have dR2 : u3.cell? ⟨wB.heap.size, 1, none⟩ = some (.int .u64 0) := R2.cell 1
  have cR3 : u3.cell? ⟨wC.heap.size, 0, none⟩ = some (.int .i64 0) := R3.cell 0
  have dR3 : u3.cell? ⟨wC.heap.size, 1, none⟩ = some (.int .u64 0) := R3.cell 1
  go_wp2_with fail
  refine (no_len _).mono ?_
  rintro e u4 ⟨rfl, t2⟩
  have t1 := below_on t1 t2
  have R0 := R0.below t2 R0.lt
  have R1 := R1.below t2 R1.lt
  have R2 := R2.below t2 R2.lt
  have R3 := R3.below t2 R3.lt
  clear t2
  clear cR0 dR0 cR1 dR1 cR2 dR2 cR3 dR3
  have cR0 : u4.cell? ⟨w.heap.size, 0, none⟩ = some (.int .i64 s) := R0.cell 0
  have dR0 : u4.cell? ⟨w.heap.size, 1, none⟩ = some (.int .u64 g) := R0.cell 1
  have cR1 : u4.cell? ⟨wA.heap.size, 0, none⟩ = some (.int .i64 0) := R1.cell 0
  have dR1 : u4.cell? ⟨wA.heap.size, 1, none⟩ = some (.int .u64 0) := R1.cell 1
  have cR2 : u4.cell? ⟨wB.heap.size, 0, none⟩ = some (.int .i64 0) := R2.cell 0
  have dR2 : u4.cell? ⟨wB.heap.size, 1, none⟩ = some (.int .u64 0) := R2.cell 1
  have cR3 : u4.cell? ⟨wC.heap.size, 0, none⟩ = some (.int .i64 0) := R3.cell 0
  have dR3 : u4.cell? ⟨wC.heap.size, 1, none⟩ = some (.int .u64 0) := R3.cell 1
  go_wp2_with fail
  refine (no_all _).mono ?_
  rintro e u5 ⟨rfl, t2⟩
  have t1 := below_on t1 t2
  have R0 := R0.below t2 R0.lt
  have R1 := R1.below t2 R1.lt
  have R2 := R2.below t2 R2.lt
  have R3 := R3.below t2 R3.lt
  clear t2
  clear cR0 dR0 cR1 dR1 cR2 dR2 cR3 dR3
  have cR0 : u5.cell? ⟨w.heap.size, 0, none⟩ = some (.int .i64 s) := R0.cell 0
  have dR0 : u5.cell? ⟨w.heap.size, 1, none⟩ = some (.int .u64 g) := R0.cell 1
  have cR1 : u5.cell? ⟨wA.heap.size, 0, none⟩ = some (.int .i64 0) := R1.cell 0
  have dR1 : u5.cell? ⟨wA.heap.size, 1, none⟩ = some (.int .u64 0) := R1.cell 1
  have cR2 : u5.cell? ⟨wB.heap.size, 0, none⟩ = some (.int .i64 0) := R2.cell 0
  have dR2 : u5.cell? ⟨wB.heap.size, 1, none⟩ = some (.int .u64 0) := R2.cell 1
  have cR3 : u5.cell? ⟨wC.heap.size, 0, none⟩ = some (.int .i64 0) := R3.cell 0
  have dR3 : u5.cell? ⟨wC.heap.size, 1, none⟩ = some (.int .u64 0) := R3.cell 1
  go_wp2_with fail
  refine (list_works _).mono ?_
  rintro e u6 ⟨rfl, t2⟩
  have t1 := below_on t1 t2
  have R0 := R0.below t2 R0.lt
  have R1 := R1.below t2 R1.lt
  have R2 := R2.below t2 R2.lt
  have R3 := R3.below t2 R3.lt
  clear t2
  clear cR0 dR0 cR1 dR1 cR2 dR2 cR3 dR3
  have cR0 : u6.cell? ⟨w.heap.size, 0, none⟩ = some (.int .i64 s) := R0.cell 0
  have dR0 : u6.cell? ⟨w.heap.size, 1, none⟩ = some (.int .u64 g) := R0.cell 1
  have cR1 : u6.cell? ⟨wA.heap.size, 0, none⟩ = some (.int .i64 0) := R1.cell 0
  have dR1 : u6.cell? ⟨wA.heap.size, 1, none⟩ = some (.int .u64 0) := R1.cell 1
  have cR2 : u6.cell? ⟨wB.heap.size, 0, none⟩ = some (.int .i64 0) := R2.cell 0
  have dR2 : u6.cell? ⟨wB.heap.size, 1, none⟩ = some (.int .u64 0) := R2.cell 1
  have cR3 : u6.cell? ⟨wC.heap.size, 0, none⟩ = some (.int .i64 0) := R3.cell 0
  have dR3 : u6.cell? ⟨wC.heap.size, 1, none⟩ = some (.int .u64 0) := R3.cell 1
  go_wp2_with fail
  go_returns
  exact ⟨rfl, t1⟩

end Go.Proofs.Ytagminbfboncoaa
