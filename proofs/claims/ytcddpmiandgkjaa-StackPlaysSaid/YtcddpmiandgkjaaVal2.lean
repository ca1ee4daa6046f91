import Derived.Test.YtcddpmiandgkjaaVal
/-! What package value tells of a value, and what a value is, plain. -/
namespace Go.Proofs.Ytcddpmiandgkjaa
open Go.RowKit
set_option maxHeartbeats 1000000
set_option maxRecDepth 100000

/-- wardenlaw22.Of. -/
theorem val_of (w : World) (v : AV) : Calls Try.prog 28 #[v.enc] w fun e w' => e = .returned v.plain.agg ∧ Below w.heap.size w w' := by
  have a1 := fun w => as_num v w
  have a2 := fun w => as_ctx v w
  have a3 := fun w => as_fp v w
  have a4 := fun w => as_map v w
  have a5 := fun w => as_val v w
  have a6 := fun w => as_obj v w
  have a7 := fun w => as_fun v w
  cases v
  all_goals
    simp only [AV.enc, AV.isNum, AV.isCtx, AV.isFp, AV.isMap, AV.isVal, AV.isObj, AV.isFun] at a1 a2 a3 a4 a5 a6 a7
    simp only [AV.enc, AV.plain, V22.agg, V22.none]
    go_enter Try.func28, Try.ntmps28
    go_wp2_with fail
    go_returns
    refine ⟨rfl, ?_⟩
    first
      | exact (Below.refl _ w).alloc (Nat.le_refl _) _
      | exact ((Below.refl _ w).alloc (Nat.le_refl _) _).alloc (by simp) _
      | exact (((Below.refl _ w).alloc (Nat.le_refl _) _).alloc (by simp) _).alloc (by simp; omega) _

/-- value.Number. -/
theorem val_number (w : World) (v : AV) : Calls Try.prog 32 #[v.enc] w fun e w' => e = .returned v.isNum ∧ w = w' := by
  have a1 := fun w => as_num v w
  cases v
  all_goals
    simp only [AV.enc, AV.isNum] at a1
    simp only [AV.enc, AV.isNum]
    go_enter Try.func32, Try.ntmps32
    go_wp2_with fail
    go_returns
    exact ⟨rfl, rfl⟩

/-- The Off of a pointer. -/
def AV.at : AV → Option Int
  | .ctx o => some o
  | .fp _ o => some o
  | .val _ _ o => some o
  | .obj _ _ o _ => some o
  | _ => none

/-- How a pointer is with another Off: a function, and what it has captured. -/
def AV.clo (b : Nat) : AV → Value
  | .ctx _ => .func (.func 60) #[] #[]
  | .fp _ _ => .func (.func 61) #[] #[.pointer (some ⟨b, 0, none⟩)]
  | .val _ _ _ => .func (.func 62) #[] #[.pointer (some ⟨b, 0, none⟩)]
  | .obj _ _ _ _ => .func (.func 63) #[] #[.pointer (some ⟨b, 0, none⟩)]
  | _ => .nilFunc

/-- The box that it has captured. -/
def AV.Boxed (w : World) (b : Nat) : AV → Prop
  | .fp f o => Has w b 86 #[.int .u64 f, .int .i64 o]
  | .val m s o => Has w b 90 #[.int .i64 m, .int .i64 s, .int .i64 o]
  | .obj s g o r => Has w b 94 #[.int .i64 s, .int .u64 g, .int .i64 o, .int .u64 r]
  | _ => True

theorem Has.last (w : World) (t : TypeId) (cs : Array Value) {k : Nat} (hk : k = w.heap.size) : Has (w.alloc (.cells cs t)) k t cs := hk ▸ Has.new w t cs

theorem val_places (w : World) (v : AV) : Calls Try.prog 52 #[v.enc] w fun e w' =>
    ∃ b, e = .returned (.tuple #[.int .i64 (v.at.getD 0), v.clo b, .bool v.at.isSome]) ∧ w.heap.size ≤ b ∧ v.Boxed w' b ∧ Below w.heap.size w w' := by
  have a2 := fun w => as_ctx v w
  have a3 := fun w => as_fp v w
  have a5 := fun w => as_val v w
  have a6 := fun w => as_obj v w
  have hmf : ∀ (fn : Fn) (first cap : Array Value) (w : World), (Instr.makeFunc fn first cap).run Try.prog w = .ok (.func fn first cap) w := fun _ _ _ _ => rfl
  cases v
  all_goals
    simp only [AV.enc, AV.isCtx, AV.isFp, AV.isVal, AV.isObj] at a2 a3 a5 a6
    simp only [AV.enc, AV.at, AV.clo, AV.Boxed]
    go_enter Try.func52, Try.ntmps52
    go_wp2_with fail
    go_returns
    first
      | exact ⟨w.heap.size, rfl, Nat.le_refl _, trivial, by go_grown⟩
      | exact ⟨w.heap.size + 1, rfl, by omega, Has.last _ _ _ (by simp), by go_grown⟩
      | exact ⟨w.heap.size + 1 + 1, rfl, by omega, Has.last _ _ _ (by simp), by go_grown⟩
      | exact ⟨w.heap.size + 1 + 1 + 1, rfl, by omega, Has.last _ _ _ (by simp), by go_grown⟩

/-- The Off of one that is moved. -/
def AV.to (o : Int) : AV → AV
  | .ctx _ => .ctx o
  | .fp f _ => .fp f o
  | .val m s _ => .val m s o
  | .obj s g _ r => .obj s g o r
  | v => v

theorem val_with_ctx (w : World) (o : Int) : Calls Try.prog 60 #[.int .i64 o] w fun e w' => e = .returned (AV.enc (.ctx o)) ∧ Below w.heap.size w w' := by
  simp only [AV.enc]
  go_enter Try.func60, Try.ntmps60
  go_wp2_with fail
  go_returns
  exact ⟨rfl, by go_grown⟩

theorem val_with_fp (w : World) (b : Nat) (f o p : Int) (h : Has w b 86 #[.int .u64 f, .int .i64 o]) : Calls Try.prog 61 #[.int .i64 p, .pointer (some ⟨b, 0, none⟩)] w fun e w' => e = .returned (AV.enc (.fp f p)) ∧ (∀ B, B ≤ b → B ≤ w.heap.size → Below B w w') := by
  simp only [AV.enc]
  have c0 : w.cell? ⟨b, 0, none⟩ = some (.int .u64 f) := h.cell 0
  have q0 := h.free 0
  have c1 : w.cell? ⟨b, 1, none⟩ = some (.int .i64 o) := h.cell 1
  have q1 := h.free 1
  clear h
  go_enter Try.func61, Try.ntmps61
  go_wp2_with fail
  go_returns
  exact ⟨rfl, fun B hB hw => by first | exact (Below.refl B w).setCell (p := ⟨b, 1, none⟩) hB _ | exact ((Below.refl B w).setCell (p := ⟨b, 1, none⟩) hB _).alloc (by simp; omega) _⟩

theorem val_with_val (w : World) (b : Nat) (m s o p : Int) (h : Has w b 90 #[.int .i64 m, .int .i64 s, .int .i64 o]) : Calls Try.prog 62 #[.int .i64 p, .pointer (some ⟨b, 0, none⟩)] w fun e w' => e = .returned (AV.enc (.val m s p)) ∧ (∀ B, B ≤ b → B ≤ w.heap.size → Below B w w') := by
  simp only [AV.enc]
  have c0 : w.cell? ⟨b, 0, none⟩ = some (.int .i64 m) := h.cell 0
  have q0 := h.free 0
  have c1 : w.cell? ⟨b, 1, none⟩ = some (.int .i64 s) := h.cell 1
  have q1 := h.free 1
  have c2 : w.cell? ⟨b, 2, none⟩ = some (.int .i64 o) := h.cell 2
  have q2 := h.free 2
  clear h
  go_enter Try.func62, Try.ntmps62
  go_wp2_with fail
  go_returns
  exact ⟨rfl, fun B hB hw => by first | exact (Below.refl B w).setCell (p := ⟨b, 2, none⟩) hB _ | exact ((Below.refl B w).setCell (p := ⟨b, 2, none⟩) hB _).alloc (by simp; omega) _⟩

theorem val_with_obj (w : World) (b : Nat) (s g o r p : Int) (h : Has w b 94 #[.int .i64 s, .int .u64 g, .int .i64 o, .int .u64 r]) : Calls Try.prog 63 #[.int .i64 p, .pointer (some ⟨b, 0, none⟩)] w fun e w' => e = .returned (AV.enc (.obj s g p r)) ∧ (∀ B, B ≤ b → B ≤ w.heap.size → Below B w w') := by
  simp only [AV.enc]
  have c0 : w.cell? ⟨b, 0, none⟩ = some (.int .i64 s) := h.cell 0
  have q0 := h.free 0
  have c1 : w.cell? ⟨b, 1, none⟩ = some (.int .u64 g) := h.cell 1
  have q1 := h.free 1
  have c2 : w.cell? ⟨b, 2, none⟩ = some (.int .i64 o) := h.cell 2
  have q2 := h.free 2
  have c3 : w.cell? ⟨b, 3, none⟩ = some (.int .u64 r) := h.cell 3
  have q3 := h.free 3
  clear h
  go_enter Try.func63, Try.ntmps63
  go_wp2_with fail
  go_returns
  exact ⟨rfl, fun B hB hw => by first | exact (Below.refl B w).setCell (p := ⟨b, 2, none⟩) hB _ | exact ((Below.refl B w).setCell (p := ⟨b, 2, none⟩) hB _).alloc (by simp; omega) _⟩

end Go.Proofs.Ytcddpmiandgkjaa
