import Derived.Test.YtcddpmiandgkjaaProg
import Derived.Test.YtcddpmiandgkjaaBase
import Derived.Laws.StructEq
import Derived.WideLaws
import Derived.Handy
/-! Values of registers: what stands in an any, and the type assertions on it. -/
namespace Go.Proofs.Ytcddpmiandgkjaa
open Go.RowKit
set_option maxHeartbeats 1000000
set_option maxRecDepth 100000

/-- A register's value: none, a text (of no sort), a number, or one of the pointers, maps, functions. -/
inductive AV where
  | nil
  | text (t : ByteArray)
  | num (n : Int)
  | ctx (o : Int)
  | fp (f o : Int)
  | map (i : Int)
  | val (m s o : Int)
  | obj (s g o r : Int)
  | fn (a : Int)
  deriving DecidableEq

/-- How it stands in an any. -/
def AV.enc : AV → Value
  | .nil => .nilIface
  | .text t => .iface 9 (.string t)
  | .num n => .iface 55 (.int .u64 n)
  | .ctx o => .iface 80 (.agg #[.int .i64 o])
  | .fp f o => .iface 86 (.agg #[.int .u64 f, .int .i64 o])
  | .map i => .iface 88 (.agg #[.int .i64 i])
  | .val m s o => .iface 90 (.agg #[.int .i64 m, .int .i64 s, .int .i64 o])
  | .obj s g o r => .iface 94 (.agg #[.int .i64 s, .int .u64 g, .int .i64 o, .int .u64 r])
  | .fn a => .iface 57 (.agg #[.int .i64 a])

/-- The document's value. -/
structure V22 where
  sort : Int
  n : Int
  a : Int
  b : Int
  off : Int
  gen : Int
  deriving DecidableEq

def V22.none : V22 := ⟨0, 0, 0, 0, 0, 0⟩
def V22.agg (v : V22) : Value := .agg #[.int .u8 v.sort, .int .u64 v.n, .int .i64 v.a, .int .i64 v.b, .int .i64 v.off, .int .u64 v.gen]

/-- What a document's value is. -/
def V22.av (v : V22) : AV :=
  if v.sort = 0 then .nil else if v.sort = 1 then .num v.n else if v.sort = 2 then .ctx v.off else if v.sort = 3 then .fp v.n v.off else
  if v.sort = 4 then .map v.a else if v.sort = 5 then .val v.a v.b v.off else if v.sort = 6 then .obj v.a v.gen v.off v.n else if v.sort = 7 then .fn v.a else .text ⟨#[110, 111, 110, 101]⟩

/-- The document's value of what stands in an any. -/
def AV.plain : AV → V22
  | .nil => V22.none
  | .text _ => V22.none
  | .num n => ⟨1, n, 0, 0, 0, 0⟩
  | .ctx o => ⟨2, 0, 0, 0, o, 0⟩
  | .fp f o => ⟨3, f, 0, 0, o, 0⟩
  | .map i => ⟨4, 0, i, 0, 0, 0⟩
  | .val m s o => ⟨5, 0, m, s, o, 0⟩
  | .obj s g o r => ⟨6, r, s, 0, o, g⟩
  | .fn a => ⟨7, 0, a, 0, 0, 0⟩

def AV.isNum : AV → Value
  | .num n => .tuple #[.int .u64 n, .bool true]
  | _ => .tuple #[.int .u64 0, .bool false]
def AV.isCtx : AV → Value
  | .ctx o => .tuple #[.agg #[.int .i64 o], .bool true]
  | _ => .tuple #[.agg #[.int .i64 0], .bool false]
def AV.isFp : AV → Value
  | .fp f o => .tuple #[.agg #[.int .u64 f, .int .i64 o], .bool true]
  | _ => .tuple #[.agg #[.int .u64 0, .int .i64 0], .bool false]
def AV.isMap : AV → Value
  | .map i => .tuple #[.agg #[.int .i64 i], .bool true]
  | _ => .tuple #[.agg #[.int .i64 0], .bool false]
def AV.isVal : AV → Value
  | .val m s o => .tuple #[.agg #[.int .i64 m, .int .i64 s, .int .i64 o], .bool true]
  | _ => .tuple #[.agg #[.int .i64 0, .int .i64 0, .int .i64 0], .bool false]
def AV.isObj : AV → Value
  | .obj s g o r => .tuple #[.agg #[.int .i64 s, .int .u64 g, .int .i64 o, .int .u64 r], .bool true]
  | _ => .tuple #[.agg #[.int .i64 0, .int .u64 0, .int .i64 0, .int .u64 0], .bool false]
def AV.isFun : AV → Value
  | .fn a => .tuple #[.agg #[.int .i64 a], .bool true]
  | _ => .tuple #[.agg #[.int .i64 0], .bool false]

theorem as_num (v : AV) (w : World) : (Instr.typeAssert v.enc 20 55 true).run Try.prog w = .ok v.isNum w := by cases v <;> kernel_rfl
theorem as_ctx (v : AV) (w : World) : (Instr.typeAssert v.enc 20 80 true).run Try.prog w = .ok v.isCtx w := by cases v <;> kernel_rfl
theorem as_fp (v : AV) (w : World) : (Instr.typeAssert v.enc 20 86 true).run Try.prog w = .ok v.isFp w := by cases v <;> kernel_rfl
theorem as_map (v : AV) (w : World) : (Instr.typeAssert v.enc 20 88 true).run Try.prog w = .ok v.isMap w := by cases v <;> kernel_rfl
theorem as_val (v : AV) (w : World) : (Instr.typeAssert v.enc 20 90 true).run Try.prog w = .ok v.isVal w := by cases v <;> kernel_rfl
theorem as_obj (v : AV) (w : World) : (Instr.typeAssert v.enc 20 94 true).run Try.prog w = .ok v.isObj w := by cases v <;> kernel_rfl
theorem as_fun (v : AV) (w : World) : (Instr.typeAssert v.enc 20 57 true).run Try.prog w = .ok v.isFun w := by cases v <;> kernel_rfl

/-- wardenlaw22.Any. -/
theorem val_any (w : World) (v : V22) : Calls Try.prog 13 #[v.agg] w fun e w' => e = .returned v.av.enc ∧ Below w.heap.size w w' := by
  obtain ⟨s, n, a, b, o, g⟩ := v
  unfold V22.agg V22.av
  simp only []
  by_cases h : s = 0 ∨ s = 1 ∨ s = 2 ∨ s = 3 ∨ s = 4 ∨ s = 5 ∨ s = 6 ∨ s = 7
  · rcases h with rfl | rfl | rfl | rfl | rfl | rfl | rfl | rfl
    all_goals
      go_enter Try.func13, Try.ntmps13
      go_wp2_with fail
      go_ret
      exact ⟨rfl, (Below.refl _ w).alloc (Nat.le_refl _) _⟩
  · have h0 : (s == 0) = false := beq_eq_false_iff_ne.2 (by omega)
    have h1 : (s == 1) = false := beq_eq_false_iff_ne.2 (by omega)
    have h2 : (s == 2) = false := beq_eq_false_iff_ne.2 (by omega)
    have h3 : (s == 3) = false := beq_eq_false_iff_ne.2 (by omega)
    have h4 : (s == 4) = false := beq_eq_false_iff_ne.2 (by omega)
    have h5 : (s == 5) = false := beq_eq_false_iff_ne.2 (by omega)
    have h6 : (s == 6) = false := beq_eq_false_iff_ne.2 (by omega)
    have h7 : (s == 7) = false := beq_eq_false_iff_ne.2 (by omega)
    rw [if_neg (by omega), if_neg (by omega), if_neg (by omega), if_neg (by omega), if_neg (by omega), if_neg (by omega), if_neg (by omega), if_neg (by omega)]
    clear h
    go_enter Try.func13, Try.ntmps13
    go_wp2_with fail
    go_ret
    exact ⟨rfl, (Below.refl _ w).alloc (Nat.le_refl _) _⟩

/-- wardenref22.Clean. -/
theorem val_clean (w : World) (v : V22) : Calls Try.prog 14 #[v.agg] w fun e w' => e = .returned v.av.plain.agg ∧ Below w.heap.size w w' := by
  obtain ⟨s, n, a, b, o, g⟩ := v
  unfold V22.agg V22.av
  simp only []
  by_cases h : s = 0 ∨ s = 1 ∨ s = 2 ∨ s = 3 ∨ s = 4 ∨ s = 5 ∨ s = 6 ∨ s = 7
  · rcases h with rfl | rfl | rfl | rfl | rfl | rfl | rfl | rfl
    all_goals
      go_enter Try.func14, Try.ntmps14
      go_wp2_with fail
      go_returns
      exact ⟨rfl, (((Below.refl _ w).alloc (Nat.le_refl _) _).alloc (by simp) _).alloc (by simp; omega) _⟩
  · have h0 : (s == 0) = false := beq_eq_false_iff_ne.2 (by omega)
    have h1 : (s == 1) = false := beq_eq_false_iff_ne.2 (by omega)
    have h2 : (s == 2) = false := beq_eq_false_iff_ne.2 (by omega)
    have h3 : (s == 3) = false := beq_eq_false_iff_ne.2 (by omega)
    have h4 : (s == 4) = false := beq_eq_false_iff_ne.2 (by omega)
    have h5 : (s == 5) = false := beq_eq_false_iff_ne.2 (by omega)
    have h6 : (s == 6) = false := beq_eq_false_iff_ne.2 (by omega)
    have h7 : (s == 7) = false := beq_eq_false_iff_ne.2 (by omega)
    rw [if_neg (by omega), if_neg (by omega), if_neg (by omega), if_neg (by omega), if_neg (by omega), if_neg (by omega), if_neg (by omega), if_neg (by omega)]
    clear h
    go_enter Try.func14, Try.ntmps14
    go_wp2_with fail
    go_returns
    exact ⟨rfl, (((Below.refl _ w).alloc (Nat.le_refl _) _).alloc (by simp) _).alloc (by simp; omega) _⟩

end Go.Proofs.Ytcddpmiandgkjaa
