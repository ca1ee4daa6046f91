import Derived.Test.YtcddpmiandgkjaaProg
import Derived.Test.YtcddpmiandgkjaaOpen
/-! The struct types of arguments: a Lean structure for each, its cells, and how a reading gives one. -/
namespace Go.Proofs.Ytcddpmiandgkjaa
set_option maxRecDepth 100000
open Go.ChangeShapes Go.WideShapes Go.ChangeAt Go.RowKit Go.Deep

/-- wardenref22.Value -/
structure S25 where
  Sort_ : Int
  N : Int
  A : Int
  B : Int
  Off : Int
  Gen : Int
instance : Inhabited S25 := ⟨⟨0, 0, 0, 0, 0, 0⟩⟩
def S25.cells (x : S25) : List Value := [.int .u8 x.Sort_, .int .u64 x.N, .int .i64 x.A, .int .i64 x.B, .int .i64 x.Off, .int .u64 x.Gen]
def S25.ok (x : S25) : Prop := (Lit.int .u8 x.Sort_).wf = true ∧ (Lit.int .u64 x.N).wf = true ∧ (Lit.int .i64 x.A).wf = true ∧ (Lit.int .i64 x.B).wf = true ∧ (Lit.int .i64 x.Off).wf = true ∧ (Lit.int .u64 x.Gen).wf = true
theorem S25.shape {H : Type} {enc : TypeId × Value → H} {w : World} {base : Nat} {spare : Nat → Bool} {held : Bool} (fuel : Nat) (cs : List Value) (x : DataW H × List MemPlace)
    (h : DataW.trod enc Try.prog w base spare held fuel 25 cs = some x) : ∃ y : S25, cs = y.cells ∧ y.ok := by
  obtain ⟨xs, n, _, _, hlen, hxl, hf⟩ := DataW.trod_struct Try.underlying25 h
  have hC : Try.prog.cellsOf 25 = 6 := by kernel_rfl
  rw [hC] at hlen
  match cs, hlen with
  | [c0, c1, c2, c3, c4, c5], _ =>
  have hx : xs.length = 6 := hxl
  match xs, hx with
  | [x0, x1, x2, x3, x4, x5], _ =>
  have k0 : Try.prog.cellsOf 5 = 1 := by kernel_rfl
  have g0 : DataW.trod enc Try.prog w base spare held n 5 ((List.drop 0 [c0, c1, c2, c3, c4, c5]).take (Try.prog.cellsOf 5)) = some x0 := hf 0 _ rfl
  rw [k0] at g0
  replace g0 : DataW.trod enc Try.prog w base spare held n 5 [c0] = some x0 := g0
  have k1 : Try.prog.cellsOf 23 = 1 := by kernel_rfl
  have g1 : DataW.trod enc Try.prog w base spare held n 23 ((List.drop 1 [c0, c1, c2, c3, c4, c5]).take (Try.prog.cellsOf 23)) = some x1 := hf 1 _ rfl
  rw [k1] at g1
  replace g1 : DataW.trod enc Try.prog w base spare held n 23 [c1] = some x1 := g1
  have k2 : Try.prog.cellsOf 3 = 1 := by kernel_rfl
  have g2 : DataW.trod enc Try.prog w base spare held n 3 ((List.drop 2 [c0, c1, c2, c3, c4, c5]).take (Try.prog.cellsOf 3)) = some x2 := hf 2 _ rfl
  rw [k2] at g2
  replace g2 : DataW.trod enc Try.prog w base spare held n 3 [c2] = some x2 := g2
  have k3 : Try.prog.cellsOf 3 = 1 := by kernel_rfl
  have g3 : DataW.trod enc Try.prog w base spare held n 3 ((List.drop 3 [c0, c1, c2, c3, c4, c5]).take (Try.prog.cellsOf 3)) = some x3 := hf 3 _ rfl
  rw [k3] at g3
  replace g3 : DataW.trod enc Try.prog w base spare held n 3 [c3] = some x3 := g3
  have k4 : Try.prog.cellsOf 3 = 1 := by kernel_rfl
  have g4 : DataW.trod enc Try.prog w base spare held n 3 ((List.drop 4 [c0, c1, c2, c3, c4, c5]).take (Try.prog.cellsOf 3)) = some x4 := hf 4 _ rfl
  rw [k4] at g4
  replace g4 : DataW.trod enc Try.prog w base spare held n 3 [c4] = some x4 := g4
  have k5 : Try.prog.cellsOf 23 = 1 := by kernel_rfl
  have g5 : DataW.trod enc Try.prog w base spare held n 23 ((List.drop 5 [c0, c1, c2, c3, c4, c5]).take (Try.prog.cellsOf 23)) = some x5 := hf 5 _ rfl
  rw [k5] at g5
  replace g5 : DataW.trod enc Try.prog w base spare held n 23 [c5] = some x5 := g5
  obtain ⟨v0, e0, _, w0⟩ := DataW.trod_int Try.underlying5 g0
  injection e0 with e0 _; subst e0
  obtain ⟨v1, e1, _, w1⟩ := DataW.trod_int Try.underlying23 g1
  injection e1 with e1 _; subst e1
  obtain ⟨v2, e2, _, w2⟩ := DataW.trod_int Try.underlying3 g2
  injection e2 with e2 _; subst e2
  obtain ⟨v3, e3, _, w3⟩ := DataW.trod_int Try.underlying3 g3
  injection e3 with e3 _; subst e3
  obtain ⟨v4, e4, _, w4⟩ := DataW.trod_int Try.underlying3 g4
  injection e4 with e4 _; subst e4
  obtain ⟨v5, e5, _, w5⟩ := DataW.trod_int Try.underlying23 g5
  injection e5 with e5 _; subst e5
  exact ⟨⟨v0, v1, v2, v3, v4, v5⟩, rfl, ⟨w0, w1, w2, w3, w4, w5⟩⟩

/-- wardenlaw23.Call -/
structure S32 where
  Do : Int
  At : Int
  Size : Int
  V : S25
instance : Inhabited S32 := ⟨⟨0, 0, 0, default⟩⟩
def S32.cells (x : S32) : List Value := [.int .u8 x.Do, .int .i64 x.At, .int .i64 x.Size, .int .u8 x.V.Sort_, .int .u64 x.V.N, .int .i64 x.V.A, .int .i64 x.V.B, .int .i64 x.V.Off, .int .u64 x.V.Gen]
def S32.ok (x : S32) : Prop := (Lit.int .u8 x.Do).wf = true ∧ (Lit.int .i64 x.At).wf = true ∧ (Lit.int .i64 x.Size).wf = true ∧ x.V.ok
theorem S32.shape {H : Type} {enc : TypeId × Value → H} {w : World} {base : Nat} {spare : Nat → Bool} {held : Bool} (fuel : Nat) (cs : List Value) (x : DataW H × List MemPlace)
    (h : DataW.trod enc Try.prog w base spare held fuel 32 cs = some x) : ∃ y : S32, cs = y.cells ∧ y.ok := by
  obtain ⟨xs, n, _, _, hlen, hxl, hf⟩ := DataW.trod_struct Try.underlying32 h
  have hC : Try.prog.cellsOf 32 = 9 := by kernel_rfl
  rw [hC] at hlen
  match cs, hlen with
  | [c0, c1, c2, c3, c4, c5, c6, c7, c8], _ =>
  have hx : xs.length = 4 := hxl
  match xs, hx with
  | [x0, x1, x2, x3], _ =>
  have k0 : Try.prog.cellsOf 5 = 1 := by kernel_rfl
  have g0 : DataW.trod enc Try.prog w base spare held n 5 ((List.drop 0 [c0, c1, c2, c3, c4, c5, c6, c7, c8]).take (Try.prog.cellsOf 5)) = some x0 := hf 0 _ rfl
  rw [k0] at g0
  replace g0 : DataW.trod enc Try.prog w base spare held n 5 [c0] = some x0 := g0
  have k1 : Try.prog.cellsOf 3 = 1 := by kernel_rfl
  have g1 : DataW.trod enc Try.prog w base spare held n 3 ((List.drop 1 [c0, c1, c2, c3, c4, c5, c6, c7, c8]).take (Try.prog.cellsOf 3)) = some x1 := hf 1 _ rfl
  rw [k1] at g1
  replace g1 : DataW.trod enc Try.prog w base spare held n 3 [c1] = some x1 := g1
  have k2 : Try.prog.cellsOf 3 = 1 := by kernel_rfl
  have g2 : DataW.trod enc Try.prog w base spare held n 3 ((List.drop 2 [c0, c1, c2, c3, c4, c5, c6, c7, c8]).take (Try.prog.cellsOf 3)) = some x2 := hf 2 _ rfl
  rw [k2] at g2
  replace g2 : DataW.trod enc Try.prog w base spare held n 3 [c2] = some x2 := g2
  have k3 : Try.prog.cellsOf 25 = 6 := by kernel_rfl
  have g3 : DataW.trod enc Try.prog w base spare held n 25 ((List.drop 3 [c0, c1, c2, c3, c4, c5, c6, c7, c8]).take (Try.prog.cellsOf 25)) = some x3 := hf 3 _ rfl
  rw [k3] at g3
  replace g3 : DataW.trod enc Try.prog w base spare held n 25 [c3, c4, c5, c6, c7, c8] = some x3 := g3
  obtain ⟨v0, e0, _, w0⟩ := DataW.trod_int Try.underlying5 g0
  injection e0 with e0 _; subst e0
  obtain ⟨v1, e1, _, w1⟩ := DataW.trod_int Try.underlying3 g1
  injection e1 with e1 _; subst e1
  obtain ⟨v2, e2, _, w2⟩ := DataW.trod_int Try.underlying3 g2
  injection e2 with e2 _; subst e2
  obtain ⟨v3, e3, w3⟩ := S25.shape _ _ _ g3
  simp only [S25.cells, List.cons.injEq, and_true] at e3
  refine ⟨⟨v0, v1, v2, v3⟩, ?_, ⟨w0, w1, w2, w3⟩⟩
  simp [S32.cells, e3]

end Go.Proofs.Ytcddpmiandgkjaa
