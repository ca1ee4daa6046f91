import Derived.Test.YtagminbfboncoaaProg
import Derived.Test.YtagminbfboncoaaOpen
/-! The struct types of arguments: a Lean structure for each, its cells, and how a reading gives one. -/
namespace Go.Proofs.Ytagminbfboncoaa
set_option maxRecDepth 100000
open Go.ChangeShapes Go.WideShapes Go.ChangeAt Go.RowKit Go.Deep

/-- api.Handle -/
structure S29 where
  Slot : Int
  Gen : Int
instance : Inhabited S29 := ⟨⟨0, 0⟩⟩
def S29.cells (x : S29) : List Value := [.int .i64 x.Slot, .int .u64 x.Gen]
def S29.ok (x : S29) : Prop := (Lit.int .i64 x.Slot).wf = true ∧ (Lit.int .u64 x.Gen).wf = true
theorem S29.shape {H : Type} {enc : TypeId × Value → H} {w : World} {base : Nat} {spare : Nat → Bool} {held : Bool} (fuel : Nat) (cs : List Value) (x : DataW H × List MemPlace)
    (h : DataW.trod enc Try.prog w base spare held fuel 29 cs = some x) : ∃ y : S29, cs = y.cells ∧ y.ok := by
  obtain ⟨xs, n, _, _, hlen, hxl, hf⟩ := DataW.trod_struct Try.underlying29 h
  have hC : Try.prog.cellsOf 29 = 2 := by kernel_rfl
  rw [hC] at hlen
  match cs, hlen with
  | [c0, c1], _ =>
  have hx : xs.length = 2 := hxl
  match xs, hx with
  | [x0, x1], _ =>
  have k0 : Try.prog.cellsOf 3 = 1 := by kernel_rfl
  have g0 : DataW.trod enc Try.prog w base spare held n 3 ((List.drop 0 [c0, c1]).take (Try.prog.cellsOf 3)) = some x0 := hf 0 _ rfl
  rw [k0] at g0
  replace g0 : DataW.trod enc Try.prog w base spare held n 3 [c0] = some x0 := g0
  have k1 : Try.prog.cellsOf 27 = 1 := by kernel_rfl
  have g1 : DataW.trod enc Try.prog w base spare held n 27 ((List.drop 1 [c0, c1]).take (Try.prog.cellsOf 27)) = some x1 := hf 1 _ rfl
  rw [k1] at g1
  replace g1 : DataW.trod enc Try.prog w base spare held n 27 [c1] = some x1 := g1
  obtain ⟨v0, e0, _, w0⟩ := DataW.trod_int Try.underlying3 g0
  injection e0 with e0 _; subst e0
  obtain ⟨v1, e1, _, w1⟩ := DataW.trod_int Try.underlying27 g1
  injection e1 with e1 _; subst e1
  exact ⟨⟨v0, v1⟩, rfl, ⟨w0, w1⟩⟩

/-- wardenlaw15.Step -/
structure S42 where
  Do : Int
  H : S29
  Front : Bool
instance : Inhabited S42 := ⟨⟨0, default, false⟩⟩
def S42.cells (x : S42) : List Value := [.int .i64 x.Do, .int .i64 x.H.Slot, .int .u64 x.H.Gen, .bool x.Front]
def S42.ok (x : S42) : Prop := (Lit.int .i64 x.Do).wf = true ∧ x.H.ok
theorem S42.shape {H : Type} {enc : TypeId × Value → H} {w : World} {base : Nat} {spare : Nat → Bool} {held : Bool} (fuel : Nat) (cs : List Value) (x : DataW H × List MemPlace)
    (h : DataW.trod enc Try.prog w base spare held fuel 42 cs = some x) : ∃ y : S42, cs = y.cells ∧ y.ok := by
  obtain ⟨xs, n, _, _, hlen, hxl, hf⟩ := DataW.trod_struct Try.underlying42 h
  have hC : Try.prog.cellsOf 42 = 4 := by kernel_rfl
  rw [hC] at hlen
  match cs, hlen with
  | [c0, c1, c2, c3], _ =>
  have hx : xs.length = 3 := hxl
  match xs, hx with
  | [x0, x1, x2], _ =>
  have k0 : Try.prog.cellsOf 3 = 1 := by kernel_rfl
  have g0 : DataW.trod enc Try.prog w base spare held n 3 ((List.drop 0 [c0, c1, c2, c3]).take (Try.prog.cellsOf 3)) = some x0 := hf 0 _ rfl
  rw [k0] at g0
  replace g0 : DataW.trod enc Try.prog w base spare held n 3 [c0] = some x0 := g0
  have k1 : Try.prog.cellsOf 29 = 2 := by kernel_rfl
  have g1 : DataW.trod enc Try.prog w base spare held n 29 ((List.drop 1 [c0, c1, c2, c3]).take (Try.prog.cellsOf 29)) = some x1 := hf 1 _ rfl
  rw [k1] at g1
  replace g1 : DataW.trod enc Try.prog w base spare held n 29 [c1, c2] = some x1 := g1
  have k2 : Try.prog.cellsOf 4 = 1 := by kernel_rfl
  have g2 : DataW.trod enc Try.prog w base spare held n 4 ((List.drop 3 [c0, c1, c2, c3]).take (Try.prog.cellsOf 4)) = some x2 := hf 2 _ rfl
  rw [k2] at g2
  replace g2 : DataW.trod enc Try.prog w base spare held n 4 [c3] = some x2 := g2
  obtain ⟨v0, e0, _, w0⟩ := DataW.trod_int Try.underlying3 g0
  injection e0 with e0 _; subst e0
  obtain ⟨v1, e1, w1⟩ := S29.shape _ _ _ g1
  obtain ⟨v2, e2, _⟩ := DataW.trod_bool Try.underlying4 g2
  injection e2 with e2 _; subst e2
  simp only [S29.cells, List.cons.injEq, and_true] at e1
  refine ⟨⟨v0, v1, v2⟩, ?_, ⟨w0, w1⟩⟩
  simp [S42.cells, e1]

end Go.Proofs.Ytagminbfboncoaa
