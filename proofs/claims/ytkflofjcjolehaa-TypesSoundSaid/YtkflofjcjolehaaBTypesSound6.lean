/- Types: lemmas on what the functions that the laws reach answer. No conditions of their own beyond those that each theorem states. -/
import Derived.Test.YtkflofjcjolehaaProg
import Derived.Test.YtkflofjcjolehaaBig1
/-! The struct types of arguments: a Lean structure for each, its cells, and how a reading gives one. -/
namespace Go.Proofs.Ytkflofjcjolehaa
set_option maxRecDepth 100000
open Go.ChangeShapes Go.WideShapes Go.ChangeAt Go.RowKit Go.Deep

/-- api.Field -/
structure S46 where
  Name : ByteArray
  Kind : Int
  At : Int
  Of : Int
  Node : Int
instance : Inhabited S46 := ⟨⟨ByteArray.empty, 0, 0, 0, 0⟩⟩
def S46.cells (x : S46) : List Value := [.string x.Name, .int .u8 x.Kind, .int .i64 x.At, .int .i64 x.Of, .int .i64 x.Node]
def S46.ok (x : S46) : Prop := x.Name.size ≤ maxLen ∧ (Lit.int .u8 x.Kind).wf = true ∧ (Lit.int .i64 x.At).wf = true ∧ (Lit.int .i64 x.Of).wf = true ∧ (Lit.int .i64 x.Node).wf = true
theorem S46.shape {H : Type} {enc : TypeId × Value → H} {w : World} {base : Nat} {spare : Nat → Bool} {held : Bool} (fuel : Nat) (cs : List Value) (x : DataW H × List MemPlace)
    (h : DataW.trod enc Try.prog w base spare held fuel 46 cs = some x) : ∃ y : S46, cs = y.cells ∧ y.ok := by
  obtain ⟨xs, n, _, _, hlen, hxl, hf⟩ := DataW.trod_struct Try.underlying46 h
  have hC : Try.prog.cellsOf 46 = 5 := by kernel_rfl
  rw [hC] at hlen
  match cs, hlen with
  | [c0, c1, c2, c3, c4], _ =>
  have hx : xs.length = 5 := hxl
  match xs, hx with
  | [x0, x1, x2, x3, x4], _ =>
  have k0 : Try.prog.cellsOf 9 = 1 := by kernel_rfl
  have g0 : DataW.trod enc Try.prog w base spare held n 9 ((List.drop 0 [c0, c1, c2, c3, c4]).take (Try.prog.cellsOf 9)) = some x0 := hf 0 _ rfl
  rw [k0] at g0
  replace g0 : DataW.trod enc Try.prog w base spare held n 9 [c0] = some x0 := g0
  have k1 : Try.prog.cellsOf 5 = 1 := by kernel_rfl
  have g1 : DataW.trod enc Try.prog w base spare held n 5 ((List.drop 1 [c0, c1, c2, c3, c4]).take (Try.prog.cellsOf 5)) = some x1 := hf 1 _ rfl
  rw [k1] at g1
  replace g1 : DataW.trod enc Try.prog w base spare held n 5 [c1] = some x1 := g1
  have k2 : Try.prog.cellsOf 3 = 1 := by kernel_rfl
  have g2 : DataW.trod enc Try.prog w base spare held n 3 ((List.drop 2 [c0, c1, c2, c3, c4]).take (Try.prog.cellsOf 3)) = some x2 := hf 2 _ rfl
  rw [k2] at g2
  replace g2 : DataW.trod enc Try.prog w base spare held n 3 [c2] = some x2 := g2
  have k3 : Try.prog.cellsOf 3 = 1 := by kernel_rfl
  have g3 : DataW.trod enc Try.prog w base spare held n 3 ((List.drop 3 [c0, c1, c2, c3, c4]).take (Try.prog.cellsOf 3)) = some x3 := hf 3 _ rfl
  rw [k3] at g3
  replace g3 : DataW.trod enc Try.prog w base spare held n 3 [c3] = some x3 := g3
  have k4 : Try.prog.cellsOf 3 = 1 := by kernel_rfl
  have g4 : DataW.trod enc Try.prog w base spare held n 3 ((List.drop 4 [c0, c1, c2, c3, c4]).take (Try.prog.cellsOf 3)) = some x4 := hf 4 _ rfl
  rw [k4] at g4
  replace g4 : DataW.trod enc Try.prog w base spare held n 3 [c4] = some x4 := g4
  obtain ⟨v0, e0, _, w0⟩ := DataW.trod_string Try.underlying9 g0
  injection e0 with e0 _; subst e0
  obtain ⟨v1, e1, _, w1⟩ := DataW.trod_int Try.underlying5 g1
  injection e1 with e1 _; subst e1
  obtain ⟨v2, e2, _, w2⟩ := DataW.trod_int Try.underlying3 g2
  injection e2 with e2 _; subst e2
  obtain ⟨v3, e3, _, w3⟩ := DataW.trod_int Try.underlying3 g3
  injection e3 with e3 _; subst e3
  obtain ⟨v4, e4, _, w4⟩ := DataW.trod_int Try.underlying3 g4
  injection e4 with e4 _; subst e4
  exact ⟨⟨v0, v1, v2, v3, v4⟩, rfl, ⟨w0, w1, w2, w3, w4⟩⟩

end Go.Proofs.Ytkflofjcjolehaa
