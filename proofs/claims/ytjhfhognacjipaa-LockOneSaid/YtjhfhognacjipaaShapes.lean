import Derived.Test.YtjhfhognacjipaaProg
import Derived.Test.YtjhfhognacjipaaOpen
/-! The struct types of arguments: a Lean structure for each, its cells, and how a reading gives one. -/
namespace Go.Proofs.Ytjhfhognacjipaa
open Go.ChangeShapes Go.WideShapes Go.ChangeAt Go.RowKit Go.Deep

/-- wardenlaw18.Step -/
structure S27 where
  Give : Bool
  Map : Int
  Slot : Int
instance : Inhabited S27 := ⟨⟨false, 0, 0⟩⟩
def S27.cells (x : S27) : List Value := [.bool x.Give, .int .i64 x.Map, .int .i64 x.Slot]
def S27.ok (x : S27) : Prop := (Lit.int .i64 x.Map).wf = true ∧ (Lit.int .i64 x.Slot).wf = true
theorem S27.shape {H : Type} {enc : TypeId × Value → H} {w : World} {base : Nat} {spare : Nat → Bool} {held : Bool} (fuel : Nat) (cs : List Value) (x : DataW H × List MemPlace)
    (h : DataW.trod enc Try.prog w base spare held fuel 27 cs = some x) : ∃ y : S27, cs = y.cells ∧ y.ok := by
  obtain ⟨xs, n, _, _, hlen, hxl, hf⟩ := DataW.trod_struct Try.underlying27 h
  have hC : Try.prog.cellsOf 27 = 3 := by kernel_rfl
  rw [hC] at hlen
  match cs, hlen with
  | [c0, c1, c2], _ =>
  have hx : xs.length = 3 := hxl
  match xs, hx with
  | [x0, x1, x2], _ =>
  have k0 : Try.prog.cellsOf 4 = 1 := by kernel_rfl
  have g0 : DataW.trod enc Try.prog w base spare held n 4 ((List.drop 0 [c0, c1, c2]).take (Try.prog.cellsOf 4)) = some x0 := hf 0 _ rfl
  rw [k0] at g0
  replace g0 : DataW.trod enc Try.prog w base spare held n 4 [c0] = some x0 := g0
  have k1 : Try.prog.cellsOf 3 = 1 := by kernel_rfl
  have g1 : DataW.trod enc Try.prog w base spare held n 3 ((List.drop 1 [c0, c1, c2]).take (Try.prog.cellsOf 3)) = some x1 := hf 1 _ rfl
  rw [k1] at g1
  replace g1 : DataW.trod enc Try.prog w base spare held n 3 [c1] = some x1 := g1
  have k2 : Try.prog.cellsOf 3 = 1 := by kernel_rfl
  have g2 : DataW.trod enc Try.prog w base spare held n 3 ((List.drop 2 [c0, c1, c2]).take (Try.prog.cellsOf 3)) = some x2 := hf 2 _ rfl
  rw [k2] at g2
  replace g2 : DataW.trod enc Try.prog w base spare held n 3 [c2] = some x2 := g2
  obtain ⟨v0, e0, _⟩ := DataW.trod_bool Try.underlying4 g0
  injection e0 with e0 _; subst e0
  obtain ⟨v1, e1, _, w1⟩ := DataW.trod_int Try.underlying3 g1
  injection e1 with e1 _; subst e1
  obtain ⟨v2, e2, _, w2⟩ := DataW.trod_int Try.underlying3 g2
  injection e2 with e2 _; subst e2
  exact ⟨⟨v0, v1, v2⟩, rfl, ⟨w1, w2⟩⟩

end Go.Proofs.Ytjhfhognacjipaa
