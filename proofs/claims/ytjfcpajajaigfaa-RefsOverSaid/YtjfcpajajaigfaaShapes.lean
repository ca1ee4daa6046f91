import Derived.Test.YtjfcpajajaigfaaProg
import Derived.Test.YtjfcpajajaigfaaOpen
/-! The struct types of arguments: a Lean structure for each, its cells, and how a reading gives one. -/
namespace Go.Proofs.Ytjfcpajajaigfaa
set_option maxRecDepth 100000
open Go.ChangeShapes Go.WideShapes Go.ChangeAt Go.RowKit Go.Deep

/-- wardenlaw19.Call -/
structure S34 where
  Do : Int
  Slot : Int
  At : Int
  Text : ByteArray
instance : Inhabited S34 := ⟨⟨0, 0, 0, ByteArray.empty⟩⟩
def S34.cells (x : S34) : List Value := [.int .u8 x.Do, .int .i64 x.Slot, .int .i64 x.At, .string x.Text]
def S34.ok (x : S34) : Prop := (Lit.int .u8 x.Do).wf = true ∧ (Lit.int .i64 x.Slot).wf = true ∧ (Lit.int .i64 x.At).wf = true ∧ x.Text.size ≤ maxLen
theorem S34.shape {H : Type} {enc : TypeId × Value → H} {w : World} {base : Nat} {spare : Nat → Bool} {held : Bool} (fuel : Nat) (cs : List Value) (x : DataW H × List MemPlace)
    (h : DataW.trod enc Try.prog w base spare held fuel 34 cs = some x) : ∃ y : S34, cs = y.cells ∧ y.ok := by
  obtain ⟨xs, n, _, _, hlen, hxl, hf⟩ := DataW.trod_struct Try.underlying34 h
  have hC : Try.prog.cellsOf 34 = 4 := by kernel_rfl
  rw [hC] at hlen
  match cs, hlen with
  | [c0, c1, c2, c3], _ =>
  have hx : xs.length = 4 := hxl
  match xs, hx with
  | [x0, x1, x2, x3], _ =>
  have k0 : Try.prog.cellsOf 5 = 1 := by kernel_rfl
  have g0 : DataW.trod enc Try.prog w base spare held n 5 ((List.drop 0 [c0, c1, c2, c3]).take (Try.prog.cellsOf 5)) = some x0 := hf 0 _ rfl
  rw [k0] at g0
  replace g0 : DataW.trod enc Try.prog w base spare held n 5 [c0] = some x0 := g0
  have k1 : Try.prog.cellsOf 3 = 1 := by kernel_rfl
  have g1 : DataW.trod enc Try.prog w base spare held n 3 ((List.drop 1 [c0, c1, c2, c3]).take (Try.prog.cellsOf 3)) = some x1 := hf 1 _ rfl
  rw [k1] at g1
  replace g1 : DataW.trod enc Try.prog w base spare held n 3 [c1] = some x1 := g1
  have k2 : Try.prog.cellsOf 3 = 1 := by kernel_rfl
  have g2 : DataW.trod enc Try.prog w base spare held n 3 ((List.drop 2 [c0, c1, c2, c3]).take (Try.prog.cellsOf 3)) = some x2 := hf 2 _ rfl
  rw [k2] at g2
  replace g2 : DataW.trod enc Try.prog w base spare held n 3 [c2] = some x2 := g2
  have k3 : Try.prog.cellsOf 9 = 1 := by kernel_rfl
  have g3 : DataW.trod enc Try.prog w base spare held n 9 ((List.drop 3 [c0, c1, c2, c3]).take (Try.prog.cellsOf 9)) = some x3 := hf 3 _ rfl
  rw [k3] at g3
  replace g3 : DataW.trod enc Try.prog w base spare held n 9 [c3] = some x3 := g3
  obtain ⟨v0, e0, _, w0⟩ := DataW.trod_int Try.underlying5 g0
  injection e0 with e0 _; subst e0
  obtain ⟨v1, e1, _, w1⟩ := DataW.trod_int Try.underlying3 g1
  injection e1 with e1 _; subst e1
  obtain ⟨v2, e2, _, w2⟩ := DataW.trod_int Try.underlying3 g2
  injection e2 with e2 _; subst e2
  obtain ⟨v3, e3, _, w3⟩ := DataW.trod_string Try.underlying9 g3
  injection e3 with e3 _; subst e3
  exact ⟨⟨v0, v1, v2, v3⟩, rfl, ⟨w0, w1, w2, w3⟩⟩

/-- api.Handle -/
structure S58 where
  Slot : Int
  Gen : Int
instance : Inhabited S58 := ⟨⟨0, 0⟩⟩
def S58.cells (x : S58) : List Value := [.int .i64 x.Slot, .int .u64 x.Gen]
def S58.ok (x : S58) : Prop := (Lit.int .i64 x.Slot).wf = true ∧ (Lit.int .u64 x.Gen).wf = true
theorem S58.shape {H : Type} {enc : TypeId × Value → H} {w : World} {base : Nat} {spare : Nat → Bool} {held : Bool} (fuel : Nat) (cs : List Value) (x : DataW H × List MemPlace)
    (h : DataW.trod enc Try.prog w base spare held fuel 58 cs = some x) : ∃ y : S58, cs = y.cells ∧ y.ok := by
  obtain ⟨xs, n, _, _, hlen, hxl, hf⟩ := DataW.trod_struct Try.underlying58 h
  have hC : Try.prog.cellsOf 58 = 2 := by kernel_rfl
  rw [hC] at hlen
  match cs, hlen with
  | [c0, c1], _ =>
  have hx : xs.length = 2 := hxl
  match xs, hx with
  | [x0, x1], _ =>
  have k0 : Try.prog.cellsOf 3 = 1 := by kernel_rfl
  have g0 : DataW.trod enc Try.prog w base spare held n 3 ((List.drop 0 [c0, c1]).take (Try.prog.cellsOf 3)) = some x0 := hf 0 _ rfl
  rw [k0] at g0
  replace g0 : DataW.trod enc Try.prog w base spare held n 3 [c0] = some x0 := g0
  have k1 : Try.prog.cellsOf 50 = 1 := by kernel_rfl
  have g1 : DataW.trod enc Try.prog w base spare held n 50 ((List.drop 1 [c0, c1]).take (Try.prog.cellsOf 50)) = some x1 := hf 1 _ rfl
  rw [k1] at g1
  replace g1 : DataW.trod enc Try.prog w base spare held n 50 [c1] = some x1 := g1
  obtain ⟨v0, e0, _, w0⟩ := DataW.trod_int Try.underlying3 g0
  injection e0 with e0 _; subst e0
  obtain ⟨v1, e1, _, w1⟩ := DataW.trod_int Try.underlying50 g1
  injection e1 with e1 _; subst e1
  exact ⟨⟨v0, v1⟩, rfl, ⟨w0, w1⟩⟩

/-- wardenlaw24.Step -/
structure S60 where
  Do : Int
  H : S58
  Ref : Int
instance : Inhabited S60 := ⟨⟨0, default, 0⟩⟩
def S60.cells (x : S60) : List Value := [.int .i64 x.Do, .int .i64 x.H.Slot, .int .u64 x.H.Gen, .int .u64 x.Ref]
def S60.ok (x : S60) : Prop := (Lit.int .i64 x.Do).wf = true ∧ x.H.ok ∧ (Lit.int .u64 x.Ref).wf = true
theorem S60.shape {H : Type} {enc : TypeId × Value → H} {w : World} {base : Nat} {spare : Nat → Bool} {held : Bool} (fuel : Nat) (cs : List Value) (x : DataW H × List MemPlace)
    (h : DataW.trod enc Try.prog w base spare held fuel 60 cs = some x) : ∃ y : S60, cs = y.cells ∧ y.ok := by
  obtain ⟨xs, n, _, _, hlen, hxl, hf⟩ := DataW.trod_struct Try.underlying60 h
  have hC : Try.prog.cellsOf 60 = 4 := by kernel_rfl
  rw [hC] at hlen
  match cs, hlen with
  | [c0, c1, c2, c3], _ =>
  have hx : xs.length = 3 := hxl
  match xs, hx with
  | [x0, x1, x2], _ =>
  have k0 : Try.prog.cellsOf 3 = 1 := by kernel_rfl
  have g0 : DataW.trod enc Try.prog w base spare held n 3 ((List.drop 0 [c0, c1, c2, c3]).take (Try.prog.cellsOf 3)) = some x0 := hf 0 _ rfl
  rw [k0] at g0
  replace g0 : DataW.trod enc Try.prog w base spare held n 3 [c0] = some x0 := g0
  have k1 : Try.prog.cellsOf 58 = 2 := by kernel_rfl
  have g1 : DataW.trod enc Try.prog w base spare held n 58 ((List.drop 1 [c0, c1, c2, c3]).take (Try.prog.cellsOf 58)) = some x1 := hf 1 _ rfl
  rw [k1] at g1
  replace g1 : DataW.trod enc Try.prog w base spare held n 58 [c1, c2] = some x1 := g1
  have k2 : Try.prog.cellsOf 50 = 1 := by kernel_rfl
  have g2 : DataW.trod enc Try.prog w base spare held n 50 ((List.drop 3 [c0, c1, c2, c3]).take (Try.prog.cellsOf 50)) = some x2 := hf 2 _ rfl
  rw [k2] at g2
  replace g2 : DataW.trod enc Try.prog w base spare held n 50 [c3] = some x2 := g2
  obtain ⟨v0, e0, _, w0⟩ := DataW.trod_int Try.underlying3 g0
  injection e0 with e0 _; subst e0
  obtain ⟨v1, e1, w1⟩ := S58.shape _ _ _ g1
  obtain ⟨v2, e2, _, w2⟩ := DataW.trod_int Try.underlying50 g2
  injection e2 with e2 _; subst e2
  simp only [S58.cells, List.cons.injEq, and_true] at e1
  refine ⟨⟨v0, v1, v2⟩, ?_, ⟨w0, w1, w2⟩⟩
  simp [S60.cells, e1]

end Go.Proofs.Ytjfcpajajaigfaa
