/- Types: lemmas on what the functions that the laws reach answer. No conditions of their own beyond those that each theorem states. -/
import Derived.Test.YtkflofjcjolehaaBig13
import Derived.Test.YtkflofjcjolehaaBig18
/-! Types: a table that is handed in, as it is read. -/
namespace Go.Proofs.Ytkflofjcjolehaa
open Go.ChangeShapes Go.WideShapes Go.ChangeAt Go.RowKit Go.Deep Go.Proofs.YtkflofjcjolehaaW.PrintWords
set_option maxRecDepth 100000
instance : Inhabited Fl := ⟨zF⟩
instance : Inhabited Tp := ⟨zT⟩

theorem opens_fl : Opens Try.prog 46 kF (fun f => 0 ≤ f.kd ∧ f.kd ≤ 255) := by
  refine ⟨by kernel_rfl, fun {H enc w base spare held fuel cs x} h => ?_⟩
  obtain ⟨xs, n, _, _, hlen, hxl, hf⟩ := DataW.trod_struct Try.underlying46 h
  have hC : Try.prog.cellsOf 46 = 5 := by kernel_rfl
  rw [hC] at hlen
  match cs, hlen with
  | [c0, c1, c2, c3, c4], _ =>
  have hx : xs.length = 5 := hxl
  match xs, hx with
  | [x0, x1, x2, x3, x4], _ =>
  have k0 : Try.prog.cellsOf 9 = 1 := by kernel_rfl
  have k1 : Try.prog.cellsOf 5 = 1 := by kernel_rfl
  have k2 : Try.prog.cellsOf 3 = 1 := by kernel_rfl
  have g0 : DataW.trod enc Try.prog w base spare held n 9 ((List.drop 0 [c0, c1, c2, c3, c4]).take (Try.prog.cellsOf 9)) = some x0 := hf 0 _ rfl
  have g1 : DataW.trod enc Try.prog w base spare held n 5 ((List.drop 1 [c0, c1, c2, c3, c4]).take (Try.prog.cellsOf 5)) = some x1 := hf 1 _ rfl
  have g2 : DataW.trod enc Try.prog w base spare held n 3 ((List.drop 2 [c0, c1, c2, c3, c4]).take (Try.prog.cellsOf 3)) = some x2 := hf 2 _ rfl
  have g3 : DataW.trod enc Try.prog w base spare held n 3 ((List.drop 3 [c0, c1, c2, c3, c4]).take (Try.prog.cellsOf 3)) = some x3 := hf 3 _ rfl
  have g4 : DataW.trod enc Try.prog w base spare held n 3 ((List.drop 4 [c0, c1, c2, c3, c4]).take (Try.prog.cellsOf 3)) = some x4 := hf 4 _ rfl
  rw [k0] at g0
  rw [k1] at g1
  rw [k2] at g2 g3 g4
  replace g0 : DataW.trod enc Try.prog w base spare held n 9 [c0] = some x0 := g0
  replace g1 : DataW.trod enc Try.prog w base spare held n 5 [c1] = some x1 := g1
  replace g2 : DataW.trod enc Try.prog w base spare held n 3 [c2] = some x2 := g2
  replace g3 : DataW.trod enc Try.prog w base spare held n 3 [c3] = some x3 := g3
  replace g4 : DataW.trod enc Try.prog w base spare held n 3 [c4] = some x4 := g4
  obtain ⟨v0, e0, _, w0⟩ := DataW.trod_string Try.underlying9 g0
  obtain ⟨v1, e1, _, w1⟩ := DataW.trod_int Try.underlying5 g1
  obtain ⟨v2, e2, _, _⟩ := DataW.trod_int Try.underlying3 g2
  obtain ⟨v3, e3, _, _⟩ := DataW.trod_int Try.underlying3 g3
  obtain ⟨v4, e4, _, _⟩ := DataW.trod_int Try.underlying3 g4
  injection e0 with e0 _
  injection e1 with e1 _
  injection e2 with e2 _
  injection e3 with e3 _
  injection e4 with e4 _
  subst e0 e1 e2 e3 e4
  refine ⟨⟨v0, v1, v2, v3, v4⟩, ⟨_, _, rfl, rfl, _, _, rfl, rfl, _, _, rfl, rfl, _, _, rfl, rfl, rfl⟩, ?_⟩
  have := wf_u8 w1
  exact ⟨this.1, by show v1 ≤ 255; omega⟩

theorem opens_tp : Opens Try.prog 44 kT rdTp := by
  refine ⟨by kernel_rfl, fun {H enc w base spare held fuel cs x} h => ?_⟩
  obtain ⟨xs, n, _, _, hlen, hxl, hf⟩ := DataW.trod_struct Try.underlying44 h
  have hC : Try.prog.cellsOf 44 = 3 := by kernel_rfl
  rw [hC] at hlen
  match cs, hlen with
  | [c0, c1, c2], _ =>
  have hx : xs.length = 3 := hxl
  match xs, hx with
  | [x0, x1, x2], _ =>
  have k0 : Try.prog.cellsOf 9 = 1 := by kernel_rfl
  have k1 : Try.prog.cellsOf 3 = 1 := by kernel_rfl
  have k2 : Try.prog.cellsOf 42 = 1 := by kernel_rfl
  have g0 : DataW.trod enc Try.prog w base spare held n 9 ((List.drop 0 [c0, c1, c2]).take (Try.prog.cellsOf 9)) = some x0 := hf 0 _ rfl
  have g1 : DataW.trod enc Try.prog w base spare held n 3 ((List.drop 1 [c0, c1, c2]).take (Try.prog.cellsOf 3)) = some x1 := hf 1 _ rfl
  have g2 : DataW.trod enc Try.prog w base spare held n 42 ((List.drop 2 [c0, c1, c2]).take (Try.prog.cellsOf 42)) = some x2 := hf 2 _ rfl
  rw [k0] at g0
  rw [k1] at g1
  rw [k2] at g2
  replace g0 : DataW.trod enc Try.prog w base spare held n 9 [c0] = some x0 := g0
  replace g1 : DataW.trod enc Try.prog w base spare held n 3 [c1] = some x1 := g1
  replace g2 : DataW.trod enc Try.prog w base spare held n 42 [c2] = some x2 := g2
  obtain ⟨v0, e0, _, w0⟩ := DataW.trod_string Try.underlying9 g0
  obtain ⟨v1, e1, _, _⟩ := DataW.trod_int Try.underlying3 g1
  obtain ⟨l, ⟨A, c, e2, hl, hr⟩, hg, hg2⟩ := (Opens.slice (P := Try.prog) Try.underlying42 k2 opens_fl).opens g2
  injection e0 with e0 _
  injection e1 with e1 _
  injection e2 with e2 _
  subst e0 e1 e2
  refine ⟨⟨v0, v1, l⟩, ⟨_, _, rfl, rfl, _, _, rfl, rfl, A, c, rfl, hl, hr⟩, ?_⟩
  exact ⟨hg, hg2⟩

theorem reads_tys {H : Type} {enc : TypeId × Value → H} {w : World} {base : Nat} {spare : Nat → Bool} {held : Bool} {fuel : Nat} {A : Option Addr} {n c : Nat} {x : DataW H × List MemPlace}
    (h : DataW.trod enc Try.prog w base spare held fuel 22 (Value.slice A n c).cells.toList = some x) : ∃ l : List Tp, l.length = n ∧ n ≤ c ∧ kT.C w A n l ∧ rdTps l := by
  have k0 : Try.prog.cellsOf 22 = 1 := by kernel_rfl
  obtain ⟨l, ⟨A', c', e, hl, hr⟩, hg, hg2⟩ := (Opens.slice (P := Try.prog) Try.underlying22 k0 opens_tp).opens (cs := [.slice A n c]) h
  injection e with e _
  injection e with e1 e2 e3
  subst e1 e2 e3
  exact ⟨l, rfl, hl, hr, hg, hg2⟩
end Go.Proofs.Ytkflofjcjolehaa
