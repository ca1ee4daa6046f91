/- The law wardenlaw25.KfuncTells returns true at every input, and leaves its arguments as they were: the given statement, with no condition of ours. -/
import Derived.Test.YtdlgipoaimgbpaaRows
import Derived.Test.YtdlgipoaimgbpaaPureKfuncTells
import Derived.Test.YtdlgipoaimgbpaaReads
import Derived.WalkKit
import Derived.ProofKit
import Derived.OpenShut
import Derived.ShutString
import Derived.ChangeOld
import Derived.Below
namespace Go.Proofs.Ytdlgipoaimgbpaa.kfuncTells
open Go.ChangeShapes Go.WideShapes Go.ChangeAt Go.RowKit Go.Proofs.YtdlgipoaimgbpaaW.PrintWords
open Go.ChangeMaps (open_string shut_string)
set_option linter.unusedVariables false
theorem own : ownKnob Try.prog.godebug = none := by kernel_rfl
theorem laidOut : laidOutB Try.prog = true := by kernel_rfl
set_option maxRecDepth 100000 in
theorem reads_contract {H : Type} {enc : TypeId × Value → H} {w : World} {base : Nat} {spare : Nat → Bool} {held : Bool} {fuel : Nat} {cs : List Value} {x : DataW H × List MemPlace}
    (h : DataW.trod enc Try.prog w base spare held fuel 37 cs = some x) : ∃ (A : Option Addr) (c : Nat) (l : List Int) (g : Int) (p q : Bool), cs = [.slice A l.length c, .int .u8 g, .bool p, .bool q] ∧ Kd.C (Kd.int .u8) w A l.length l ∧ l.length ≤ c := by
  obtain ⟨xs, n, _, _, hlen, hxl, hf⟩ := DataW.trod_struct Try.underlying37 h
  have hC : Try.prog.cellsOf 37 = 4 := by kernel_rfl
  rw [hC] at hlen
  match cs, hlen with
  | [c0, c1, c2, c3], _ =>
  have hx : xs.length = 4 := hxl
  match xs, hx with
  | [x0, x1, x2, x3], _ =>
  have k0 : Try.prog.cellsOf 35 = 1 := by kernel_rfl
  have k1 : Try.prog.cellsOf 5 = 1 := by kernel_rfl
  have k2 : Try.prog.cellsOf 4 = 1 := by kernel_rfl
  have g0 : DataW.trod enc Try.prog w base spare held n 35 ((List.drop 0 [c0, c1, c2, c3]).take (Try.prog.cellsOf 35)) = some x0 := hf 0 _ rfl
  have g1 : DataW.trod enc Try.prog w base spare held n 5 ((List.drop 1 [c0, c1, c2, c3]).take (Try.prog.cellsOf 5)) = some x1 := hf 1 _ rfl
  have g2 : DataW.trod enc Try.prog w base spare held n 4 ((List.drop 2 [c0, c1, c2, c3]).take (Try.prog.cellsOf 4)) = some x2 := hf 2 _ rfl
  have g3 : DataW.trod enc Try.prog w base spare held n 4 ((List.drop 3 [c0, c1, c2, c3]).take (Try.prog.cellsOf 4)) = some x3 := hf 3 _ rfl
  rw [k0] at g0
  rw [k1] at g1
  rw [k2] at g2 g3
  replace g0 : DataW.trod enc Try.prog w base spare held n 35 [c0] = some x0 := g0
  replace g1 : DataW.trod enc Try.prog w base spare held n 5 [c1] = some x1 := g1
  replace g2 : DataW.trod enc Try.prog w base spare held n 4 [c2] = some x2 := g2
  replace g3 : DataW.trod enc Try.prog w base spare held n 4 [c3] = some x3 := g3
  obtain ⟨l, ⟨A, c, e0, hl, hr⟩, _⟩ := (Opens.slice (P := Try.prog) Try.underlying35 k0 (Opens.int Try.underlying5 k1)).opens g0
  obtain ⟨v1, e1, _, _⟩ := DataW.trod_int Try.underlying5 g1
  obtain ⟨v2, e2, _⟩ := DataW.trod_bool Try.underlying4 g2
  obtain ⟨v3, e3, _⟩ := DataW.trod_bool Try.underlying4 g3
  injection e0 with e0 _
  injection e1 with e1 _
  injection e2 with e2 _
  injection e3 with e3 _
  subst e0 e1 e2 e3
  exact ⟨A, c, l, v1, v2, v3, rfl, hr, hl⟩

set_option maxRecDepth 100000 in
theorem lifted (os : Os) (started : os.Started) (H : Type) (enc : TypeId × Value → H) :
    ReturnsInHanded {} Try.checked os 6 .any (Rows.kfuncTellsSpec.pre6 enc Try.prog Try.f6 Rows.kfuncTellsRow.domain false) (Rows.kfuncTellsSpec.post enc Try.prog Try.f6 false true false false) := by
  refine returnsInHanded_of_change (C := Try.checked) own started (by kernel_rfl) Try.func6
    (ChangeSpec.witness6 (enc := enc) (C := Try.checked) false ⟨#[], #[.int .i32 0, .string ByteArray.empty, .agg #[.slice none 0 0, .int .u8 0, .bool false, .bool false]], []⟩ 8 (by kernel_rfl) (by kernel_rfl) (by kernel_rfl) (by kernel_rfl)) ?_
  intro W base args ds gs before hval0 hW hcnd _
  have hval : ∀ (j : Nat) t v, Try.f6.params[j]? = some t → args[j]? = some v → Value.okWide Try.prog W .any base t v := hval0
  have hW' := hW
  obtain ⟨p, q, hA0, hV, rfl, hfz, hnd⟩ := hW
  have hA : DataW.TrodAll enc Try.prog W 0 (fun _ => true) true Try.f6.params.toList args.toList ds p := hA0
  rw [Try.params6] at hA hval
  obtain ⟨v0, vs0, d0, ds0, p0, q0, hargs, rfl, rfl, h0, r0⟩ := trodAll_cons hA
  obtain ⟨v1, vs1, d1, ds1, p1, q1, rfl, rfl, rfl, h1, r1⟩ := trodAll_cons r0
  obtain ⟨v2, vs2, d2, ds2, p2, q2, rfl, rfl, rfl, h2, r2⟩ := trodAll_cons r1
  obtain ⟨rfl, rfl, rfl⟩ := trodAll_nil r2
  obtain rfl : args = #[v0, v1, v2] := by cases args; simp_all
  obtain ⟨rfl, rfl⟩ := trodVars_none hV
  obtain ⟨a0, rfl, rfl, rfl, w0⟩ := open_int Try.underlying21 (hval 0 21 v0 rfl rfl) h0
  obtain ⟨a1, rfl, rfl, rfl, w1⟩ := open_string Try.underlying9 (hval 1 9 v1 rfl rfl) h1
  have k2 := h2
  have lt2 : ∀ x ∈ p2, x.block < W.heap.size := by obtain ⟨m, hm⟩ := k2; exact DataW.trod_lt m _ _ _ hm
  obtain ⟨cs2, rfl, sz2⟩ := okWide_struct Try.underlying37 (hval 2 37 v2 rfl rfl)
  obtain ⟨A2, c2, l2, g2, b2, b3, e2, hr2, hc2⟩ : ∃ (A : Option Addr) (c : Nat) (l : List Int) (g : Int) (p q : Bool), cs2.toList = [.slice A l.length c, .int .u8 g, .bool p, .bool q] ∧ Kd.C (Kd.int .u8) W A l.length l ∧ l.length ≤ c := by
    obtain ⟨fuel, hf⟩ := h2
    exact reads_contract hf
  obtain rfl : cs2 = #[.slice A2 l2.length c2, .int .u8 g2, .bool b2, .bool b3] := by rw [← Array.toList_inj, e2]
  clear hA0 hval0
  refine (HKfuncTells.wardenlaw25_KfuncTells.calls 300 a0 a1 A2 c2 l2 g2 b2 b3 true W hr2 hc2 (Pure.tells a0 a1 l2 g2 b2 b3)).mono fun e W' ⟨he, bel⟩ => ?_
  subst he
  exact ⟨_, rfl, _, _, _, [], _, [], hW', trodAll_mk1 (shut_bool Try.underlying4 _), (trodAll_cons_mk (shut_int Try.underlying21 w0) (trodAll_cons_mk (shut_string Try.underlying9 w1) (trodAll_cons_mk (Below.trod laidOut (by kernel_rfl) (of_decide_eq_true (by kernel_rfl)) k2 bel lt2) trodAll_mk0))), rfl, bel.frame _, fun h => by cases h⟩
theorem over : Rows.kfuncTellsRow.holds Try.pinned (OpenSpec.ofChange Rows.kfuncTellsSpec) :=
  OpenClaim.holds_of_wide 6 Try.f6 rfl rfl rfl rfl rfl rfl rfl ⟨rfl, rfl, rfl, rfl, rfl⟩ rfl rfl rfl rfl rfl (by kernel_rfl) Try.func6 (by kernel_rfl)
    (of_decide_eq_true (by kernel_rfl)) (by unfold Func.isWrapper; first | (rw [if_pos (by decide +kernel)]; kernel_rfl) | (rw [if_neg (by decide +kernel)]; exact ⟨rfl, rfl⟩))
    (fun os started H enc _ => lifted os started H enc)
end Go.Proofs.Ytdlgipoaimgbpaa.kfuncTells
namespace Go.Proofs.Ytdlgipoaimgbpaa
/-- The statement. -/
theorem kfuncTells_holds : Rows.KfuncTellsSaid := kfuncTells.over
#print axioms kfuncTells_holds
end Go.Proofs.Ytdlgipoaimgbpaa
