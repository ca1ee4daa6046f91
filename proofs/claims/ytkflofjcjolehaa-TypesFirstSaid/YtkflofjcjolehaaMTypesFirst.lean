/- The law wardenlaw10.TypesFirst returns true at every input, and leaves its arguments as they were: the given statement, with no condition of ours. -/
import Derived.Test.YtkflofjcjolehaaRows
import Derived.Test.YtkflofjcjolehaaBTypesFirst0
import Derived.Test.YtkflofjcjolehaaBig19
import Derived.Test.YtkflofjcjolehaaBTypesFirst1
import Derived.WalkKit
import Derived.ProofKit
import Derived.OpenShut
import Derived.ShutString
import Derived.ChangeOld
import Derived.Below
namespace Go.Proofs.Ytkflofjcjolehaa.typesFirst
open Go.ChangeShapes Go.WideShapes Go.ChangeAt Go.RowKit
open Go.ChangeMaps (open_string shut_string)
set_option linter.unusedVariables false
theorem own : ownKnob Try.prog.godebug = none := by kernel_rfl
theorem laidOut : laidOutB Try.prog = true := by kernel_rfl
set_option maxRecDepth 100000 in
theorem lifted (os : Os) (started : os.Started) (H : Type) (enc : TypeId × Value → H) :
    ReturnsInHanded {} Try.checked os 8 .any (Rows.typesFirstSpec.pre6 enc Try.prog Try.f8 Rows.typesFirstRow.domain false) (Rows.typesFirstSpec.post enc Try.prog Try.f8 false true false false) := by
  refine returnsInHanded_of_change (C := Try.checked) own started (by kernel_rfl) Try.func8
    (ChangeSpec.witness6 (enc := enc) (C := Try.checked) false ⟨#[], #[.slice none 0 0, .slice none 0 0], []⟩ 8 (by kernel_rfl) (by kernel_rfl) (by kernel_rfl) (by kernel_rfl)) ?_
  intro W base args ds gs before hval0 hW hcnd _
  have hval : ∀ (j : Nat) t v, Try.f8.params[j]? = some t → args[j]? = some v → Value.okWide Try.prog W .any base t v := hval0
  have hW' := hW
  obtain ⟨p, q, hA0, hV, rfl, hfz, hnd⟩ := hW
  have hA : DataW.TrodAll enc Try.prog W 0 (fun _ => true) true Try.f8.params.toList args.toList ds p := hA0
  rw [Try.params8] at hA hval
  obtain ⟨v0, vs0, d0, ds0, p0, q0, hargs, rfl, rfl, h0, r0⟩ := trodAll_cons hA
  obtain ⟨v1, vs1, d1, ds1, p1, q1, rfl, rfl, rfl, h1, r1⟩ := trodAll_cons r0
  obtain ⟨rfl, rfl, rfl⟩ := trodAll_nil r1
  obtain rfl : args = #[v0, v1] := by cases args; simp_all
  obtain ⟨rfl, rfl⟩ := trodVars_none hV
  have k0 := h0
  have lt0 : ∀ x ∈ p0, x.block < W.heap.size := by obtain ⟨m, hm⟩ := k0; exact DataW.trod_lt m _ _ _ hm
  obtain ⟨A0, n0, c0, rfl⟩ := okWide_slice Try.underlying22 (hval 0 22 v0 rfl rfl)
  obtain ⟨l0, y0, z0, u0, m0⟩ : ∃ l : List Tp, l.length = n0 ∧ n0 ≤ c0 ∧ kT.C W A0 n0 l ∧ rdTps l := by obtain ⟨fuel, hf⟩ := h0; exact reads_tys hf
  have nil0 : A0 = none → c0 = 0 := by obtain ⟨fuel, hf⟩ := h0; exact reads_nil hf
  have k1 := h1
  have lt1 : ∀ x ∈ p1, x.block < W.heap.size := by obtain ⟨m, hm⟩ := k1; exact DataW.trod_lt m _ _ _ hm
  obtain ⟨A1, n1, c1, rfl⟩ := okWide_slice Try.underlying22 (hval 1 22 v1 rfl rfl)
  obtain ⟨l1, y1, z1, u1, m1⟩ : ∃ l : List Tp, l.length = n1 ∧ n1 ≤ c1 ∧ kT.C W A1 n1 l ∧ rdTps l := by obtain ⟨fuel, hf⟩ := h1; exact reads_tys hf
  have nil1 : A1 = none → c1 = 0 := by obtain ⟨fuel, hf⟩ := h1; exact reads_nil hf
  clear hA0 hval0
  refine (first_walk W A0 n0 c0 l0 y0 z0 u0 m0 nil0 A1 n1 c1 l1 y1 z1 u1 m1 nil1).mono fun e W' ⟨he, bel⟩ => ?_
  subst he
  exact ⟨_, rfl, _, _, _, [], _, [], hW', trodAll_mk1 (shut_bool Try.underlying4 _), (trodAll_cons_mk (Below.trod laidOut (by kernel_rfl) (of_decide_eq_true (by kernel_rfl)) k0 bel lt0) (trodAll_cons_mk (Below.trod laidOut (by kernel_rfl) (of_decide_eq_true (by kernel_rfl)) k1 bel lt1) trodAll_mk0)), rfl, bel.frame _, fun h => by cases h⟩
theorem over : Rows.typesFirstRow.holds Try.pinned (OpenSpec.ofChange Rows.typesFirstSpec) :=
  OpenClaim.holds_of_wide 8 Try.f8 rfl rfl rfl rfl rfl rfl rfl ⟨rfl, rfl, rfl, rfl, rfl⟩ rfl rfl rfl rfl rfl (by kernel_rfl) Try.func8 (by kernel_rfl)
    (of_decide_eq_true (by kernel_rfl)) (by unfold Func.isWrapper; first | (rw [if_pos (by decide +kernel)]; kernel_rfl) | (rw [if_neg (by decide +kernel)]; exact ⟨rfl, rfl⟩))
    (fun os started H enc _ => lifted os started H enc)
end Go.Proofs.Ytkflofjcjolehaa.typesFirst
namespace Go.Proofs.Ytkflofjcjolehaa
/-- The statement. -/
theorem typesFirst_holds : Rows.TypesFirstSaid := typesFirst.over
#print axioms typesFirst_holds
end Go.Proofs.Ytkflofjcjolehaa
