import Derived.Test.YtcddpmiandgkjaaStkS
/-! wardenlaw23.same: the program's stack and the document's hold the same. -/
namespace Go.Proofs.Ytcddpmiandgkjaa
open Go.RowKit Go.Maps Go.Lib Go.Deep
set_option maxHeartbeats 4000000
set_option maxRecDepth 100000
set_option linter.unusedSimpArgs false
set_option linter.unusedVariables false

theorem law_same (w : World) (p mb x : Nat) (σ : Stk) (h : StkIs w p mb σ) (hx : XtkIs w x σ) :
    Calls Try.prog 24 #[.pointer (some ⟨p, 0, none⟩), .pointer (some ⟨x, 0, none⟩)] w fun e w' => e = .returned (.bool true) ∧ Below w.heap.size w w' := by
  have H := hide h
  have HX := hide hx
  clear h hx
  go_enter Try.func24, Try.ntmps24
  go_wp2_with fail
  go_loopw [5] (fun i wr => ∃ (j : Nat), j ≤ 131 ∧ i = .int .i64 ((j : Int) - 129) ∧ Below w.heap.size w wr) (fun i _ => 131 - (intOf i + 129).toNat)
  case atStart => exact ⟨0, by omega, rfl, Below.refl _ _⟩
  case round =>
    obtain ⟨j, hj, rfl, hB⟩ := hrel
    have H2 := hide (H.out.below hB)
    have X2 := hide (HX.out.below hB)
    have B2 := hide hB
    clear hB
    by_cases hlt : j < 131
    · have dj : decide ((j : Int) - 129 ≤ 1) = true := decide_eq_true (by omega)
      have hji : (j : Int) - 129 ≤ 1 := by omega
      have hjw : IntKind.i64.wrap ((j : Int) - 129 + 1) = (j : Int) - 129 + 1 := wrap_i64 (by omega) (by omega)
      have CS := hide (fun W p mb (h : StkIs W p mb σ) => stk_set W p mb σ h ((j : Int) - 129))
      have CX := hide (fun W x (h : XtkIs W x σ) => xtk_set W x σ h ((j : Int) - 129))
      have CP := hide (fun W p mb (h : StkIs W p mb σ) => stk_spilled W p mb σ h ((j : Int) - 129))
      have CQ := fun W x (h : XtkIs W x σ) => xtk_spAt W x σ h ((j : Int) - 129)
      have CI := fun W => val_law_is W (σ.spAt ((j : Int) - 129)) (σ.spAt ((j : Int) - 129)).plain
      rw [show decide ((σ.spAt ((j : Int) - 129)).plain = (σ.spAt ((j : Int) - 129)).plain) = true from decide_eq_true rfl] at CI
      generalize σ.setAt ((j : Int) - 129) = b at *
      generalize σ.spAt ((j : Int) - 129) = v at *
      generalize v.plain = pv at *
      obtain ⟨u0, u1, u2, u3, u4, u5⟩ := pv
      simp only [V22.agg] at CQ CI
      generalize v.enc = ve at *
      have CQ := hide CQ
      have CI := hide CI
      go_wp2_with fail
      refine (CS.out _ _ _ H2.out).mono ?_
      rintro e wt ⟨rfl, rfl⟩
      go_wp2_with fail
      refine (CX.out _ _ X2.out).mono ?_
      rintro e wt ⟨rfl, rfl⟩
      go_wp2_with fail
      refine (CP.out _ _ _ H2.out).mono ?_
      rintro e wt ⟨rfl, rfl⟩
      go_wp2_with fail
      refine (CQ.out _ _ X2.out).mono ?_
      rintro e wt ⟨rfl, hb⟩
      have B2 := hide (below_on B2.out hb)
      clear hb
      go_wp2_with fail
      refine (CI.out _).mono ?_
      rintro e wt ⟨rfl, hb⟩
      have B2 := hide (below_on B2.out hb)
      clear hb
      go_wp2_with fail
      exact ⟨⟨j + 1, by omega, by simp; omega, B2.out⟩, by simp [intOf]; omega⟩
    · have dj : decide ((j : Int) - 129 ≤ 1) = false := decide_eq_false (by omega)
      have hji : ¬ ((j : Int) - 129 ≤ 1) := by omega
      go_wp2_with fail
      go_ret
      exact ⟨rfl, B2.out⟩

end Go.Proofs.Ytcddpmiandgkjaa
