import Derived.Test.YtdlgipoaimgbpaaHKfuncOwnx2
import Derived.KernelRfl
namespace Go.Proofs.Ytdlgipoaimgbpaa.Pure
open Go.RowKit Go.Proofs.Ytdlgipoaimgbpaa.HKfuncOwn Go.Proofs.YtdlgipoaimgbpaaW.PrintWords Go.Proofs.YtdlgipoaimgbpaaW.PrintLast
set_option maxRecDepth 100000
set_option maxHeartbeats 4000000

theorem of_out {a : Int} (h : ¬ (1 ≤ a ∧ a ≤ 17)) : kfunc_Of.f a = some ([], 0, false, false, false) := by
  unfold kfunc_Of.f kfK
  rw [if_neg h, decide_eq_false h]
  rfl

theorem KfuncOwn : wardenlaw25_KfuncOwn.Pure := by
  intro a0 a1 w0 w1
  refine ⟨12, ?_⟩
  by_cases h0 : 1 ≤ a0 ∧ a0 ≤ 17
  · have hc : a0 = 1 ∨ a0 = 2 ∨ a0 = 3 ∨ a0 = 4 ∨ a0 = 5 ∨ a0 = 6 ∨ a0 = 7 ∨ a0 = 8 ∨ a0 = 9 ∨ a0 = 10 ∨ a0 = 11 ∨ a0 = 12 ∨ a0 = 13 ∨ a0 = 14 ∨ a0 = 15 ∨ a0 = 16 ∨ a0 = 17 := by omega
    clear w0 w1 h0
    rcases hc with rfl | rfl | rfl | rfl | rfl | rfl | rfl | rfl | rfl | rfl | rfl | rfl | rfl | rfl | rfl | rfl | rfl <;> (show _ = _; kernel_rfl)
  · have href : wardenref25_Of.f a0 = some ([], 0, false, false, false) := of_out h0
    unfold wardenlaw25_KfuncOwn.f
    rw [of_out h0]
    show wardenlaw25_KfuncOwn.l0 12 a0 a1 0 [] 0 false false = some true
    unfold wardenlaw25_KfuncOwn.l0
    rw [if_neg (by decide), of_out h0, href]
    kernel_rfl

end Go.Proofs.Ytdlgipoaimgbpaa.Pure
