/- WordWrites in plain Lean: what word answers and what the reference answers are one. -/
import Derived.Test.YtjhfhognacjipaaHWordWritesx1
import Derived.Test.YtjhfhognacjipaaWf
namespace Go.Proofs.Ytjhfhognacjipaa.Pure
open Go.RowKit Go.Proofs.Ytjhfhognacjipaa.HWordWrites Go.Proofs.YtjhfhognacjipaaW.PrintWords Go.Proofs.YtjhfhognacjipaaW.PrintLast

theorem alive_true : wardenlaw01_alive.f = some true := by decide +kernel

theorem WordWrites : wardenlaw01_WordWrites.Pure := by
  intro x n s i hx _ hs _
  have h0 : 0 ≤ x ∧ x < 18446744073709551616 := wf_u64 hx
  unfold wardenlaw01_WordWrites.f
  split
  · rw [alive_true]; rfl
  · have h1 : word_Set.f s i x n = some (wordSet s i x n) := if_pos (by omega)
    have h2 : wardenref01_Set.f s i x n = some (wordSet s i x n) := if_pos (by omega)
    have h3 : word_Of.f x n = some (wordOf x n) := if_pos h0
    have h4 : wardenref01_Of.f x n = some (wordOf x n) := if_pos h0
    have h5 : word_Low.f x n = some (wordLow x n) := if_pos h0
    have h6 : wardenref01_Low.f x n = some (wordLow x n) := if_pos h0
    have h7 : word_Sign.f x n = some (wordSign x n) := if_pos h0
    have h8 : wardenref01_Sign.f x n = some (wordSign x n) := if_pos h0
    rw [h1, h2, h3, h4]
    simp only [Option.bind_some, if_true]
    rw [h5, h6]
    simp only [Option.bind_some, if_true]
    rw [h7, h8]
    simp only [Option.bind_some, if_true]
    rw [alive_true]
    rfl

end Go.Proofs.Ytjhfhognacjipaa.Pure
