/- WordReads in plain Lean: the number that word.Get reads and the reference's are one. -/
import Derived.Test.YtjhfhognacjipaaHWordReadsx1
import Derived.Test.YtjhfhognacjipaaWf
namespace Go.Proofs.Ytjhfhognacjipaa.Pure
open Go.RowKit Go.Proofs.Ytjhfhognacjipaa.HWordReads Go.Proofs.YtjhfhognacjipaaW.PrintWords Go.Proofs.YtjhfhognacjipaaW.PrintLast

theorem alive_true : wardenlaw01_alive.f = some true := by decide +kernel

theorem WordReads : wardenlaw01_WordReads.Pure := by
  intro s i n hs _ _
  unfold wardenlaw01_WordReads.f
  split
  · rw [alive_true]; rfl
  · have h1 : word_Get.f s i n = some (wordGet s i n) := if_pos (by omega)
    have h2 : wardenref01_Get.f s i n = some (wordGet s i n) := if_pos (by omega)
    rw [h1, h2, alive_true]
    simp

end Go.Proofs.Ytjhfhognacjipaa.Pure
