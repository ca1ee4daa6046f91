import Derived.Test.YtcddpmiandgkjaaValTells1
import Derived.Test.YtcddpmiandgkjaaValTells2
import Derived.Test.YtcddpmiandgkjaaValTells3
import Derived.Test.YtcddpmiandgkjaaShapes
/-! The law ValueTells, walked. -/
namespace Go.Proofs.Ytcddpmiandgkjaa
open Go.RowKit
set_option maxHeartbeats 4000000
set_option maxRecDepth 100000
set_option linter.unusedSimpArgs false

theorem vtells_walk (w : World) (v : S25) (_ : v.ok) (u : S25) (_ : u.ok) :
    Calls Try.prog 9 #[.agg v.cells.toArray, .agg u.cells.toArray] w fun e w' => e = .returned (.bool true) ∧ Below w.heap.size w w' := by
  obtain ⟨s, n, x, y, o, g⟩ := v
  obtain ⟨s2, n2, x2, y2, o2, g2⟩ := u
  obtain ⟨A, hA⟩ : ∃ A, V22.av ⟨s, n, x, y, o, g⟩ = A := ⟨_, rfl⟩
  cases A with
  | nil => exact vtells_nil w s n x y o g s2 n2 x2 y2 o2 g2 _ hA rfl
  | text t => exact vtells_text w s n x y o g s2 n2 x2 y2 o2 g2 t _ hA rfl
  | num m => exact vtells_num w s n x y o g s2 n2 x2 y2 o2 g2 m _ hA rfl
  | ctx k => exact vtells_ctx w s n x y o g s2 n2 x2 y2 o2 g2 k _ hA rfl
  | fp f k => exact vtells_fp w s n x y o g s2 n2 x2 y2 o2 g2 f k _ hA rfl
  | map i => exact vtells_map w s n x y o g s2 n2 x2 y2 o2 g2 i _ hA rfl
  | val m l k => exact vtells_val w s n x y o g s2 n2 x2 y2 o2 g2 m l k _ hA rfl
  | obj l j k e => exact vtells_obj w s n x y o g s2 n2 x2 y2 o2 g2 l j k e _ hA rfl
  | fn i => exact vtells_fn w s n x y o g s2 n2 x2 y2 o2 g2 i _ hA rfl

end Go.Proofs.Ytcddpmiandgkjaa
