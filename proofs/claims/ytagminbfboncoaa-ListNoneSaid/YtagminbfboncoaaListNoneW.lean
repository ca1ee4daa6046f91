import Derived.Test.YtagminbfboncoaaListNone
import Derived.Test.YtagminbfboncoaaShapes
/-! Package list: the law ListNone, in the row's form. -/
namespace Go.Proofs.Ytagminbfboncoaa
open Go.RowKit

theorem list_none_law (w : World) (y : S29) (u : y.ok) (front : Bool) :
    Calls Try.prog 6 #[.agg y.cells.toArray, .bool front] w fun e w' => e = .returned (.bool true) ∧ Below w.heap.size w w' :=
  list_none_walk w (y.Slot, y.Gen) ⟨u.1, u.2⟩ front

end Go.Proofs.Ytagminbfboncoaa
