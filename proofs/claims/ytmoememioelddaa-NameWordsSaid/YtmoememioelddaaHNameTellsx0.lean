/- Written by a program of this session (printh.py), by the print of the kit over contracts of this session: what the calls that a law reaches answer, and the row of the law out of its plain statement. Not trusted: Lean checks it. -/
import Derived.Test.YtmoememioelddaaProg
import Derived.Test.YtmoememioelddaaNameWords
import Derived.Below
import Derived.Deep.Draws
import Derived.Deep.AppendLies
import Derived.Maps.AppendAt
import Derived.OwnWalk
import Derived.Laws.BytesArg
import Derived.Laws.MakeOwn
import Derived.Laws.OwnMore
import Derived.Deep.OwnRows
import Derived.Tactics
import Derived.Lib.ConvBytes
import Derived.Laws.Slices
import Derived.WalkKit
import Derived.KernelRfl
import Derived.RowKit3
import Derived.Deep.LoopGhost
import Derived.Deep.QuietTactic
import Derived.BigQuiet
import Derived.WideLaws
import Derived.Deep.DeepCutAuto
import Derived.Deep.CutBlock
import Derived.Deep.RegionHeld3
import Derived.Laws.Rows
import Derived.Lib.AppendStr
import Derived.ArgAppend
import Derived.Laws.IdiomCopy
import Derived.OrdersHeld
import Derived.Laws.BitsLemmas
import Derived.RowKit
import Derived.Test.YtmoememioelddaaWWords
import Derived.Test.YtmoememioelddaaWLast
import Derived.Test.YtmoememioelddaaWTab
import Derived.Test.YtmoememioelddaaWFour
import Derived.Test.YtmoememioelddaaWQPut
import Derived.Test.YtmoememioelddaaWApart
import Derived.Test.YtmoememioelddaaWArr
import Derived.Test.YtmoememioelddaaWZeros
import Derived.Test.YtmoememioelddaaWFoot
import Derived.Test.YtmoememioelddaaWKept
import Derived.Test.YtmoememioelddaaWShare
import Derived.Test.YtmoememioelddaaWN
import Derived.Test.YtmoememioelddaaWFootNe
import Derived.Test.YtmoememioelddaaWAt
import Derived.Test.YtmoememioelddaaWEqStruct
import Derived.Test.YtmoememioelddaaWRepsOne
import Derived.Test.YtmoememioelddaaWInv
import Derived.Test.YtmoememioelddaaWInvWords
import Derived.Test.YtmoememioelddaaWGuard
import Derived.Test.YtmoememioelddaaWNEv
import Derived.Test.YtmoememioelddaaWMore
namespace Go.Proofs.Ytmoememioelddaa.HNameTells
open Go.RowKit Go.Proofs.YtmoememioelddaaW.PrintWords Go.Proofs.YtmoememioelddaaW.PrintLast Go.Proofs.YtmoememioelddaaW.PrintMore
attribute [local go_sem] max2_int min2_int max_two min_two max_three min_three max_four min_four   -- for this text's walks alone
set_option linter.unusedVariables false
set_option linter.unusedSimpArgs false



def errW : Option Int → Value
  | none => .nilIface
  | some c => .iface 0 (.int .i64 c)
theorem errW_none : errW none = .nilIface := rfl
theorem errW_some (c : Int) : errW (some c) = .iface 0 (.int .i64 c) := rfl

theorem info3 : (Try.prog.info? 3).map (fun i => (i.zero, i.size, i.bytes)) = some (some (.int .i64 0), 1, 8) := by kernel_rfl
theorem info9 : (Try.prog.info? 9).map (fun i => (i.zero, i.size, i.bytes)) = some (some (.string ⟨#[]⟩), 1, 16) := by kernel_rfl
-- the values' own types

end Go.Proofs.Ytmoememioelddaa.HNameTells
