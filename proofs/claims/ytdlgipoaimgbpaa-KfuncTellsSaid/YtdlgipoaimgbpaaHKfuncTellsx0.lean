/- Written by a program of this session (printh.py), by the print of the kit over contracts of this session: what the calls that a law reaches answer, and the row of the law out of its plain statement. Not trusted: Lean checks it. -/
import Derived.Test.YtdlgipoaimgbpaaProg
import Derived.Test.YtdlgipoaimgbpaaKfunCalls
import Derived.Test.YtdlgipoaimgbpaaKTakes
import Derived.Test.YtdlgipoaimgbpaaKfunRefO
import Derived.Below
import Derived.Deep.Draws
import Derived.Deep.AppendLies
import Derived.Maps.AppendAt
import Derived.OwnWalk
import Derived.Laws.BytesArg
import Derived.Laws.MakeOwn
import Derived.Laws.OwnMore
import Derived.Deep.OwnRows
import Derived.Tactics
import Derived.Lib.ConvBytes
import Derived.Laws.Slices
import Derived.WalkKit
import Derived.KernelRfl
import Derived.RowKit3
import Derived.Deep.LoopGhost
import Derived.Deep.QuietTactic
import Derived.BigQuiet
import Derived.WideLaws
import Derived.Deep.DeepCutAuto
import Derived.Deep.CutBlock
import Derived.Deep.RegionHeld3
import Derived.Laws.Rows
import Derived.Lib.AppendStr
import Derived.ArgAppend
import Derived.Laws.IdiomCopy
import Derived.OrdersHeld
import Derived.Laws.BitsLemmas
import Derived.RowKit
import Derived.Test.YtdlgipoaimgbpaaWWords
import Derived.Test.YtdlgipoaimgbpaaWLast
import Derived.Test.YtdlgipoaimgbpaaWTab
import Derived.Test.YtdlgipoaimgbpaaWFour
import Derived.Test.YtdlgipoaimgbpaaWQPut
import Derived.Test.YtdlgipoaimgbpaaWApart
import Derived.Test.YtdlgipoaimgbpaaWArr
import Derived.Test.YtdlgipoaimgbpaaWZeros
import Derived.Test.YtdlgipoaimgbpaaWFoot
import Derived.Test.YtdlgipoaimgbpaaWKept
import Derived.Test.YtdlgipoaimgbpaaWShare
import Derived.Test.YtdlgipoaimgbpaaWN
import Derived.Test.YtdlgipoaimgbpaaWFootNe
import Derived.Test.YtdlgipoaimgbpaaWAt
import Derived.Test.YtdlgipoaimgbpaaWEqStruct
import Derived.Test.YtdlgipoaimgbpaaWRepsOne
import Derived.Test.YtdlgipoaimgbpaaWInv
import Derived.Test.YtdlgipoaimgbpaaWInvWords
import Derived.Test.YtdlgipoaimgbpaaWGuard
import Derived.Test.YtdlgipoaimgbpaaWNEv
import Derived.Test.YtdlgipoaimgbpaaWMore
namespace Go.Proofs.Ytdlgipoaimgbpaa.HKfuncTells
open Go.RowKit Go.Proofs.YtdlgipoaimgbpaaW.PrintWords Go.Proofs.YtdlgipoaimgbpaaW.PrintLast Go.Proofs.YtdlgipoaimgbpaaW.PrintMore
attribute [local go_sem] max2_int min2_int max_two min_two max_three min_three max_four min_four   -- for this text's walks alone
set_option linter.unusedVariables false
set_option linter.unusedSimpArgs false



def errW : Option Int → Value
  | none => .nilIface
  | some c => .iface 0 (.int .i64 c)
theorem errW_none : errW none = .nilIface := rfl
theorem errW_some (c : Int) : errW (some c) = .iface 0 (.int .i64 c) := rfl

theorem info9 : (Try.prog.info? 9).map (fun i => (i.zero, i.size, i.bytes)) = some (some (.string ⟨#[]⟩), 1, 16) := by kernel_rfl
-- the values' own types

end Go.Proofs.Ytdlgipoaimgbpaa.HKfuncTells
