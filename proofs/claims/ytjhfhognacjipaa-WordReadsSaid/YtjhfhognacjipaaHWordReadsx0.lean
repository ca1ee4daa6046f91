/- Written by a program of this session (printh.py), by the print of the kit over contracts of this session: what the calls that a law reaches answer, and the row of the law out of its plain statement. Not trusted: Lean checks it. -/
import Derived.Test.YtjhfhognacjipaaProg
import Derived.Test.YtjhfhognacjipaaWordWalks
import Derived.Below
import Derived.Deep.Draws
import Derived.Deep.AppendLies
import Derived.Maps.AppendAt
import Derived.OwnWalk
import Derived.Laws.BytesArg
import Derived.Laws.MakeOwn
import Derived.Laws.OwnMore
import Derived.Deep.OwnRows
import Derived.Tactics
import Derived.Lib.ConvBytes
import Derived.Laws.Slices
import Derived.WalkKit
import Derived.KernelRfl
import Derived.RowKit3
import Derived.Deep.LoopGhost
import Derived.Deep.QuietTactic
import Derived.BigQuiet
import Derived.WideLaws
import Derived.Deep.DeepCutAuto
import Derived.Deep.CutBlock
import Derived.Deep.RegionHeld3
import Derived.Laws.Rows
import Derived.Lib.AppendStr
import Derived.ArgAppend
import Derived.Laws.IdiomCopy
import Derived.OrdersHeld
import Derived.Laws.BitsLemmas
import Derived.RowKit
import Derived.Test.YtjhfhognacjipaaWWords
import Derived.Test.YtjhfhognacjipaaWLast
import Derived.Test.YtjhfhognacjipaaWTab
import Derived.Test.YtjhfhognacjipaaWFour
import Derived.Test.YtjhfhognacjipaaWQPut
import Derived.Test.YtjhfhognacjipaaWApart
import Derived.Test.YtjhfhognacjipaaWArr
import Derived.Test.YtjhfhognacjipaaWZeros
import Derived.Test.YtjhfhognacjipaaWFoot
import Derived.Test.YtjhfhognacjipaaWKept
import Derived.Test.YtjhfhognacjipaaWShare
import Derived.Test.YtjhfhognacjipaaWN
import Derived.Test.YtjhfhognacjipaaWFootNe
import Derived.Test.YtjhfhognacjipaaWAt
import Derived.Test.YtjhfhognacjipaaWEqStruct
import Derived.Test.YtjhfhognacjipaaWRepsOne
import Derived.Test.YtjhfhognacjipaaWInv
import Derived.Test.YtjhfhognacjipaaWInvWords
import Derived.Test.YtjhfhognacjipaaWGuard
import Derived.Test.YtjhfhognacjipaaWNEv
import Derived.Test.YtjhfhognacjipaaWMore
namespace Go.Proofs.Ytjhfhognacjipaa.HWordReads
open Go.RowKit Go.Proofs.YtjhfhognacjipaaW.PrintWords Go.Proofs.YtjhfhognacjipaaW.PrintLast Go.Proofs.YtjhfhognacjipaaW.PrintMore
attribute [local go_sem] max2_int min2_int max_two min_two max_three min_three max_four min_four   -- for this text's walks alone
set_option linter.unusedVariables false
set_option linter.unusedSimpArgs false



def errW : Option Int → Value
  | none => .nilIface
  | some c => .iface 0 (.int .i64 c)
theorem errW_none : errW none = .nilIface := rfl
theorem errW_some (c : Int) : errW (some c) = .iface 0 (.int .i64 c) := rfl

-- the values' own types

end Go.Proofs.Ytjhfhognacjipaa.HWordReads
