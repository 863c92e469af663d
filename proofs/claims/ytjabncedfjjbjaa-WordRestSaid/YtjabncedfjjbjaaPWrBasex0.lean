-- written by wip/pp.py: the kit's print with hand-proved callees laid in; Lean checks it
import Derived.Test.YtjabncedfjjbjaaProg
import Derived.Below
import Derived.Deep.Draws
import Derived.Deep.AppendLies
import Derived.Maps.AppendAt
import Derived.OwnWalk
import Derived.Laws.BytesArg
import Derived.Laws.MakeOwn
import Derived.Laws.OwnMore
import Derived.Deep.OwnRows
import Derived.Tactics
import Derived.Lib.ConvBytes
import Derived.Laws.Slices
import Derived.WalkKit
import Derived.KernelRfl
import Derived.RowKit3
import Derived.Deep.LoopGhost
import Derived.Deep.QuietTactic
import Derived.BigQuiet
import Derived.WideLaws
import Derived.Deep.DeepCutAuto
import Derived.Deep.CutBlock
import Derived.Deep.RegionHeld3
import Derived.Laws.Rows
import Derived.Lib.AppendStr
import Derived.ArgAppend
import Derived.Laws.IdiomCopy
import Derived.OrdersHeld
import Derived.Laws.BitsLemmas
import Derived.RowKit
import Derived.Test.YtjabncedfjjbjaaHb
import Derived.Test.YtjabncedfjjbjaaWWords
import Derived.Test.YtjabncedfjjbjaaWLast
import Derived.Test.YtjabncedfjjbjaaWTab
import Derived.Test.YtjabncedfjjbjaaWFour
import Derived.Test.YtjabncedfjjbjaaWQPut
import Derived.Test.YtjabncedfjjbjaaWApart
import Derived.Test.YtjabncedfjjbjaaWArr
import Derived.Test.YtjabncedfjjbjaaWZeros
import Derived.Test.YtjabncedfjjbjaaWFoot
import Derived.Test.YtjabncedfjjbjaaWKept
import Derived.Test.YtjabncedfjjbjaaWShare
import Derived.Test.YtjabncedfjjbjaaWN
import Derived.Test.YtjabncedfjjbjaaWFootNe
import Derived.Test.YtjabncedfjjbjaaWAt
import Derived.Test.YtjabncedfjjbjaaWEqStruct
import Derived.Test.YtjabncedfjjbjaaWRepsOne
import Derived.Test.YtjabncedfjjbjaaWInv
import Derived.Test.YtjabncedfjjbjaaWInvWords
import Derived.Test.YtjabncedfjjbjaaWGuard
import Derived.Test.YtjabncedfjjbjaaWNEv
import Derived.Test.YtjabncedfjjbjaaWMore
namespace Go.Proofs.Ytjabncedfjjbjaa.PWrBase
open Go.Proofs.Ytjabncedfjjbjaa.H
open Go.RowKit Go.Proofs.YtjabncedfjjbjaaW.PrintWords Go.Proofs.YtjabncedfjjbjaaW.PrintLast Go.Proofs.YtjabncedfjjbjaaW.PrintMore
attribute [local go_sem] max2_int min2_int max_two min_two max_three min_three max_four min_four   -- for this text's walks alone
set_option linter.unusedVariables false
set_option linter.unusedSimpArgs false



def errW : Option Int → Value
  | none => .nilIface
  | some c => .iface 0 (.int .i64 c)
theorem errW_none : errW none = .nilIface := rfl
theorem errW_some (c : Int) : errW (some c) = .iface 0 (.int .i64 c) := rfl

-- the values' own types

end Go.Proofs.Ytjabncedfjjbjaa.PWrBase
