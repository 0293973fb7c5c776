-- an own text, written by a program of this place (wip/tools)
import Derived.Test.YtippkbjdifmdnaaProg
import Derived.Below
import Derived.Deep.Draws
import Derived.Deep.AppendLies
import Derived.Maps.AppendAt
import Derived.OwnWalk
import Derived.Laws.BytesArg
import Derived.Laws.MakeOwn
import Derived.Laws.OwnMore
import Derived.Deep.OwnRows
import Derived.Tactics
import Derived.Lib.ConvBytes
import Derived.Laws.Slices
import Derived.WalkKit
import Derived.KernelRfl
import Derived.RowKit3
import Derived.Deep.LoopGhost
import Derived.Deep.QuietTactic
import Derived.BigQuiet
import Derived.WideLaws
import Derived.Deep.DeepCutAuto
import Derived.Deep.CutBlock
import Derived.Deep.RegionHeld3
import Derived.Laws.Rows
import Derived.Lib.AppendStr
import Derived.ArgAppend
import Derived.Laws.IdiomCopy
import Derived.OrdersHeld
import Derived.Laws.BitsLemmas
import Derived.RowKit
import Derived.Test.YtippkbjdifmdnaaGivZ
import Derived.Test.YtippkbjdifmdnaaWWords
import Derived.Test.YtippkbjdifmdnaaWLast
import Derived.Test.YtippkbjdifmdnaaWTab
import Derived.Test.YtippkbjdifmdnaaWFour
import Derived.Test.YtippkbjdifmdnaaWQPut
import Derived.Test.YtippkbjdifmdnaaWApart
import Derived.Test.YtippkbjdifmdnaaWArr
import Derived.Test.YtippkbjdifmdnaaWZeros
import Derived.Test.YtippkbjdifmdnaaWFoot
import Derived.Test.YtippkbjdifmdnaaWKept
import Derived.Test.YtippkbjdifmdnaaWShare
import Derived.Test.YtippkbjdifmdnaaWN
import Derived.Test.YtippkbjdifmdnaaWFootNe
import Derived.Test.YtippkbjdifmdnaaWAt
import Derived.Test.YtippkbjdifmdnaaWEqStruct
import Derived.Test.YtippkbjdifmdnaaWRepsOne
import Derived.Test.YtippkbjdifmdnaaWInv
import Derived.Test.YtippkbjdifmdnaaWInvWords
import Derived.Test.YtippkbjdifmdnaaWGuard
import Derived.Test.YtippkbjdifmdnaaWNEv
import Derived.Test.YtippkbjdifmdnaaWMore
namespace Go.Proofs.Ytippkbjdifmdnaa.PF
open Go.RowKit Go.Proofs.YtippkbjdifmdnaaW.PrintWords Go.Proofs.YtippkbjdifmdnaaW.PrintLast Go.Proofs.YtippkbjdifmdnaaW.PrintMore
attribute [local go_sem] max2_int min2_int max_two min_two max_three min_three max_four min_four   -- for this text's walks alone
set_option linter.unusedVariables false
set_option linter.unusedSimpArgs false



def errW : Option Int → Value
  | none => .nilIface
  | some c => .iface 0 (.int .i64 c)
theorem errW_none : errW none = .nilIface := rfl
theorem errW_some (c : Int) : errW (some c) = .iface 0 (.int .i64 c) := rfl

theorem info2 : (Try.prog.info? 2).map (fun i => (i.zero, i.size, i.bytes)) = some (some (.int .i64 0), 1, 8) := by kernel_rfl
-- the values' own types

end Go.Proofs.Ytippkbjdifmdnaa.PF
