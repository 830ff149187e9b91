-- Written by ext.sh (the session's own program, over the kit's printer) out of the translation. Lean checks it.
import Derived.Laws.Externs
import Derived.Laws.Pointers
import Derived.Lib.SliceRun
import Derived.Shelf.Spec.SlicesInsert
import Derived.Shelf.Spec.SlicesInsertGrow
import Derived.Test.YtobipigioaoaiaaProg
import Derived.Below
import Derived.Deep.Draws
import Derived.Deep.AppendLies
import Derived.Maps.AppendAt
import Derived.OwnWalk
import Derived.Laws.BytesArg
import Derived.Laws.MakeOwn
import Derived.Laws.OwnMore
import Derived.Deep.OwnRows
import Derived.Tactics
import Derived.Lib.ConvBytes
import Derived.Laws.Slices
import Derived.WalkKit
import Derived.KernelRfl
import Derived.RowKit3
import Derived.Deep.LoopGhost
import Derived.Deep.QuietTactic
import Derived.BigQuiet
import Derived.WideLaws
import Derived.Deep.DeepCutAuto
import Derived.Deep.CutBlock
import Derived.Deep.RegionHeld3
import Derived.Laws.Rows
import Derived.Lib.AppendStr
import Derived.ArgAppend
import Derived.Laws.IdiomCopy
import Derived.OrdersHeld
import Derived.Laws.BitsLemmas
import Derived.RowKit
import Derived.Test.YtobipigioaoaiaaWWords
import Derived.Test.YtobipigioaoaiaaWLast
import Derived.Test.YtobipigioaoaiaaWTab
import Derived.Test.YtobipigioaoaiaaWFour
import Derived.Test.YtobipigioaoaiaaWQPut
import Derived.Test.YtobipigioaoaiaaWApart
import Derived.Test.YtobipigioaoaiaaWArr
import Derived.Test.YtobipigioaoaiaaWZeros
import Derived.Test.YtobipigioaoaiaaWFoot
import Derived.Test.YtobipigioaoaiaaWKept
import Derived.Test.YtobipigioaoaiaaWShare
import Derived.Test.YtobipigioaoaiaaWN
import Derived.Test.YtobipigioaoaiaaWFootNe
import Derived.Test.YtobipigioaoaiaaWAt
import Derived.Test.YtobipigioaoaiaaWEqStruct
import Derived.Test.YtobipigioaoaiaaWRepsOne
import Derived.Test.YtobipigioaoaiaaWInv
import Derived.Test.YtobipigioaoaiaaWInvWords
import Derived.Test.YtobipigioaoaiaaWGuard
import Derived.Test.YtobipigioaoaiaaWNEv
import Derived.Test.YtobipigioaoaiaaWMore
namespace Go.Proofs.Ytobipigioaoaiaa.PDetectRow
open Go.RowKit Go.Proofs.YtobipigioaoaiaaW.PrintWords Go.Proofs.YtobipigioaoaiaaW.PrintLast Go.Proofs.YtobipigioaoaiaaW.PrintMore
attribute [local go_sem] max2_int min2_int max_two min_two max_three min_three max_four min_four   -- for this text's walks alone
set_option linter.unusedVariables false
set_option linter.unusedSimpArgs false



def errW : Option Int → Value
  | none => .nilIface
  | some c => .iface 0 (.int .i64 c)
theorem errW_none : errW none = .nilIface := rfl
theorem errW_some (c : Int) : errW (some c) = .iface 0 (.int .i64 c) := rfl

theorem info3 : (Try.prog.info? 3).map (fun i => (i.zero, i.size, i.bytes)) = some (some (.int .i64 0), 1, 8) := by kernel_rfl
-- the values' own types

end Go.Proofs.Ytobipigioaoaiaa.PDetectRow
