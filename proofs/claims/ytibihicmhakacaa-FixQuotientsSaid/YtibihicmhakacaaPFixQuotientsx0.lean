-- Written by ext.sh (the session's own program, over the kit's printer) out of the translation. Lean checks it.
import Derived.Laws.Externs
import Derived.Test.YtibihicmhakacaaShelf
import Derived.Test.YtibihicmhakacaaProg
import Derived.Below
import Derived.Deep.Draws
import Derived.Deep.AppendLies
import Derived.Maps.AppendAt
import Derived.OwnWalk
import Derived.Laws.BytesArg
import Derived.Laws.MakeOwn
import Derived.Laws.OwnMore
import Derived.Deep.OwnRows
import Derived.Tactics
import Derived.Lib.ConvBytes
import Derived.Laws.Slices
import Derived.WalkKit
import Derived.KernelRfl
import Derived.RowKit3
import Derived.Deep.LoopGhost
import Derived.Deep.QuietTactic
import Derived.BigQuiet
import Derived.WideLaws
import Derived.Deep.DeepCutAuto
import Derived.Deep.CutBlock
import Derived.Deep.RegionHeld3
import Derived.Laws.Rows
import Derived.Lib.AppendStr
import Derived.ArgAppend
import Derived.Laws.IdiomCopy
import Derived.OrdersHeld
import Derived.Laws.BitsLemmas
import Derived.RowKit
import Derived.Test.YtibihicmhakacaaWWords
import Derived.Test.YtibihicmhakacaaWLast
import Derived.Test.YtibihicmhakacaaWTab
import Derived.Test.YtibihicmhakacaaWFour
import Derived.Test.YtibihicmhakacaaWQPut
import Derived.Test.YtibihicmhakacaaWApart
import Derived.Test.YtibihicmhakacaaWArr
import Derived.Test.YtibihicmhakacaaWZeros
import Derived.Test.YtibihicmhakacaaWFoot
import Derived.Test.YtibihicmhakacaaWKept
import Derived.Test.YtibihicmhakacaaWShare
import Derived.Test.YtibihicmhakacaaWN
import Derived.Test.YtibihicmhakacaaWFootNe
import Derived.Test.YtibihicmhakacaaWAt
import Derived.Test.YtibihicmhakacaaWEqStruct
import Derived.Test.YtibihicmhakacaaWRepsOne
import Derived.Test.YtibihicmhakacaaWInv
import Derived.Test.YtibihicmhakacaaWInvWords
import Derived.Test.YtibihicmhakacaaWGuard
import Derived.Test.YtibihicmhakacaaWNEv
import Derived.Test.YtibihicmhakacaaWMore
namespace Go.Proofs.Ytibihicmhakacaa.PFixQuotients
open Go.RowKit Go.Proofs.YtibihicmhakacaaW.PrintWords Go.Proofs.YtibihicmhakacaaW.PrintLast Go.Proofs.YtibihicmhakacaaW.PrintMore
attribute [local go_sem] max2_int min2_int max_two min_two max_three min_three max_four min_four   -- for this text's walks alone
set_option linter.unusedVariables false
set_option linter.unusedSimpArgs false



def errW : Option Int → Value
  | none => .nilIface
  | some c => .iface 0 (.int .i64 c)
theorem errW_none : errW none = .nilIface := rfl
theorem errW_some (c : Int) : errW (some c) = .iface 0 (.int .i64 c) := rfl

theorem info3 : (Try.prog.info? 3).map (fun i => (i.zero, i.size, i.bytes)) = some (some (.int .i64 0), 1, 8) := by kernel_rfl
-- the values' own types

end Go.Proofs.Ytibihicmhakacaa.PFixQuotients
