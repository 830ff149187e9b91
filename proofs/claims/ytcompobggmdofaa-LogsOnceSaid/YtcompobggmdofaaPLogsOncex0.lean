-- Written by ext.sh (the session's own program, over the kit's printer) out of the translation. Lean checks it.
import Derived.Laws.Externs
import Derived.Laws.Pointers
import Derived.Laws.LoneSync
import Derived.Test.YtcompobggmdofaaShelf
import Derived.Defers
import Derived.RegionTactic
import Derived.RegionCalls
import Derived.Laws.NewBlocks
import Derived.Test.YtcompobggmdofaaProg
import Derived.Below
import Derived.Deep.Draws
import Derived.Deep.AppendLies
import Derived.Maps.AppendAt
import Derived.OwnWalk
import Derived.Laws.BytesArg
import Derived.Laws.MakeOwn
import Derived.Laws.OwnMore
import Derived.Deep.OwnRows
import Derived.Tactics
import Derived.Lib.ConvBytes
import Derived.Laws.Slices
import Derived.WalkKit
import Derived.KernelRfl
import Derived.RowKit3
import Derived.Deep.LoopGhost
import Derived.Deep.QuietTactic
import Derived.BigQuiet
import Derived.WideLaws
import Derived.Deep.DeepCutAuto
import Derived.Deep.CutBlock
import Derived.Deep.RegionHeld3
import Derived.Laws.Rows
import Derived.Lib.AppendStr
import Derived.ArgAppend
import Derived.Laws.IdiomCopy
import Derived.OrdersHeld
import Derived.Laws.BitsLemmas
import Derived.RowKit
import Derived.Test.YtcompobggmdofaaWWords
import Derived.Test.YtcompobggmdofaaWLast
import Derived.Test.YtcompobggmdofaaWTab
import Derived.Test.YtcompobggmdofaaWFour
import Derived.Test.YtcompobggmdofaaWQPut
import Derived.Test.YtcompobggmdofaaWApart
import Derived.Test.YtcompobggmdofaaWArr
import Derived.Test.YtcompobggmdofaaWZeros
import Derived.Test.YtcompobggmdofaaWFoot
import Derived.Test.YtcompobggmdofaaWKept
import Derived.Test.YtcompobggmdofaaWShare
import Derived.Test.YtcompobggmdofaaWN
import Derived.Test.YtcompobggmdofaaWFootNe
import Derived.Test.YtcompobggmdofaaWAt
import Derived.Test.YtcompobggmdofaaWEqStruct
import Derived.Test.YtcompobggmdofaaWRepsOne
import Derived.Test.YtcompobggmdofaaWInv
import Derived.Test.YtcompobggmdofaaWInvWords
import Derived.Test.YtcompobggmdofaaWGuard
import Derived.Test.YtcompobggmdofaaWNEv
import Derived.Test.YtcompobggmdofaaWMore
namespace Go.Proofs.Ytcompobggmdofaa.PLogsOnce
open Go.RowKit Go.Proofs.YtcompobggmdofaaW.PrintWords Go.Proofs.YtcompobggmdofaaW.PrintLast Go.Proofs.YtcompobggmdofaaW.PrintMore
attribute [local go_sem] max2_int min2_int max_two min_two max_three min_three max_four min_four   -- for this text's walks alone
set_option linter.unusedVariables false
set_option linter.unusedSimpArgs false



def errW : Option Int → Value
  | none => .nilIface
  | some c => .iface 0 (.int .i64 c)
theorem errW_none : errW none = .nilIface := rfl
theorem errW_some (c : Int) : errW (some c) = .iface 0 (.int .i64 c) := rfl

-- the values' own types

/-- sync/atomic.AddInt64: the sum, stored and handed back. -/
def atadd (P : Program) (a : Addr) (y : Int) (W : World) : Option Value → Bool → Result Next
  | some (.int .i64 x), false => .ok (.value (.int .i64 (wrap64 (x + y)))) (W.setCell a (.int .i64 (wrap64 (x + y))))
  | _, _ => (callFunc 32 #[.pointer (some a), .int .i64 y]).run P W
theorem atadd_law (a : Addr) (y : Int) (W : World) : (callFunc 32 #[.pointer (some a), .int .i64 y]).run Try.prog W = atadd Try.prog a y W (W.cell? a) (W.frozen? a) := by
  unfold atadd
  split
  · rename_i x hc hf
    exact run_call_add (P := Try.prog) Try.func32 (by kernel_rfl) (by kernel_rfl) (by kernel_rfl) .i64 (by kernel_rfl) (s := wrap64 (x + y)) hc hf (by simp [go_sem, wrap64, IntKind.wrap_i64])
  · rfl
theorem atadd_eq (a : Addr) (y : Int) (W : World) (x : Int) : atadd Try.prog a y W (some (.int .i64 x)) false = .ok (.value (.int .i64 (wrap64 (x + y)))) (W.setCell a (.int .i64 (wrap64 (x + y)))) := rfl

/-- sync/atomic.LoadInt64: what its cell holds. -/
def atload (P : Program) (a : Addr) (W : World) : Option Value → Result Next
  | some (.int .i64 x) => .ok (.value (.int .i64 x)) W
  | _ => (callFunc 24 #[.pointer (some a)]).run P W
theorem atload_law (a : Addr) (W : World) : (callFunc 24 #[.pointer (some a)]).run Try.prog W = atload Try.prog a W (W.cell? a) := by
  unfold atload
  split
  · rename_i x hc
    exact run_call_load (P := Try.prog) Try.func24 (by kernel_rfl) (by kernel_rfl) (by kernel_rfl) .i64 (by kernel_rfl) hc
  · rfl
theorem atload_eq (a : Addr) (W : World) (x : Int) : atload Try.prog a W (some (.int .i64 x)) = .ok (.value (.int .i64 x)) W := rfl

end Go.Proofs.Ytcompobggmdofaa.PLogsOnce
