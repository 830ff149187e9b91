-- Written by ext.sh (the session's own program, over the kit's printer) out of the translation. Lean checks it.
import Derived.Laws.Externs
import Derived.Laws.Pointers
import Derived.Laws.LoneSync
import Derived.Test.YtejminfpgnlpkaaShelf
import Derived.Defers
import Derived.RegionTactic
import Derived.RegionCalls
import Derived.Laws.NewBlocks
import Derived.Test.YtejminfpgnlpkaaProg
import Derived.Below
import Derived.Deep.Draws
import Derived.Deep.AppendLies
import Derived.Maps.AppendAt
import Derived.OwnWalk
import Derived.Laws.BytesArg
import Derived.Laws.MakeOwn
import Derived.Laws.OwnMore
import Derived.Deep.OwnRows
import Derived.Tactics
import Derived.Lib.ConvBytes
import Derived.Laws.Slices
import Derived.WalkKit
import Derived.KernelRfl
import Derived.RowKit3
import Derived.Deep.LoopGhost
import Derived.Deep.QuietTactic
import Derived.BigQuiet
import Derived.WideLaws
import Derived.Deep.DeepCutAuto
import Derived.Deep.CutBlock
import Derived.Deep.RegionHeld3
import Derived.Laws.Rows
import Derived.Lib.AppendStr
import Derived.ArgAppend
import Derived.Laws.IdiomCopy
import Derived.OrdersHeld
import Derived.Laws.BitsLemmas
import Derived.RowKit
import Derived.Test.YtejminfpgnlpkaaWWords
import Derived.Test.YtejminfpgnlpkaaWLast
import Derived.Test.YtejminfpgnlpkaaWTab
import Derived.Test.YtejminfpgnlpkaaWFour
import Derived.Test.YtejminfpgnlpkaaWQPut
import Derived.Test.YtejminfpgnlpkaaWApart
import Derived.Test.YtejminfpgnlpkaaWArr
import Derived.Test.YtejminfpgnlpkaaWZeros
import Derived.Test.YtejminfpgnlpkaaWFoot
import Derived.Test.YtejminfpgnlpkaaWKept
import Derived.Test.YtejminfpgnlpkaaWShare
import Derived.Test.YtejminfpgnlpkaaWN
import Derived.Test.YtejminfpgnlpkaaWFootNe
import Derived.Test.YtejminfpgnlpkaaWAt
import Derived.Test.YtejminfpgnlpkaaWEqStruct
import Derived.Test.YtejminfpgnlpkaaWRepsOne
import Derived.Test.YtejminfpgnlpkaaWInv
import Derived.Test.YtejminfpgnlpkaaWInvWords
import Derived.Test.YtejminfpgnlpkaaWGuard
import Derived.Test.YtejminfpgnlpkaaWNEv
import Derived.Test.YtejminfpgnlpkaaWMore
namespace Go.Proofs.Ytejminfpgnlpkaa.PSuppressWaits
open Go.RowKit Go.Proofs.YtejminfpgnlpkaaW.PrintWords Go.Proofs.YtejminfpgnlpkaaW.PrintLast Go.Proofs.YtejminfpgnlpkaaW.PrintMore
attribute [local go_sem] max2_int min2_int max_two min_two max_three min_three max_four min_four   -- for this text's walks alone
set_option linter.unusedVariables false
set_option linter.unusedSimpArgs false



def errW : Option Int → Value
  | none => .nilIface
  | some c => .iface 0 (.int .i64 c)
theorem errW_none : errW none = .nilIface := rfl
theorem errW_some (c : Int) : errW (some c) = .iface 0 (.int .i64 c) := rfl

theorem info3 : (Try.prog.info? 3).map (fun i => (i.zero, i.size, i.bytes)) = some (some (.int .i64 0), 1, 8) := by kernel_rfl
-- the values' own types

/-- sync/atomic.AddInt64: the sum, stored and handed back. -/
def atadd (P : Program) (a : Addr) (y : Int) (W : World) : Option Value → Bool → Result Next
  | some (.int .i64 x), false => .ok (.value (.int .i64 (wrap64 (x + y)))) (W.setCell a (.int .i64 (wrap64 (x + y))))
  | _, _ => (callFunc 56 #[.pointer (some a), .int .i64 y]).run P W
theorem atadd_law (a : Addr) (y : Int) (W : World) : (callFunc 56 #[.pointer (some a), .int .i64 y]).run Try.prog W = atadd Try.prog a y W (W.cell? a) (W.frozen? a) := by
  unfold atadd
  split
  · rename_i x hc hf
    exact run_call_add (P := Try.prog) Try.func56 (by kernel_rfl) (by kernel_rfl) (by kernel_rfl) .i64 (by kernel_rfl) (s := wrap64 (x + y)) hc hf (by simp [go_sem, wrap64, IntKind.wrap_i64])
  · rfl
theorem atadd_eq (a : Addr) (y : Int) (W : World) (x : Int) : atadd Try.prog a y W (some (.int .i64 x)) false = .ok (.value (.int .i64 (wrap64 (x + y)))) (W.setCell a (.int .i64 (wrap64 (x + y)))) := rfl

end Go.Proofs.Ytejminfpgnlpkaa.PSuppressWaits
