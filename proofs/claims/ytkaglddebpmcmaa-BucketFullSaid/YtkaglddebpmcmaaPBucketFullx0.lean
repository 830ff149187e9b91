-- Written by ext.sh (the session's own program, over the kit's printer) out of the translation. Lean checks it.
import Derived.Laws.Externs
import Derived.Laws.Pointers
import Derived.Laws.LoneSync
import Derived.Test.YtkaglddebpmcmaaProg
import Derived.Below
import Derived.Deep.Draws
import Derived.Deep.AppendLies
import Derived.Maps.AppendAt
import Derived.OwnWalk
import Derived.Laws.BytesArg
import Derived.Laws.MakeOwn
import Derived.Laws.OwnMore
import Derived.Deep.OwnRows
import Derived.Tactics
import Derived.Lib.ConvBytes
import Derived.Laws.Slices
import Derived.WalkKit
import Derived.KernelRfl
import Derived.RowKit3
import Derived.Deep.LoopGhost
import Derived.Deep.QuietTactic
import Derived.BigQuiet
import Derived.WideLaws
import Derived.Deep.DeepCutAuto
import Derived.Deep.CutBlock
import Derived.Deep.RegionHeld3
import Derived.Laws.Rows
import Derived.Lib.AppendStr
import Derived.ArgAppend
import Derived.Laws.IdiomCopy
import Derived.OrdersHeld
import Derived.Laws.BitsLemmas
import Derived.RowKit
import Derived.Test.YtkaglddebpmcmaaWWords
import Derived.Test.YtkaglddebpmcmaaWLast
import Derived.Test.YtkaglddebpmcmaaWTab
import Derived.Test.YtkaglddebpmcmaaWFour
import Derived.Test.YtkaglddebpmcmaaWQPut
import Derived.Test.YtkaglddebpmcmaaWApart
import Derived.Test.YtkaglddebpmcmaaWArr
import Derived.Test.YtkaglddebpmcmaaWZeros
import Derived.Test.YtkaglddebpmcmaaWFoot
import Derived.Test.YtkaglddebpmcmaaWKept
import Derived.Test.YtkaglddebpmcmaaWShare
import Derived.Test.YtkaglddebpmcmaaWN
import Derived.Test.YtkaglddebpmcmaaWFootNe
import Derived.Test.YtkaglddebpmcmaaWAt
import Derived.Test.YtkaglddebpmcmaaWEqStruct
import Derived.Test.YtkaglddebpmcmaaWRepsOne
import Derived.Test.YtkaglddebpmcmaaWInv
import Derived.Test.YtkaglddebpmcmaaWInvWords
import Derived.Test.YtkaglddebpmcmaaWGuard
import Derived.Test.YtkaglddebpmcmaaWNEv
import Derived.Test.YtkaglddebpmcmaaWMore
namespace Go.Proofs.Ytkaglddebpmcmaa.PBucketFull
open Go.RowKit Go.Proofs.YtkaglddebpmcmaaW.PrintWords Go.Proofs.YtkaglddebpmcmaaW.PrintLast Go.Proofs.YtkaglddebpmcmaaW.PrintMore
attribute [local go_sem] max2_int min2_int max_two min_two max_three min_three max_four min_four   -- for this text's walks alone
set_option linter.unusedVariables false
set_option linter.unusedSimpArgs false



def errW : Option Int → Value
  | none => .nilIface
  | some c => .iface 0 (.int .i64 c)
theorem errW_none : errW none = .nilIface := rfl
theorem errW_some (c : Int) : errW (some c) = .iface 0 (.int .i64 c) := rfl

-- the values' own types

/-- The sum's last 64 bits, and its carry. -/
def addS (x y : Int) : Int := ((x.toNat + y.toNat) % 18446744073709551616 : Nat)
def addC (x y : Int) : Int := ((x.toNat + y.toNat) / 18446744073709551616 : Nat)
theorem add64_law (x y : Int) (w : World) : (callFunc 30 #[.int .u64 x, .int .u64 y, .int .u64 0]).run Try.prog w = .ok (.value (.tuple #[.int .u64 (addS x y), .int .u64 (addC x y)])) w := by
  rw [run_callFunc_extern Try.func30 (by kernel_rfl) (by kernel_rfl) (by kernel_rfl) (e := add64Entry) (by kernel_rfl)]
  have h : (add64Entry #[.int .u64 x, .int .u64 y, .int .u64 0]).run Try.prog w = .ok (Extern.MathBitsCarry.pair ((x.toNat + y.toNat + 0) % Extern.MathBitsCarry.m64) ((x.toNat + y.toNat + 0) / Extern.MathBitsCarry.m64)) w := rfl
  rw [h]; rfl

/-- sync/atomic.AddInt64: the sum, stored and handed back. -/
def atadd (P : Program) (a : Addr) (y : Int) (W : World) : Option Value → Bool → Result Next
  | some (.int .i64 x), false => .ok (.value (.int .i64 (wrap64 (x + y)))) (W.setCell a (.int .i64 (wrap64 (x + y))))
  | _, _ => (callFunc 31 #[.pointer (some a), .int .i64 y]).run P W
theorem atadd_law (a : Addr) (y : Int) (W : World) : (callFunc 31 #[.pointer (some a), .int .i64 y]).run Try.prog W = atadd Try.prog a y W (W.cell? a) (W.frozen? a) := by
  unfold atadd
  split
  · rename_i x hc hf
    exact run_call_add (P := Try.prog) Try.func31 (by kernel_rfl) (by kernel_rfl) (by kernel_rfl) .i64 (by kernel_rfl) (s := wrap64 (x + y)) hc hf (by simp [go_sem, wrap64, IntKind.wrap_i64])
  · rfl
theorem atadd_eq (a : Addr) (y : Int) (W : World) (x : Int) : atadd Try.prog a y W (some (.int .i64 x)) false = .ok (.value (.int .i64 (wrap64 (x + y)))) (W.setCell a (.int .i64 (wrap64 (x + y)))) := rfl

/-- sync/atomic.LoadInt64: what its cell holds. -/
def atload (P : Program) (a : Addr) (W : World) : Option Value → Result Next
  | some (.int .i64 x) => .ok (.value (.int .i64 x)) W
  | _ => (callFunc 32 #[.pointer (some a)]).run P W
theorem atload_law (a : Addr) (W : World) : (callFunc 32 #[.pointer (some a)]).run Try.prog W = atload Try.prog a W (W.cell? a) := by
  unfold atload
  split
  · rename_i x hc
    exact run_call_load (P := Try.prog) Try.func32 (by kernel_rfl) (by kernel_rfl) (by kernel_rfl) .i64 (by kernel_rfl) hc
  · rfl
theorem atload_eq (a : Addr) (W : World) (x : Int) : atload Try.prog a W (some (.int .i64 x)) = .ok (.value (.int .i64 x)) W := rfl

end Go.Proofs.Ytkaglddebpmcmaa.PBucketFull
