-- Written by ext.sh (the session's own program, over the kit's printer) out of the translation. Lean checks it.
import Derived.Laws.Externs
import Derived.Laws.Pointers
import Derived.Test.YtknkpnommhdhlaaShelf
import Derived.Test.YtknkpnommhdhlaaProg
import Derived.Below
import Derived.Deep.Draws
import Derived.Deep.AppendLies
import Derived.Maps.AppendAt
import Derived.OwnWalk
import Derived.Laws.BytesArg
import Derived.Laws.MakeOwn
import Derived.Laws.OwnMore
import Derived.Deep.OwnRows
import Derived.Tactics
import Derived.Lib.ConvBytes
import Derived.Laws.Slices
import Derived.WalkKit
import Derived.KernelRfl
import Derived.RowKit3
import Derived.Deep.LoopGhost
import Derived.Deep.QuietTactic
import Derived.BigQuiet
import Derived.WideLaws
import Derived.Deep.DeepCutAuto
import Derived.Deep.CutBlock
import Derived.Deep.RegionHeld3
import Derived.Laws.Rows
import Derived.Lib.AppendStr
import Derived.ArgAppend
import Derived.Laws.IdiomCopy
import Derived.OrdersHeld
import Derived.Laws.BitsLemmas
import Derived.RowKit
import Derived.Test.YtknkpnommhdhlaaWWords
import Derived.Test.YtknkpnommhdhlaaWLast
import Derived.Test.YtknkpnommhdhlaaWTab
import Derived.Test.YtknkpnommhdhlaaWFour
import Derived.Test.YtknkpnommhdhlaaWQPut
import Derived.Test.YtknkpnommhdhlaaWApart
import Derived.Test.YtknkpnommhdhlaaWArr
import Derived.Test.YtknkpnommhdhlaaWZeros
import Derived.Test.YtknkpnommhdhlaaWFoot
import Derived.Test.YtknkpnommhdhlaaWKept
import Derived.Test.YtknkpnommhdhlaaWShare
import Derived.Test.YtknkpnommhdhlaaWN
import Derived.Test.YtknkpnommhdhlaaWFootNe
import Derived.Test.YtknkpnommhdhlaaWAt
import Derived.Test.YtknkpnommhdhlaaWEqStruct
import Derived.Test.YtknkpnommhdhlaaWRepsOne
import Derived.Test.YtknkpnommhdhlaaWInv
import Derived.Test.YtknkpnommhdhlaaWInvWords
import Derived.Test.YtknkpnommhdhlaaWGuard
import Derived.Test.YtknkpnommhdhlaaWNEv
import Derived.Test.YtknkpnommhdhlaaWMore
namespace Go.Proofs.Ytknkpnommhdhlaa.PSpeedComes
open Go.RowKit Go.Proofs.YtknkpnommhdhlaaW.PrintWords Go.Proofs.YtknkpnommhdhlaaW.PrintLast Go.Proofs.YtknkpnommhdhlaaW.PrintMore
attribute [local go_sem] max2_int min2_int max_two min_two max_three min_three max_four min_four   -- for this text's walks alone
set_option linter.unusedVariables false
set_option linter.unusedSimpArgs false



def errW : Option Int → Value
  | none => .nilIface
  | some c => .iface 0 (.int .i64 c)
theorem errW_none : errW none = .nilIface := rfl
theorem errW_some (c : Int) : errW (some c) = .iface 0 (.int .i64 c) := rfl

-- the values' own types

/-- The sum's last 64 bits, and its carry. -/
def addS (x y : Int) : Int := ((x.toNat + y.toNat) % 18446744073709551616 : Nat)
def addC (x y : Int) : Int := ((x.toNat + y.toNat) / 18446744073709551616 : Nat)
theorem add64_law (x y : Int) (w : World) : (callFunc 20 #[.int .u64 x, .int .u64 y, .int .u64 0]).run Try.prog w = .ok (.value (.tuple #[.int .u64 (addS x y), .int .u64 (addC x y)])) w := by
  rw [run_callFunc_extern Try.func20 (by kernel_rfl) (by kernel_rfl) (by kernel_rfl) (e := add64Entry) (by kernel_rfl)]
  have h : (add64Entry #[.int .u64 x, .int .u64 y, .int .u64 0]).run Try.prog w = .ok (Extern.MathBitsCarry.pair ((x.toNat + y.toNat + 0) % Extern.MathBitsCarry.m64) ((x.toNat + y.toNat + 0) / Extern.MathBitsCarry.m64)) w := rfl
  rw [h]; rfl

end Go.Proofs.Ytknkpnommhdhlaa.PSpeedComes
