-- Written by ext.sh (the session's own program, over the kit's printer) out of the translation. Lean checks it.
import Derived.Laws.Externs
import Derived.Laws.Pointers
import Derived.Test.YtbcbmgdnkagmmaaProg
import Derived.Below
import Derived.Deep.Draws
import Derived.Deep.AppendLies
import Derived.Maps.AppendAt
import Derived.OwnWalk
import Derived.Laws.BytesArg
import Derived.Laws.MakeOwn
import Derived.Laws.OwnMore
import Derived.Deep.OwnRows
import Derived.Tactics
import Derived.Lib.ConvBytes
import Derived.Laws.Slices
import Derived.WalkKit
import Derived.KernelRfl
import Derived.RowKit3
import Derived.Deep.LoopGhost
import Derived.Deep.QuietTactic
import Derived.BigQuiet
import Derived.WideLaws
import Derived.Deep.DeepCutAuto
import Derived.Deep.CutBlock
import Derived.Deep.RegionHeld3
import Derived.Laws.Rows
import Derived.Lib.AppendStr
import Derived.ArgAppend
import Derived.Laws.IdiomCopy
import Derived.OrdersHeld
import Derived.Laws.BitsLemmas
import Derived.RowKit
import Derived.Test.YtbcbmgdnkagmmaaWWords
import Derived.Test.YtbcbmgdnkagmmaaWLast
import Derived.Test.YtbcbmgdnkagmmaaWTab
import Derived.Test.YtbcbmgdnkagmmaaWFour
import Derived.Test.YtbcbmgdnkagmmaaWQPut
import Derived.Test.YtbcbmgdnkagmmaaWApart
import Derived.Test.YtbcbmgdnkagmmaaWArr
import Derived.Test.YtbcbmgdnkagmmaaWZeros
import Derived.Test.YtbcbmgdnkagmmaaWFoot
import Derived.Test.YtbcbmgdnkagmmaaWKept
import Derived.Test.YtbcbmgdnkagmmaaWShare
import Derived.Test.YtbcbmgdnkagmmaaWN
import Derived.Test.YtbcbmgdnkagmmaaWFootNe
import Derived.Test.YtbcbmgdnkagmmaaWAt
import Derived.Test.YtbcbmgdnkagmmaaWEqStruct
import Derived.Test.YtbcbmgdnkagmmaaWRepsOne
import Derived.Test.YtbcbmgdnkagmmaaWInv
import Derived.Test.YtbcbmgdnkagmmaaWInvWords
import Derived.Test.YtbcbmgdnkagmmaaWGuard
import Derived.Test.YtbcbmgdnkagmmaaWNEv
import Derived.Test.YtbcbmgdnkagmmaaWMore
namespace Go.Proofs.Ytbcbmgdnkagmmaa.PTripSteady
open Go.RowKit Go.Proofs.YtbcbmgdnkagmmaaW.PrintWords Go.Proofs.YtbcbmgdnkagmmaaW.PrintLast Go.Proofs.YtbcbmgdnkagmmaaW.PrintMore
attribute [local go_sem] max2_int min2_int max_two min_two max_three min_three max_four min_four   -- for this text's walks alone
set_option linter.unusedVariables false
set_option linter.unusedSimpArgs false



def errW : Option Int → Value
  | none => .nilIface
  | some c => .iface 0 (.int .i64 c)
theorem errW_none : errW none = .nilIface := rfl
theorem errW_some (c : Int) : errW (some c) = .iface 0 (.int .i64 c) := rfl

-- the values' own types

/-- The sum's last 64 bits, and its carry. -/
def addS (x y : Int) : Int := ((x.toNat + y.toNat) % 18446744073709551616 : Nat)
def addC (x y : Int) : Int := ((x.toNat + y.toNat) / 18446744073709551616 : Nat)
theorem add64_law (x y : Int) (w : World) : (callFunc 22 #[.int .u64 x, .int .u64 y, .int .u64 0]).run Try.prog w = .ok (.value (.tuple #[.int .u64 (addS x y), .int .u64 (addC x y)])) w := by
  rw [run_callFunc_extern Try.func22 (by kernel_rfl) (by kernel_rfl) (by kernel_rfl) (e := add64Entry) (by kernel_rfl)]
  have h : (add64Entry #[.int .u64 x, .int .u64 y, .int .u64 0]).run Try.prog w = .ok (Extern.MathBitsCarry.pair ((x.toNat + y.toNat + 0) % Extern.MathBitsCarry.m64) ((x.toNat + y.toNat + 0) / Extern.MathBitsCarry.m64)) w := rfl
  rw [h]; rfl

end Go.Proofs.Ytbcbmgdnkagmmaa.PTripSteady
