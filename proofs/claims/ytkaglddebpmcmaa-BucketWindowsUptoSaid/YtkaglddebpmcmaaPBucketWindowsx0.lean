-- Written by ext.sh (the session's own program, over the kit's printer) out of the translation. Lean checks it.
import Derived.Laws.Externs
import Derived.Laws.Pointers
import Derived.Laws.LoneSync
import Derived.Test.YtkaglddebpmcmaaShelf
import Derived.Test.YtkaglddebpmcmaaProg
import Derived.Below
import Derived.Deep.Draws
import Derived.Deep.AppendLies
import Derived.Maps.AppendAt
import Derived.OwnWalk
import Derived.Laws.BytesArg
import Derived.Laws.MakeOwn
import Derived.Laws.OwnMore
import Derived.Deep.OwnRows
import Derived.Tactics
import Derived.Lib.ConvBytes
import Derived.Laws.Slices
import Derived.WalkKit
import Derived.KernelRfl
import Derived.RowKit3
import Derived.Deep.LoopGhost
import Derived.Deep.QuietTactic
import Derived.BigQuiet
import Derived.WideLaws
import Derived.Deep.DeepCutAuto
import Derived.Deep.CutBlock
import Derived.Deep.RegionHeld3
import Derived.Laws.Rows
import Derived.Lib.AppendStr
import Derived.ArgAppend
import Derived.Laws.IdiomCopy
import Derived.OrdersHeld
import Derived.Laws.BitsLemmas
import Derived.RowKit
import Derived.Test.YtkaglddebpmcmaaWWords
import Derived.Test.YtkaglddebpmcmaaWLast
import Derived.Test.YtkaglddebpmcmaaWTab
import Derived.Test.YtkaglddebpmcmaaWFour
import Derived.Test.YtkaglddebpmcmaaWQPut
import Derived.Test.YtkaglddebpmcmaaWApart
import Derived.Test.YtkaglddebpmcmaaWArr
import Derived.Test.YtkaglddebpmcmaaWZeros
import Derived.Test.YtkaglddebpmcmaaWFoot
import Derived.Test.YtkaglddebpmcmaaWKept
import Derived.Test.YtkaglddebpmcmaaWShare
import Derived.Test.YtkaglddebpmcmaaWN
import Derived.Test.YtkaglddebpmcmaaWFootNe
import Derived.Test.YtkaglddebpmcmaaWAt
import Derived.Test.YtkaglddebpmcmaaWEqStruct
import Derived.Test.YtkaglddebpmcmaaWRepsOne
import Derived.Test.YtkaglddebpmcmaaWInv
import Derived.Test.YtkaglddebpmcmaaWInvWords
import Derived.Test.YtkaglddebpmcmaaWGuard
import Derived.Test.YtkaglddebpmcmaaWNEv
import Derived.Test.YtkaglddebpmcmaaWMore
namespace Go.Proofs.Ytkaglddebpmcmaa.PBucketWindows
open Go.RowKit Go.Proofs.YtkaglddebpmcmaaW.PrintWords Go.Proofs.YtkaglddebpmcmaaW.PrintLast Go.Proofs.YtkaglddebpmcmaaW.PrintMore
attribute [local go_sem] max2_int min2_int max_two min_two max_three min_three max_four min_four   -- for this text's walks alone
set_option linter.unusedVariables false
set_option linter.unusedSimpArgs false



def errW : Option Int → Value
  | none => .nilIface
  | some c => .iface 0 (.int .i64 c)
theorem errW_none : errW none = .nilIface := rfl
theorem errW_some (c : Int) : errW (some c) = .iface 0 (.int .i64 c) := rfl

theorem info30 : (Try.prog.info? 30).map (fun i => (i.zero, i.size, i.bytes)) = some (some (.int .u64 0), 1, 8) := by kernel_rfl
theorem info33 : (Try.prog.info? 33).map (fun i => (i.zero, i.size, i.bytes)) = some (some (.agg #[(.int .u64 0), (.slice none 0 0)]), 2, 32) := by kernel_rfl
-- the values' own types
def rd_L2 (xs : List (List Int)) (i : Int) : (List Int) := xs.getD i.toNat ([] : List Int)
theorem at_L2 {w : World} {A : Option Addr} {n : Nat} {xs : List (List Int)} (h : Kd.C (Kd.slice 3 (Kd.int .i64)) w A n xs) (i : Int) (h0 : 0 ≤ i) (h1 : i < n) : ∃ ad A0 c0, A = some ad ∧ w.cell? (ad.add i.toNat) = some (.slice A0 (rd_L2 xs i).length c0) ∧ (rd_L2 xs i).length ≤ c0 ∧ (Kd.int .i64).C w A0 (rd_L2 xs i).length (rd_L2 xs i) := by
  obtain ⟨ad, c, e, _, hK, hc0⟩ := Kd.C_get h ([] : List Int) i h0 h1
  have hc : ∀ j u, c[j]? = some u → w.cell? (ad.add (i.toNat * 1 + j)) = some u := hc0
  obtain ⟨A0, c0, rfl, l0, g0⟩ := hK
  exact ⟨ad, A0, c0, e, by have hq := hc 0 _ rfl; rwa [Nat.mul_one, Nat.add_zero] at hq, l0, g0⟩

/-! #### struct type 33 -/
structure S33 where
  f0 : Int
  f1 : (List Int)
def z33 : S33 := ⟨(0 : Int), ([] : List Int)⟩
def k33 : Kd S33 := Kd.iso (Kd.pair (Kd.int .u64) (Kd.slice 3 (Kd.int .i64))) (fun x : S33 => (x.f0, x.f1))
theorem k33_open {w : World} {x : S33} {cs : List Value} (h : k33.K w x cs) : ∃ A1 c1, cs = [.int .u64 x.f0, .slice A1 x.f1.length c1] ∧ x.f1.length ≤ c1 ∧ (Kd.int .i64).C w A1 x.f1.length x.f1 := by
  obtain ⟨_, _, rfl, rfl, ⟨A1, c1, rfl, l1, g1⟩⟩ := h
  exact ⟨A1, c1, rfl, l1, g1⟩
theorem k33_openM {w : World} {base : Nat} {ok : Nat → Prop} {x : S33} {cs : List Value} (h : k33.M w base ok x cs) : ∃ v1, cs = [.int .u64 x.f0, v1] ∧ (Kd.int .i64).R 3 w base ok v1 x.f1 := by
  obtain ⟨_, _, rfl, rfl, ⟨v1, rfl, g1⟩⟩ := h
  exact ⟨v1, rfl, g1⟩
theorem k33_mk (w : World) (x : S33) {A1 : Option Addr} {c1 : Nat} (l1 : x.f1.length ≤ c1) (g1 : (Kd.int .i64).C w A1 x.f1.length x.f1) : k33.K w x [.int .u64 x.f0, .slice A1 x.f1.length c1] := ⟨[.int .u64 x.f0], [.slice A1 x.f1.length c1], rfl, rfl, ⟨A1, c1, rfl, l1, g1⟩⟩
theorem k33_mkM (w : World) (base : Nat) (ok : Nat → Prop) (x : S33) {v1 : Value} (g1 : (Kd.int .i64).R 3 w base ok v1 x.f1) : k33.M w base ok x [.int .u64 x.f0, v1] := ⟨[.int .u64 x.f0], [v1], rfl, rfl, ⟨v1, rfl, g1⟩⟩
def rd_T33 (xs : List S33) (i : Int) : S33 := xs.getD i.toNat z33
theorem at_T33 {w : World} {A : Option Addr} {n : Nat} {xs : List S33} (h : Kd.C k33 w A n xs) (i : Int) (h0 : 0 ≤ i) (h1 : i < n) : ∃ ad A1 c1, A = some ad ∧ w.cell? (ad.add (i.toNat * 2)) = some (.int .u64 (rd_T33 xs i).f0) ∧ w.cell? ⟨(ad.add (i.toNat * 2)).block, (ad.add (i.toNat * 2)).off + 1, none⟩ = some (.slice A1 (rd_T33 xs i).f1.length c1) ∧ (rd_T33 xs i).f1.length ≤ c1 ∧ (Kd.int .i64).C w A1 (rd_T33 xs i).f1.length (rd_T33 xs i).f1 := by
  obtain ⟨ad, c, e, _, hK, hc0⟩ := Kd.C_get h z33 i h0 h1
  have hc : ∀ j u, c[j]? = some u → w.cell? (ad.add (i.toNat * 2 + j)) = some u := hc0
  obtain ⟨A1, c1, rfl, l1, g1⟩ := k33_open hK
  exact ⟨ad, A1, c1, e, hc 0 _ rfl, by rw [← add_field _ _ 1 (by omega)]; exact hc 1 _ rfl, l1, g1⟩

/-- The sum's last 64 bits, and its carry. -/
def addS (x y : Int) : Int := ((x.toNat + y.toNat) % 18446744073709551616 : Nat)
def addC (x y : Int) : Int := ((x.toNat + y.toNat) / 18446744073709551616 : Nat)
theorem add64_law (x y : Int) (w : World) : (callFunc 30 #[.int .u64 x, .int .u64 y, .int .u64 0]).run Try.prog w = .ok (.value (.tuple #[.int .u64 (addS x y), .int .u64 (addC x y)])) w := by
  rw [run_callFunc_extern Try.func30 (by kernel_rfl) (by kernel_rfl) (by kernel_rfl) (e := add64Entry) (by kernel_rfl)]
  have h : (add64Entry #[.int .u64 x, .int .u64 y, .int .u64 0]).run Try.prog w = .ok (Extern.MathBitsCarry.pair ((x.toNat + y.toNat + 0) % Extern.MathBitsCarry.m64) ((x.toNat + y.toNat + 0) / Extern.MathBitsCarry.m64)) w := rfl
  rw [h]; rfl

/-- sync/atomic.AddInt64: the sum, stored and handed back. -/
def atadd (P : Program) (a : Addr) (y : Int) (W : World) : Option Value → Bool → Result Next
  | some (.int .i64 x), false => .ok (.value (.int .i64 (wrap64 (x + y)))) (W.setCell a (.int .i64 (wrap64 (x + y))))
  | _, _ => (callFunc 31 #[.pointer (some a), .int .i64 y]).run P W
theorem atadd_law (a : Addr) (y : Int) (W : World) : (callFunc 31 #[.pointer (some a), .int .i64 y]).run Try.prog W = atadd Try.prog a y W (W.cell? a) (W.frozen? a) := by
  unfold atadd
  split
  · rename_i x hc hf
    exact run_call_add (P := Try.prog) Try.func31 (by kernel_rfl) (by kernel_rfl) (by kernel_rfl) .i64 (by kernel_rfl) (s := wrap64 (x + y)) hc hf (by simp [go_sem, wrap64, IntKind.wrap_i64])
  · rfl
theorem atadd_eq (a : Addr) (y : Int) (W : World) (x : Int) : atadd Try.prog a y W (some (.int .i64 x)) false = .ok (.value (.int .i64 (wrap64 (x + y)))) (W.setCell a (.int .i64 (wrap64 (x + y)))) := rfl

/-- sync/atomic.LoadInt64: what its cell holds. -/
def atload (P : Program) (a : Addr) (W : World) : Option Value → Result Next
  | some (.int .i64 x) => .ok (.value (.int .i64 x)) W
  | _ => (callFunc 32 #[.pointer (some a)]).run P W
theorem atload_law (a : Addr) (W : World) : (callFunc 32 #[.pointer (some a)]).run Try.prog W = atload Try.prog a W (W.cell? a) := by
  unfold atload
  split
  · rename_i x hc
    exact run_call_load (P := Try.prog) Try.func32 (by kernel_rfl) (by kernel_rfl) (by kernel_rfl) .i64 (by kernel_rfl) hc
  · rfl
theorem atload_eq (a : Addr) (W : World) (x : Int) : atload Try.prog a W (some (.int .i64 x)) = .ok (.value (.int .i64 x)) W := rfl

end Go.Proofs.Ytkaglddebpmcmaa.PBucketWindows
