/-
  No cell of these rows narrows 'for every input' (looked for: loops, veiled, ifaces, maps, wideKeys, modest, calm, conditions, laid).
  DERIVED. THE GIVEN ROWS OF THIS SEAT. 4 by the template 'for every input the law returns true; each argument reads behind the call as it read before'; 0 by the template 'total and deterministic' (their statements: YtplddgnlococdaaTotals.lean).
  GIVEN WITH THE SEED: the statements are not yours to turn. If you find one false, say at which input.
  Laid BY PROGRAM, IN A SANDBOX (cutbox-rows.mjs): the forced cells as the released guide's own fill.sh prints them over the translation db0fd148182bbf76… (all of the seat's roots in one cut). By AI agents, Wed Nov 11 2026. No macro, syntax, notation, axiom, sorry.
-/
import Derived.Test.YtplddgnlococdaaChecked
import GoSem.Claim
import GoSem.ClaimJoined
import GoSem.ClaimMapViews
import Derived.JoinedTies
import Derived.KernelRfl
namespace Go.Proofs.Ytplddgnlococdaa
/- THE CELL 'sum', in the pinned program and in every row, IS THE sha256 OF THE DUMP (.gsa) THAT YtplddgnlococdaaProg.lean LOADS. Nothing in Lean hashes anything: it is a label: what it is worth is what the hold of that sum in a sandbox is worth. -/
noncomputable def Try.pinned : Pinned := { name := "ytplddgnlococdaa", sum := "db0fd148182bbf76e92e2c5adb0ee6ccd1d58a2856ffd022f458cf5265e65593", checked := Try.checked }
namespace Rows
def none {H : Type} : Left H := { results := [], args := [] }

/-- 'terracelaw04.MeterSums': WHATEVER THE INPUT: true; the input reads as it did. -/
def meterSumsSpec : ChangeSpec := { name := "meterSums", fn := fun _ => fun
  | [d1, d2, d3] => { results := [.lit (.bool true)], args := [d1, d2, d3] }
  | _ => none }
def meterSumsRow : OpenClaim := { program := "ytplddgnlococdaa", sum := "db0fd148182bbf76e92e2c5adb0ee6ccd1d58a2856ffd022f458cf5265e65593", func := "terrace/terracelaw04.MeterSums", spec := "meterSums", unfollowed := true, recurses := true, named := ["math/bits.divideError", "math/bits.overflowError"], apart := false }
def MeterSumsSaid : Prop := meterSumsRow.holds Try.pinned (OpenSpec.ofChange meterSumsSpec)

/-- ITS FALSE NEIGHBOUR: 'it returns false'. Refute it at one input. -/
def meterSumsWrong : ChangeSpec := { name := "meterSums", fn := fun _ => fun
  | [d1, d2, d3] => { results := [.lit (.bool false)], args := [d1, d2, d3] }
  | _ => none }
def MeterSumsWrongFalsely : Prop := meterSumsRow.holds Try.pinned (OpenSpec.ofChange meterSumsWrong)

/-- 'terracelaw04.MeterEach': WHATEVER THE INPUT: true; the input reads as it did. -/
def meterEachSpec : ChangeSpec := { name := "meterEach", fn := fun _ => fun
  | [d1, d2] => { results := [.lit (.bool true)], args := [d1, d2] }
  | _ => none }
def meterEachRow : OpenClaim := { program := "ytplddgnlococdaa", sum := "db0fd148182bbf76e92e2c5adb0ee6ccd1d58a2856ffd022f458cf5265e65593", func := "terrace/terracelaw04.MeterEach", spec := "meterEach", unfollowed := true, recurses := true, named := ["math/bits.divideError", "math/bits.overflowError"], apart := false }
def MeterEachSaid : Prop := meterEachRow.holds Try.pinned (OpenSpec.ofChange meterEachSpec)

/-- ITS FALSE NEIGHBOUR: 'it returns false'. Refute it at one input. -/
def meterEachWrong : ChangeSpec := { name := "meterEach", fn := fun _ => fun
  | [d1, d2] => { results := [.lit (.bool false)], args := [d1, d2] }
  | _ => none }
def MeterEachWrongFalsely : Prop := meterEachRow.holds Try.pinned (OpenSpec.ofChange meterEachWrong)

/-- 'terracelaw04.MeterNew': WHATEVER THE INPUT: true; the input reads as it did. -/
def meterNewSpec : ChangeSpec := { name := "meterNew", fn := fun _ => fun
  | [d1, d2] => { results := [.lit (.bool true)], args := [d1, d2] }
  | _ => none }
def meterNewRow : OpenClaim := { program := "ytplddgnlococdaa", sum := "db0fd148182bbf76e92e2c5adb0ee6ccd1d58a2856ffd022f458cf5265e65593", func := "terrace/terracelaw04.MeterNew", spec := "meterNew", unfollowed := true, recurses := true, named := ["math/bits.divideError", "math/bits.overflowError"], apart := false }
def MeterNewSaid : Prop := meterNewRow.holds Try.pinned (OpenSpec.ofChange meterNewSpec)

/-- ITS FALSE NEIGHBOUR: 'it returns false'. Refute it at one input. -/
def meterNewWrong : ChangeSpec := { name := "meterNew", fn := fun _ => fun
  | [d1, d2] => { results := [.lit (.bool false)], args := [d1, d2] }
  | _ => none }
def MeterNewWrongFalsely : Prop := meterNewRow.holds Try.pinned (OpenSpec.ofChange meterNewWrong)

/-- 'terracelaw04.MeterSmooths': WHATEVER THE INPUT: true; the input reads as it did. -/
def meterSmoothsSpec : ChangeSpec := { name := "meterSmooths", fn := fun _ => fun
  | [d1, d2, d3] => { results := [.lit (.bool true)], args := [d1, d2, d3] }
  | _ => none }
def meterSmoothsRow : OpenClaim := { program := "ytplddgnlococdaa", sum := "db0fd148182bbf76e92e2c5adb0ee6ccd1d58a2856ffd022f458cf5265e65593", func := "terrace/terracelaw04.MeterSmooths", spec := "meterSmooths", inPlace := ["math/bits.Add64"], unfollowed := true, recurses := true, named := ["math/bits.divideError", "math/bits.overflowError"], apart := false }
def MeterSmoothsSaid : Prop := meterSmoothsRow.holds Try.pinned (OpenSpec.ofChange meterSmoothsSpec)

/-- ITS FALSE NEIGHBOUR: 'it returns false'. Refute it at one input. -/
def meterSmoothsWrong : ChangeSpec := { name := "meterSmooths", fn := fun _ => fun
  | [d1, d2, d3] => { results := [.lit (.bool false)], args := [d1, d2, d3] }
  | _ => none }
def MeterSmoothsWrongFalsely : Prop := meterSmoothsRow.holds Try.pinned (OpenSpec.ofChange meterSmoothsWrong)

/- THE SECOND FORM. 'bulk': how many values and letters a reading holds, each counted each time it is reached (what is shared counts as often as it is met; a slice's spare places count too). A statement '..UptoSaid' is the law's where the arguments, and the package variables that the reading takes, are together of bulk at most 1048576: NARROWER than '..Said'. Prove '..Said' where nothing that the law and all that it calls make is longer than what came in: it says more and counts as full. Else prove '..UptoSaid'. A law counts once. -/
mutual
def uptoBulk {H : Type} : DataW H → Nat
  | .lit (.string bytes) => bytes.length + 1
  | .lit _ => 1
  | .nil => 1
  | .ptr d => uptoBulk d + 1
  | .slice elems spare => uptoBulkAll elems + uptoBulkAll spare + 1
  | .agg parts => uptoBulkAll parts + 1
  | .iface _ d => uptoBulk d + 1
  | .map entries => uptoBulkEntries entries + 1
  | .held _ => 1
def uptoBulkAll {H : Type} : List (DataW H) → Nat
  | [] => 0
  | d :: r => uptoBulk d + uptoBulkAll r
def uptoBulkEntries {H : Type} : List (Lit × DataW H) → Nat
  | [] => 0
  | x :: r => uptoBulkEntry x + uptoBulkEntries r
def uptoBulkEntry {H : Type} : Lit × DataW H → Nat
  | (.string bytes, d) => bytes.length + uptoBulk d + 1
  | (_, d) => uptoBulk d + 1
 end
def uptoSmall : (H : Type) → List (DataW H) → Bool := fun _ ds => decide (uptoBulkAll ds ≤ 1048576)
def OpenSpec.upto (s : _root_.Go.ChangeSpec) : _root_.Go.OpenSpec := { _root_.Go.OpenSpec.ofChange s with cond := some uptoSmall }

/-- 'terracelaw04.MeterSums', WHERE WHAT IT READS IS OF BULK AT MOST 1048576: true; the input reads as it did. -/
def meterSumsUptoRow : OpenClaim := { program := "ytplddgnlococdaa", sum := "db0fd148182bbf76e92e2c5adb0ee6ccd1d58a2856ffd022f458cf5265e65593", func := "terrace/terracelaw04.MeterSums", spec := "meterSums", unfollowed := true, recurses := true, named := ["math/bits.divideError", "math/bits.overflowError"], apart := false, narrowed := true }
def MeterSumsUptoSaid : Prop := meterSumsUptoRow.holds Try.pinned (OpenSpec.upto meterSumsSpec)

/-- 'terracelaw04.MeterEach', WHERE WHAT IT READS IS OF BULK AT MOST 1048576: true; the input reads as it did. -/
def meterEachUptoRow : OpenClaim := { program := "ytplddgnlococdaa", sum := "db0fd148182bbf76e92e2c5adb0ee6ccd1d58a2856ffd022f458cf5265e65593", func := "terrace/terracelaw04.MeterEach", spec := "meterEach", unfollowed := true, recurses := true, named := ["math/bits.divideError", "math/bits.overflowError"], apart := false, narrowed := true }
def MeterEachUptoSaid : Prop := meterEachUptoRow.holds Try.pinned (OpenSpec.upto meterEachSpec)

/-- 'terracelaw04.MeterNew', WHERE WHAT IT READS IS OF BULK AT MOST 1048576: true; the input reads as it did. -/
def meterNewUptoRow : OpenClaim := { program := "ytplddgnlococdaa", sum := "db0fd148182bbf76e92e2c5adb0ee6ccd1d58a2856ffd022f458cf5265e65593", func := "terrace/terracelaw04.MeterNew", spec := "meterNew", unfollowed := true, recurses := true, named := ["math/bits.divideError", "math/bits.overflowError"], apart := false, narrowed := true }
def MeterNewUptoSaid : Prop := meterNewUptoRow.holds Try.pinned (OpenSpec.upto meterNewSpec)

/-- 'terracelaw04.MeterSmooths', WHERE WHAT IT READS IS OF BULK AT MOST 1048576: true; the input reads as it did. -/
def meterSmoothsUptoRow : OpenClaim := { program := "ytplddgnlococdaa", sum := "db0fd148182bbf76e92e2c5adb0ee6ccd1d58a2856ffd022f458cf5265e65593", func := "terrace/terracelaw04.MeterSmooths", spec := "meterSmooths", inPlace := ["math/bits.Add64"], unfollowed := true, recurses := true, named := ["math/bits.divideError", "math/bits.overflowError"], apart := false, narrowed := true }
def MeterSmoothsUptoSaid : Prop := meterSmoothsUptoRow.holds Try.pinned (OpenSpec.upto meterSmoothsSpec)

end Rows
end Go.Proofs.Ytplddgnlococdaa
