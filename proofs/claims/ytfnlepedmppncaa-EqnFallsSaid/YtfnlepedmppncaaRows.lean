/-
  No cell of these rows narrows 'for every input' (looked for: loops, veiled, ifaces, maps, wideKeys, modest, calm, conditions, laid).
  DERIVED. THE GIVEN ROWS OF THIS SEAT. 5 by the template 'for every input the law returns true; each argument reads behind the call as it read before'; 0 by the template 'total and deterministic' (their statements: YtfnlepedmppncaaTotals.lean).
  GIVEN WITH THE SEED: the statements are not yours to turn. If you find one false, say at which input.
  Laid BY PROGRAM, IN A SANDBOX (cutbox-rows.mjs): the forced cells as the released guide's own fill.sh prints them over the translation c65cd466fc8bf508… (all of the seat's roots in one cut). By AI agents, Wed Nov 11 2026. No macro, syntax, notation, axiom, sorry.
-/
import Derived.Test.YtfnlepedmppncaaChecked
import GoSem.Claim
import GoSem.ClaimJoined
import GoSem.ClaimMapViews
import Derived.JoinedTies
import Derived.KernelRfl
namespace Go.Proofs.Ytfnlepedmppncaa
/- THE CELL 'sum', in the pinned program and in every row, IS THE sha256 OF THE DUMP (.gsa) THAT YtfnlepedmppncaaProg.lean LOADS. Nothing in Lean hashes anything: it is a label: what it is worth is what the hold of that sum in a sandbox is worth. -/
noncomputable def Try.pinned : Pinned := { name := "ytfnlepedmppncaa", sum := "c65cd466fc8bf508c0b4af3ea6db411a42b9e1c9423da9175962a48360979d0a", checked := Try.checked }
namespace Rows
def none {H : Type} : Left H := { results := [], args := [] }

/-- 'terracelaw03.EqnRates': WHATEVER THE INPUT: true; the input reads as it did. -/
def eqnRatesSpec : ChangeSpec := { name := "eqnRates", fn := fun _ => fun
  | [d1, d2, d3] => { results := [.lit (.bool true)], args := [d1, d2, d3] }
  | _ => none }
def eqnRatesRow : OpenClaim := { program := "ytfnlepedmppncaa", sum := "c65cd466fc8bf508c0b4af3ea6db411a42b9e1c9423da9175962a48360979d0a", func := "terrace/terracelaw03.EqnRates", spec := "eqnRates", inPlace := ["math/bits.Add64"], named := ["math/bits.divideError", "math/bits.overflowError"], apart := false }
def EqnRatesSaid : Prop := eqnRatesRow.holds Try.pinned (OpenSpec.ofChange eqnRatesSpec)

/-- ITS FALSE NEIGHBOUR: 'it returns false'. Refute it at one input. -/
def eqnRatesWrong : ChangeSpec := { name := "eqnRates", fn := fun _ => fun
  | [d1, d2, d3] => { results := [.lit (.bool false)], args := [d1, d2, d3] }
  | _ => none }
def EqnRatesWrongFalsely : Prop := eqnRatesRow.holds Try.pinned (OpenSpec.ofChange eqnRatesWrong)

/-- 'terracelaw03.EqnFalls': WHATEVER THE INPUT: true; the input reads as it did. -/
def eqnFallsSpec : ChangeSpec := { name := "eqnFalls", fn := fun _ => fun
  | [d] => { results := [.lit (.bool true)], args := [d] }
  | _ => none }
def eqnFallsRow : OpenClaim := { program := "ytfnlepedmppncaa", sum := "c65cd466fc8bf508c0b4af3ea6db411a42b9e1c9423da9175962a48360979d0a", func := "terrace/terracelaw03.EqnFalls", spec := "eqnFalls", inPlace := ["math/bits.Add64"], named := ["math/bits.divideError", "math/bits.overflowError"], apart := false }
def EqnFallsSaid : Prop := eqnFallsRow.holds Try.pinned (OpenSpec.ofChange eqnFallsSpec)

/-- ITS FALSE NEIGHBOUR: 'it returns false'. Refute it at one input. -/
def eqnFallsWrong : ChangeSpec := { name := "eqnFalls", fn := fun _ => fun
  | [d] => { results := [.lit (.bool false)], args := [d] }
  | _ => none }
def EqnFallsWrongFalsely : Prop := eqnFallsRow.holds Try.pinned (OpenSpec.ofChange eqnFallsWrong)

/-- 'terracelaw03.EqnLosses': WHATEVER THE INPUT: true; the input reads as it did. -/
def eqnLossesSpec : ChangeSpec := { name := "eqnLosses", fn := fun _ => fun
  | [d1, d2, d3] => { results := [.lit (.bool true)], args := [d1, d2, d3] }
  | _ => none }
def eqnLossesRow : OpenClaim := { program := "ytfnlepedmppncaa", sum := "c65cd466fc8bf508c0b4af3ea6db411a42b9e1c9423da9175962a48360979d0a", func := "terrace/terracelaw03.EqnLosses", spec := "eqnLosses", inPlace := ["math/bits.Add64"], named := ["math/bits.divideError", "math/bits.overflowError"], apart := false }
def EqnLossesSaid : Prop := eqnLossesRow.holds Try.pinned (OpenSpec.ofChange eqnLossesSpec)

/-- ITS FALSE NEIGHBOUR: 'it returns false'. Refute it at one input. -/
def eqnLossesWrong : ChangeSpec := { name := "eqnLosses", fn := fun _ => fun
  | [d1, d2, d3] => { results := [.lit (.bool false)], args := [d1, d2, d3] }
  | _ => none }
def EqnLossesWrongFalsely : Prop := eqnLossesRow.holds Try.pinned (OpenSpec.ofChange eqnLossesWrong)

/-- 'terracelaw03.EqnBack': WHATEVER THE INPUT: true; the input reads as it did. -/
def eqnBackSpec : ChangeSpec := { name := "eqnBack", fn := fun _ => fun
  | [d1, d2, d3] => { results := [.lit (.bool true)], args := [d1, d2, d3] }
  | _ => none }
def eqnBackRow : OpenClaim := { program := "ytfnlepedmppncaa", sum := "c65cd466fc8bf508c0b4af3ea6db411a42b9e1c9423da9175962a48360979d0a", func := "terrace/terracelaw03.EqnBack", spec := "eqnBack", inPlace := ["math/bits.Add64"], named := ["math/bits.divideError", "math/bits.overflowError"], apart := false }
def EqnBackSaid : Prop := eqnBackRow.holds Try.pinned (OpenSpec.ofChange eqnBackSpec)

/-- ITS FALSE NEIGHBOUR: 'it returns false'. Refute it at one input. -/
def eqnBackWrong : ChangeSpec := { name := "eqnBack", fn := fun _ => fun
  | [d1, d2, d3] => { results := [.lit (.bool false)], args := [d1, d2, d3] }
  | _ => none }
def EqnBackWrongFalsely : Prop := eqnBackRow.holds Try.pinned (OpenSpec.ofChange eqnBackWrong)

/-- 'terracelaw03.EqnFair': WHATEVER THE INPUT: true; the input reads as it did. -/
def eqnFairSpec : ChangeSpec := { name := "eqnFair", fn := fun _ => fun
  | [d] => { results := [.lit (.bool true)], args := [d] }
  | _ => none }
def eqnFairRow : OpenClaim := { program := "ytfnlepedmppncaa", sum := "c65cd466fc8bf508c0b4af3ea6db411a42b9e1c9423da9175962a48360979d0a", func := "terrace/terracelaw03.EqnFair", spec := "eqnFair", inPlace := ["math/bits.Add64"], named := ["math/bits.divideError", "math/bits.overflowError"], apart := false }
def EqnFairSaid : Prop := eqnFairRow.holds Try.pinned (OpenSpec.ofChange eqnFairSpec)

/-- ITS FALSE NEIGHBOUR: 'it returns false'. Refute it at one input. -/
def eqnFairWrong : ChangeSpec := { name := "eqnFair", fn := fun _ => fun
  | [d] => { results := [.lit (.bool false)], args := [d] }
  | _ => none }
def EqnFairWrongFalsely : Prop := eqnFairRow.holds Try.pinned (OpenSpec.ofChange eqnFairWrong)

/- THE SECOND FORM. 'bulk': how many values and letters a reading holds, each counted each time it is reached (what is shared counts as often as it is met; a slice's spare places count too). A statement '..UptoSaid' is the law's where the arguments, and the package variables that the reading takes, are together of bulk at most 1048576: NARROWER than '..Said'. Prove '..Said' where nothing that the law and all that it calls make is longer than what came in: it says more and counts as full. Else prove '..UptoSaid'. A law counts once. -/
mutual
def uptoBulk {H : Type} : DataW H → Nat
  | .lit (.string bytes) => bytes.length + 1
  | .lit _ => 1
  | .nil => 1
  | .ptr d => uptoBulk d + 1
  | .slice elems spare => uptoBulkAll elems + uptoBulkAll spare + 1
  | .agg parts => uptoBulkAll parts + 1
  | .iface _ d => uptoBulk d + 1
  | .map entries => uptoBulkEntries entries + 1
  | .held _ => 1
def uptoBulkAll {H : Type} : List (DataW H) → Nat
  | [] => 0
  | d :: r => uptoBulk d + uptoBulkAll r
def uptoBulkEntries {H : Type} : List (Lit × DataW H) → Nat
  | [] => 0
  | x :: r => uptoBulkEntry x + uptoBulkEntries r
def uptoBulkEntry {H : Type} : Lit × DataW H → Nat
  | (.string bytes, d) => bytes.length + uptoBulk d + 1
  | (_, d) => uptoBulk d + 1
 end
def uptoSmall : (H : Type) → List (DataW H) → Bool := fun _ ds => decide (uptoBulkAll ds ≤ 1048576)
def OpenSpec.upto (s : _root_.Go.ChangeSpec) : _root_.Go.OpenSpec := { _root_.Go.OpenSpec.ofChange s with cond := some uptoSmall }

/-- 'terracelaw03.EqnRates', WHERE WHAT IT READS IS OF BULK AT MOST 1048576: true; the input reads as it did. -/
def eqnRatesUptoRow : OpenClaim := { program := "ytfnlepedmppncaa", sum := "c65cd466fc8bf508c0b4af3ea6db411a42b9e1c9423da9175962a48360979d0a", func := "terrace/terracelaw03.EqnRates", spec := "eqnRates", inPlace := ["math/bits.Add64"], named := ["math/bits.divideError", "math/bits.overflowError"], apart := false, narrowed := true }
def EqnRatesUptoSaid : Prop := eqnRatesUptoRow.holds Try.pinned (OpenSpec.upto eqnRatesSpec)

/-- 'terracelaw03.EqnFalls', WHERE WHAT IT READS IS OF BULK AT MOST 1048576: true; the input reads as it did. -/
def eqnFallsUptoRow : OpenClaim := { program := "ytfnlepedmppncaa", sum := "c65cd466fc8bf508c0b4af3ea6db411a42b9e1c9423da9175962a48360979d0a", func := "terrace/terracelaw03.EqnFalls", spec := "eqnFalls", inPlace := ["math/bits.Add64"], named := ["math/bits.divideError", "math/bits.overflowError"], apart := false, narrowed := true }
def EqnFallsUptoSaid : Prop := eqnFallsUptoRow.holds Try.pinned (OpenSpec.upto eqnFallsSpec)

/-- 'terracelaw03.EqnLosses', WHERE WHAT IT READS IS OF BULK AT MOST 1048576: true; the input reads as it did. -/
def eqnLossesUptoRow : OpenClaim := { program := "ytfnlepedmppncaa", sum := "c65cd466fc8bf508c0b4af3ea6db411a42b9e1c9423da9175962a48360979d0a", func := "terrace/terracelaw03.EqnLosses", spec := "eqnLosses", inPlace := ["math/bits.Add64"], named := ["math/bits.divideError", "math/bits.overflowError"], apart := false, narrowed := true }
def EqnLossesUptoSaid : Prop := eqnLossesUptoRow.holds Try.pinned (OpenSpec.upto eqnLossesSpec)

/-- 'terracelaw03.EqnBack', WHERE WHAT IT READS IS OF BULK AT MOST 1048576: true; the input reads as it did. -/
def eqnBackUptoRow : OpenClaim := { program := "ytfnlepedmppncaa", sum := "c65cd466fc8bf508c0b4af3ea6db411a42b9e1c9423da9175962a48360979d0a", func := "terrace/terracelaw03.EqnBack", spec := "eqnBack", inPlace := ["math/bits.Add64"], named := ["math/bits.divideError", "math/bits.overflowError"], apart := false, narrowed := true }
def EqnBackUptoSaid : Prop := eqnBackUptoRow.holds Try.pinned (OpenSpec.upto eqnBackSpec)

/-- 'terracelaw03.EqnFair', WHERE WHAT IT READS IS OF BULK AT MOST 1048576: true; the input reads as it did. -/
def eqnFairUptoRow : OpenClaim := { program := "ytfnlepedmppncaa", sum := "c65cd466fc8bf508c0b4af3ea6db411a42b9e1c9423da9175962a48360979d0a", func := "terrace/terracelaw03.EqnFair", spec := "eqnFair", inPlace := ["math/bits.Add64"], named := ["math/bits.divideError", "math/bits.overflowError"], apart := false, narrowed := true }
def EqnFairUptoSaid : Prop := eqnFairUptoRow.holds Try.pinned (OpenSpec.upto eqnFairSpec)

end Rows
end Go.Proofs.Ytfnlepedmppncaa
