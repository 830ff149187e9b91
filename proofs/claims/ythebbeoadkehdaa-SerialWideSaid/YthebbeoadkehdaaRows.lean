/-
  No cell of these rows narrows 'for every input' (looked for: loops, veiled, ifaces, maps, wideKeys, modest, calm, conditions, laid).
  DERIVED. THE GIVEN ROWS OF THIS SEAT. 4 by the template 'for every input the law returns true; each argument reads behind the call as it read before'; 0 by the template 'total and deterministic' (their statements: YthebbeoadkehdaaTotals.lean).
  GIVEN WITH THE SEED: the statements are not yours to turn. If you find one false, say at which input.
  Laid BY PROGRAM, IN A SANDBOX (cutbox-rows.mjs): the forced cells as the released guide's own fill.sh prints them over the translation bdaf14c95ff96dc9… (all of the seat's roots in one cut). By AI agents, Wed Nov 11 2026. No macro, syntax, notation, axiom, sorry.
-/
import Derived.Test.YthebbeoadkehdaaChecked
import GoSem.Claim
import GoSem.ClaimJoined
import GoSem.ClaimMapViews
import Derived.JoinedTies
import Derived.KernelRfl
namespace Go.Proofs.Ythebbeoadkehdaa
/- THE CELL 'sum', in the pinned program and in every row, IS THE sha256 OF THE DUMP (.gsa) THAT YthebbeoadkehdaaProg.lean LOADS. Nothing in Lean hashes anything: it is a label: what it is worth is what the hold of that sum in a sandbox is worth. -/
noncomputable def Try.pinned : Pinned := { name := "ythebbeoadkehdaa", sum := "bdaf14c95ff96dc9aa1b9181e0099d0b77f8939a6499efda99d00c495937d090", checked := Try.checked }
namespace Rows
def none {H : Type} : Left H := { results := [], args := [] }

/-- 'terracelaw05.SerialNext': WHATEVER THE INPUT: true; the input reads as it did. -/
def serialNextSpec : ChangeSpec := { name := "serialNext", fn := fun _ => fun
  | [d1, d2] => { results := [.lit (.bool true)], args := [d1, d2] }
  | _ => none }
def serialNextRow : OpenClaim := { program := "ythebbeoadkehdaa", sum := "bdaf14c95ff96dc9aa1b9181e0099d0b77f8939a6499efda99d00c495937d090", func := "terrace/terracelaw05.SerialNext", spec := "serialNext", apart := false }
def SerialNextSaid : Prop := serialNextRow.holds Try.pinned (OpenSpec.ofChange serialNextSpec)

/-- ITS FALSE NEIGHBOUR: 'it returns false'. Refute it at one input. -/
def serialNextWrong : ChangeSpec := { name := "serialNext", fn := fun _ => fun
  | [d1, d2] => { results := [.lit (.bool false)], args := [d1, d2] }
  | _ => none }
def SerialNextWrongFalsely : Prop := serialNextRow.holds Try.pinned (OpenSpec.ofChange serialNextWrong)

/-- 'terracelaw05.SerialWide': WHATEVER THE INPUT: true; the input reads as it did. -/
def serialWideSpec : ChangeSpec := { name := "serialWide", fn := fun _ => fun
  | [d1, d2] => { results := [.lit (.bool true)], args := [d1, d2] }
  | _ => none }
def serialWideRow : OpenClaim := { program := "ythebbeoadkehdaa", sum := "bdaf14c95ff96dc9aa1b9181e0099d0b77f8939a6499efda99d00c495937d090", func := "terrace/terracelaw05.SerialWide", spec := "serialWide", apart := false }
def SerialWideSaid : Prop := serialWideRow.holds Try.pinned (OpenSpec.ofChange serialWideSpec)

/-- ITS FALSE NEIGHBOUR: 'it returns false'. Refute it at one input. -/
def serialWideWrong : ChangeSpec := { name := "serialWide", fn := fun _ => fun
  | [d1, d2] => { results := [.lit (.bool false)], args := [d1, d2] }
  | _ => none }
def SerialWideWrongFalsely : Prop := serialWideRow.holds Try.pinned (OpenSpec.ofChange serialWideWrong)

/-- 'terracelaw05.SerialGaps': WHATEVER THE INPUT: true; the input reads as it did. -/
def serialGapsSpec : ChangeSpec := { name := "serialGaps", fn := fun _ => fun
  | [d1, d2] => { results := [.lit (.bool true)], args := [d1, d2] }
  | _ => none }
def serialGapsRow : OpenClaim := { program := "ythebbeoadkehdaa", sum := "bdaf14c95ff96dc9aa1b9181e0099d0b77f8939a6499efda99d00c495937d090", func := "terrace/terracelaw05.SerialGaps", spec := "serialGaps", apart := false }
def SerialGapsSaid : Prop := serialGapsRow.holds Try.pinned (OpenSpec.ofChange serialGapsSpec)

/-- ITS FALSE NEIGHBOUR: 'it returns false'. Refute it at one input. -/
def serialGapsWrong : ChangeSpec := { name := "serialGaps", fn := fun _ => fun
  | [d1, d2] => { results := [.lit (.bool false)], args := [d1, d2] }
  | _ => none }
def SerialGapsWrongFalsely : Prop := serialGapsRow.holds Try.pinned (OpenSpec.ofChange serialGapsWrong)

/-- 'terracelaw05.SerialRow': WHATEVER THE INPUT: true; the input reads as it did. -/
def serialRowSpec : ChangeSpec := { name := "serialRow", fn := fun _ => fun
  | [d1, d2] => { results := [.lit (.bool true)], args := [d1, d2] }
  | _ => none }
def serialRowRow : OpenClaim := { program := "ythebbeoadkehdaa", sum := "bdaf14c95ff96dc9aa1b9181e0099d0b77f8939a6499efda99d00c495937d090", func := "terrace/terracelaw05.SerialRow", spec := "serialRow", apart := false }
def SerialRowSaid : Prop := serialRowRow.holds Try.pinned (OpenSpec.ofChange serialRowSpec)

/-- ITS FALSE NEIGHBOUR: 'it returns false'. Refute it at one input. -/
def serialRowWrong : ChangeSpec := { name := "serialRow", fn := fun _ => fun
  | [d1, d2] => { results := [.lit (.bool false)], args := [d1, d2] }
  | _ => none }
def SerialRowWrongFalsely : Prop := serialRowRow.holds Try.pinned (OpenSpec.ofChange serialRowWrong)

/- THE SECOND FORM. 'bulk': how many values and letters a reading holds, each counted each time it is reached (what is shared counts as often as it is met; a slice's spare places count too). A statement '..UptoSaid' is the law's where the arguments, and the package variables that the reading takes, are together of bulk at most 1048576: NARROWER than '..Said'. Prove '..Said' where nothing that the law and all that it calls make is longer than what came in: it says more and counts as full. Else prove '..UptoSaid'. A law counts once. -/
mutual
def uptoBulk {H : Type} : DataW H → Nat
  | .lit (.string bytes) => bytes.length + 1
  | .lit _ => 1
  | .nil => 1
  | .ptr d => uptoBulk d + 1
  | .slice elems spare => uptoBulkAll elems + uptoBulkAll spare + 1
  | .agg parts => uptoBulkAll parts + 1
  | .iface _ d => uptoBulk d + 1
  | .map entries => uptoBulkEntries entries + 1
  | .held _ => 1
def uptoBulkAll {H : Type} : List (DataW H) → Nat
  | [] => 0
  | d :: r => uptoBulk d + uptoBulkAll r
def uptoBulkEntries {H : Type} : List (Lit × DataW H) → Nat
  | [] => 0
  | x :: r => uptoBulkEntry x + uptoBulkEntries r
def uptoBulkEntry {H : Type} : Lit × DataW H → Nat
  | (.string bytes, d) => bytes.length + uptoBulk d + 1
  | (_, d) => uptoBulk d + 1
 end
def uptoSmall : (H : Type) → List (DataW H) → Bool := fun _ ds => decide (uptoBulkAll ds ≤ 1048576)
def OpenSpec.upto (s : _root_.Go.ChangeSpec) : _root_.Go.OpenSpec := { _root_.Go.OpenSpec.ofChange s with cond := some uptoSmall }

/-- 'terracelaw05.SerialNext', WHERE WHAT IT READS IS OF BULK AT MOST 1048576: true; the input reads as it did. -/
def serialNextUptoRow : OpenClaim := { program := "ythebbeoadkehdaa", sum := "bdaf14c95ff96dc9aa1b9181e0099d0b77f8939a6499efda99d00c495937d090", func := "terrace/terracelaw05.SerialNext", spec := "serialNext", apart := false, narrowed := true }
def SerialNextUptoSaid : Prop := serialNextUptoRow.holds Try.pinned (OpenSpec.upto serialNextSpec)

/-- 'terracelaw05.SerialWide', WHERE WHAT IT READS IS OF BULK AT MOST 1048576: true; the input reads as it did. -/
def serialWideUptoRow : OpenClaim := { program := "ythebbeoadkehdaa", sum := "bdaf14c95ff96dc9aa1b9181e0099d0b77f8939a6499efda99d00c495937d090", func := "terrace/terracelaw05.SerialWide", spec := "serialWide", apart := false, narrowed := true }
def SerialWideUptoSaid : Prop := serialWideUptoRow.holds Try.pinned (OpenSpec.upto serialWideSpec)

/-- 'terracelaw05.SerialGaps', WHERE WHAT IT READS IS OF BULK AT MOST 1048576: true; the input reads as it did. -/
def serialGapsUptoRow : OpenClaim := { program := "ythebbeoadkehdaa", sum := "bdaf14c95ff96dc9aa1b9181e0099d0b77f8939a6499efda99d00c495937d090", func := "terrace/terracelaw05.SerialGaps", spec := "serialGaps", apart := false, narrowed := true }
def SerialGapsUptoSaid : Prop := serialGapsUptoRow.holds Try.pinned (OpenSpec.upto serialGapsSpec)

/-- 'terracelaw05.SerialRow', WHERE WHAT IT READS IS OF BULK AT MOST 1048576: true; the input reads as it did. -/
def serialRowUptoRow : OpenClaim := { program := "ythebbeoadkehdaa", sum := "bdaf14c95ff96dc9aa1b9181e0099d0b77f8939a6499efda99d00c495937d090", func := "terrace/terracelaw05.SerialRow", spec := "serialRow", apart := false, narrowed := true }
def SerialRowUptoSaid : Prop := serialRowUptoRow.holds Try.pinned (OpenSpec.upto serialRowSpec)

end Rows
end Go.Proofs.Ythebbeoadkehdaa
