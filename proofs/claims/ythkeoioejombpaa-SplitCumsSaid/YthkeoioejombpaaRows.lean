/-
  No cell of these rows narrows 'for every input' (looked for: loops, veiled, ifaces, maps, wideKeys, modest, calm, conditions, laid).
  DERIVED. THE GIVEN ROWS OF THIS SEAT. 5 by the template 'for every input the law returns true; each argument reads behind the call as it read before'; 0 by the template 'total and deterministic' (their statements: YthkeoioejombpaaTotals.lean).
  GIVEN WITH THE SEED: the statements are not yours to turn. If you find one false, say at which input.
  Laid BY PROGRAM, IN A SANDBOX (cutbox-rows.mjs): the forced cells as the released guide's own fill.sh prints them over the translation c8415a50679e1aec… (all of the seat's roots in one cut). By AI agents, Wed Nov 11 2026. No macro, syntax, notation, axiom, sorry.
-/
import Derived.Test.YthkeoioejombpaaChecked
import GoSem.Claim
import GoSem.ClaimJoined
import GoSem.ClaimMapViews
import Derived.JoinedTies
import Derived.KernelRfl
namespace Go.Proofs.Ythkeoioejombpaa
/- THE CELL 'sum', in the pinned program and in every row, IS THE sha256 OF THE DUMP (.gsa) THAT YthkeoioejombpaaProg.lean LOADS. Nothing in Lean hashes anything: it is a label: what it is worth is what the hold of that sum in a sandbox is worth. -/
noncomputable def Try.pinned : Pinned := { name := "ythkeoioejombpaa", sum := "c8415a50679e1aecf914841ffa4e95b2aed9db23641dddb8579b1d4f7455220b", checked := Try.checked }
namespace Rows
def none {H : Type} : Left H := { results := [], args := [] }

/-- 'terracelaw21.SplitCums': WHATEVER THE INPUT: true; the input reads as it did. -/
def splitCumsSpec : ChangeSpec := { name := "splitCums", fn := fun _ => fun
  | [d1, d2, d3] => { results := [.lit (.bool true)], args := [d1, d2, d3] }
  | _ => none }
def splitCumsRow : OpenClaim := { program := "ythkeoioejombpaa", sum := "c8415a50679e1aecf914841ffa4e95b2aed9db23641dddb8579b1d4f7455220b", func := "terrace/terracelaw21.SplitCums", spec := "splitCums", apart := false }
def SplitCumsSaid : Prop := splitCumsRow.holds Try.pinned (OpenSpec.ofChange splitCumsSpec)

/-- ITS FALSE NEIGHBOUR: 'it returns false'. Refute it at one input. -/
def splitCumsWrong : ChangeSpec := { name := "splitCums", fn := fun _ => fun
  | [d1, d2, d3] => { results := [.lit (.bool false)], args := [d1, d2, d3] }
  | _ => none }
def SplitCumsWrongFalsely : Prop := splitCumsRow.holds Try.pinned (OpenSpec.ofChange splitCumsWrong)

/-- 'terracelaw21.SplitOwn': WHATEVER THE INPUT: true; the input reads as it did. -/
def splitOwnSpec : ChangeSpec := { name := "splitOwn", fn := fun _ => fun
  | [d1, d2] => { results := [.lit (.bool true)], args := [d1, d2] }
  | _ => none }
def splitOwnRow : OpenClaim := { program := "ythkeoioejombpaa", sum := "c8415a50679e1aecf914841ffa4e95b2aed9db23641dddb8579b1d4f7455220b", func := "terrace/terracelaw21.SplitOwn", spec := "splitOwn", apart := false }
def SplitOwnSaid : Prop := splitOwnRow.holds Try.pinned (OpenSpec.ofChange splitOwnSpec)

/-- ITS FALSE NEIGHBOUR: 'it returns false'. Refute it at one input. -/
def splitOwnWrong : ChangeSpec := { name := "splitOwn", fn := fun _ => fun
  | [d1, d2] => { results := [.lit (.bool false)], args := [d1, d2] }
  | _ => none }
def SplitOwnWrongFalsely : Prop := splitOwnRow.holds Try.pinned (OpenSpec.ofChange splitOwnWrong)

/-- 'terracelaw21.SplitLevels': WHATEVER THE INPUT: true; the input reads as it did. -/
def splitLevelsSpec : ChangeSpec := { name := "splitLevels", fn := fun _ => fun
  | [d1, d2, d3] => { results := [.lit (.bool true)], args := [d1, d2, d3] }
  | _ => none }
def splitLevelsRow : OpenClaim := { program := "ythkeoioejombpaa", sum := "c8415a50679e1aecf914841ffa4e95b2aed9db23641dddb8579b1d4f7455220b", func := "terrace/terracelaw21.SplitLevels", spec := "splitLevels", apart := false }
def SplitLevelsSaid : Prop := splitLevelsRow.holds Try.pinned (OpenSpec.ofChange splitLevelsSpec)

/-- ITS FALSE NEIGHBOUR: 'it returns false'. Refute it at one input. -/
def splitLevelsWrong : ChangeSpec := { name := "splitLevels", fn := fun _ => fun
  | [d1, d2, d3] => { results := [.lit (.bool false)], args := [d1, d2, d3] }
  | _ => none }
def SplitLevelsWrongFalsely : Prop := splitLevelsRow.holds Try.pinned (OpenSpec.ofChange splitLevelsWrong)

/-- 'terracelaw21.SplitFits': WHATEVER THE INPUT: true; the input reads as it did. -/
def splitFitsSpec : ChangeSpec := { name := "splitFits", fn := fun _ => fun
  | [d1, d2] => { results := [.lit (.bool true)], args := [d1, d2] }
  | _ => none }
def splitFitsRow : OpenClaim := { program := "ythkeoioejombpaa", sum := "c8415a50679e1aecf914841ffa4e95b2aed9db23641dddb8579b1d4f7455220b", func := "terrace/terracelaw21.SplitFits", spec := "splitFits", apart := false }
def SplitFitsSaid : Prop := splitFitsRow.holds Try.pinned (OpenSpec.ofChange splitFitsSpec)

/-- ITS FALSE NEIGHBOUR: 'it returns false'. Refute it at one input. -/
def splitFitsWrong : ChangeSpec := { name := "splitFits", fn := fun _ => fun
  | [d1, d2] => { results := [.lit (.bool false)], args := [d1, d2] }
  | _ => none }
def SplitFitsWrongFalsely : Prop := splitFitsRow.holds Try.pinned (OpenSpec.ofChange splitFitsWrong)

/-- 'terracelaw21.SplitShares': WHATEVER THE INPUT: true; the input reads as it did. -/
def splitSharesSpec : ChangeSpec := { name := "splitShares", fn := fun _ => fun
  | [d] => { results := [.lit (.bool true)], args := [d] }
  | _ => none }
def splitSharesRow : OpenClaim := { program := "ythkeoioejombpaa", sum := "c8415a50679e1aecf914841ffa4e95b2aed9db23641dddb8579b1d4f7455220b", func := "terrace/terracelaw21.SplitShares", spec := "splitShares", apart := false }
def SplitSharesSaid : Prop := splitSharesRow.holds Try.pinned (OpenSpec.ofChange splitSharesSpec)

/-- ITS FALSE NEIGHBOUR: 'it returns false'. Refute it at one input. -/
def splitSharesWrong : ChangeSpec := { name := "splitShares", fn := fun _ => fun
  | [d] => { results := [.lit (.bool false)], args := [d] }
  | _ => none }
def SplitSharesWrongFalsely : Prop := splitSharesRow.holds Try.pinned (OpenSpec.ofChange splitSharesWrong)

/- THE SECOND FORM. 'bulk': how many values and letters a reading holds, each counted each time it is reached (what is shared counts as often as it is met; a slice's spare places count too). A statement '..UptoSaid' is the law's where the arguments, and the package variables that the reading takes, are together of bulk at most 1048576: NARROWER than '..Said'. Prove '..Said' where nothing that the law and all that it calls make is longer than what came in: it says more and counts as full. Else prove '..UptoSaid'. A law counts once. -/
mutual
def uptoBulk {H : Type} : DataW H → Nat
  | .lit (.string bytes) => bytes.length + 1
  | .lit _ => 1
  | .nil => 1
  | .ptr d => uptoBulk d + 1
  | .slice elems spare => uptoBulkAll elems + uptoBulkAll spare + 1
  | .agg parts => uptoBulkAll parts + 1
  | .iface _ d => uptoBulk d + 1
  | .map entries => uptoBulkEntries entries + 1
  | .held _ => 1
def uptoBulkAll {H : Type} : List (DataW H) → Nat
  | [] => 0
  | d :: r => uptoBulk d + uptoBulkAll r
def uptoBulkEntries {H : Type} : List (Lit × DataW H) → Nat
  | [] => 0
  | x :: r => uptoBulkEntry x + uptoBulkEntries r
def uptoBulkEntry {H : Type} : Lit × DataW H → Nat
  | (.string bytes, d) => bytes.length + uptoBulk d + 1
  | (_, d) => uptoBulk d + 1
 end
def uptoSmall : (H : Type) → List (DataW H) → Bool := fun _ ds => decide (uptoBulkAll ds ≤ 1048576)
def OpenSpec.upto (s : _root_.Go.ChangeSpec) : _root_.Go.OpenSpec := { _root_.Go.OpenSpec.ofChange s with cond := some uptoSmall }

/-- 'terracelaw21.SplitCums', WHERE WHAT IT READS IS OF BULK AT MOST 1048576: true; the input reads as it did. -/
def splitCumsUptoRow : OpenClaim := { program := "ythkeoioejombpaa", sum := "c8415a50679e1aecf914841ffa4e95b2aed9db23641dddb8579b1d4f7455220b", func := "terrace/terracelaw21.SplitCums", spec := "splitCums", apart := false, narrowed := true }
def SplitCumsUptoSaid : Prop := splitCumsUptoRow.holds Try.pinned (OpenSpec.upto splitCumsSpec)

/-- 'terracelaw21.SplitOwn', WHERE WHAT IT READS IS OF BULK AT MOST 1048576: true; the input reads as it did. -/
def splitOwnUptoRow : OpenClaim := { program := "ythkeoioejombpaa", sum := "c8415a50679e1aecf914841ffa4e95b2aed9db23641dddb8579b1d4f7455220b", func := "terrace/terracelaw21.SplitOwn", spec := "splitOwn", apart := false, narrowed := true }
def SplitOwnUptoSaid : Prop := splitOwnUptoRow.holds Try.pinned (OpenSpec.upto splitOwnSpec)

/-- 'terracelaw21.SplitLevels', WHERE WHAT IT READS IS OF BULK AT MOST 1048576: true; the input reads as it did. -/
def splitLevelsUptoRow : OpenClaim := { program := "ythkeoioejombpaa", sum := "c8415a50679e1aecf914841ffa4e95b2aed9db23641dddb8579b1d4f7455220b", func := "terrace/terracelaw21.SplitLevels", spec := "splitLevels", apart := false, narrowed := true }
def SplitLevelsUptoSaid : Prop := splitLevelsUptoRow.holds Try.pinned (OpenSpec.upto splitLevelsSpec)

/-- 'terracelaw21.SplitFits', WHERE WHAT IT READS IS OF BULK AT MOST 1048576: true; the input reads as it did. -/
def splitFitsUptoRow : OpenClaim := { program := "ythkeoioejombpaa", sum := "c8415a50679e1aecf914841ffa4e95b2aed9db23641dddb8579b1d4f7455220b", func := "terrace/terracelaw21.SplitFits", spec := "splitFits", apart := false, narrowed := true }
def SplitFitsUptoSaid : Prop := splitFitsUptoRow.holds Try.pinned (OpenSpec.upto splitFitsSpec)

/-- 'terracelaw21.SplitShares', WHERE WHAT IT READS IS OF BULK AT MOST 1048576: true; the input reads as it did. -/
def splitSharesUptoRow : OpenClaim := { program := "ythkeoioejombpaa", sum := "c8415a50679e1aecf914841ffa4e95b2aed9db23641dddb8579b1d4f7455220b", func := "terrace/terracelaw21.SplitShares", spec := "splitShares", apart := false, narrowed := true }
def SplitSharesUptoSaid : Prop := splitSharesUptoRow.holds Try.pinned (OpenSpec.upto splitSharesSpec)

end Rows
end Go.Proofs.Ythkeoioejombpaa
