/-
  No cell of these rows narrows 'for every input' (looked for: loops, veiled, ifaces, maps, wideKeys, modest, calm, conditions, laid).
  DERIVED. THE GIVEN ROWS OF THIS SEAT. 4 by the template 'for every input the law returns true; each argument reads behind the call as it read before'; 0 by the template 'total and deterministic' (their statements: YtppefdodhbdlpaaTotals.lean).
  GIVEN WITH THE SEED: the statements are not yours to turn. If you find one false, say at which input.
  Laid BY PROGRAM, IN A SANDBOX (cutbox-rows.mjs): the forced cells as the released guide's own fill.sh prints them over the translation dcc1bc10f0155e90… (all of the seat's roots in one cut). By AI agents, Wed Nov 11 2026. No macro, syntax, notation, axiom, sorry.
-/
import Derived.Test.YtppefdodhbdlpaaChecked
import GoSem.Claim
import GoSem.ClaimJoined
import GoSem.ClaimMapViews
import Derived.JoinedTies
import Derived.KernelRfl
namespace Go.Proofs.Ytppefdodhbdlpaa
/- THE CELL 'sum', in the pinned program and in every row, IS THE sha256 OF THE DUMP (.gsa) THAT YtppefdodhbdlpaaProg.lean LOADS. Nothing in Lean hashes anything: it is a label: what it is worth is what the hold of that sum in a sandbox is worth. -/
noncomputable def Try.pinned : Pinned := { name := "ytppefdodhbdlpaa", sum := "dcc1bc10f0155e90e876a9cf5b00893a94d3acee12884e86617eb09ed085dd0d", checked := Try.checked }
namespace Rows
def none {H : Type} : Left H := { results := [], args := [] }

/-- 'terracelaw09.WheelFull': WHATEVER THE INPUT: true; the input reads as it did. -/
def wheelFullSpec : ChangeSpec := { name := "wheelFull", fn := fun _ => fun
  | [d] => { results := [.lit (.bool true)], args := [d] }
  | _ => none }
def wheelFullRow : OpenClaim := { program := "ytppefdodhbdlpaa", sum := "dcc1bc10f0155e90e876a9cf5b00893a94d3acee12884e86617eb09ed085dd0d", func := "terrace/terracelaw09.WheelFull", spec := "wheelFull", inPlace := ["slices.overlaps[terrace/wheel.timer]"], unfollowed := true, recurses := true, apart := false }
def WheelFullSaid : Prop := wheelFullRow.holds Try.pinned (OpenSpec.ofChange wheelFullSpec)

/-- ITS FALSE NEIGHBOUR: 'it returns false'. Refute it at one input. -/
def wheelFullWrong : ChangeSpec := { name := "wheelFull", fn := fun _ => fun
  | [d] => { results := [.lit (.bool false)], args := [d] }
  | _ => none }
def WheelFullWrongFalsely : Prop := wheelFullRow.holds Try.pinned (OpenSpec.ofChange wheelFullWrong)

/-- 'terracelaw09.WheelPlays': WHATEVER THE INPUT: true; the input reads as it did. -/
def wheelPlaysSpec : ChangeSpec := { name := "wheelPlays", fn := fun _ => fun
  | [d] => { results := [.lit (.bool true)], args := [d] }
  | _ => none }
def wheelPlaysRow : OpenClaim := { program := "ytppefdodhbdlpaa", sum := "dcc1bc10f0155e90e876a9cf5b00893a94d3acee12884e86617eb09ed085dd0d", func := "terrace/terracelaw09.WheelPlays", spec := "wheelPlays", inPlace := ["slices.overlaps[terrace/wheel.timer]"], unfollowed := true, recurses := true, apart := false }
def WheelPlaysSaid : Prop := wheelPlaysRow.holds Try.pinned (OpenSpec.ofChange wheelPlaysSpec)

/-- ITS FALSE NEIGHBOUR: 'it returns false'. Refute it at one input. -/
def wheelPlaysWrong : ChangeSpec := { name := "wheelPlays", fn := fun _ => fun
  | [d] => { results := [.lit (.bool false)], args := [d] }
  | _ => none }
def WheelPlaysWrongFalsely : Prop := wheelPlaysRow.holds Try.pinned (OpenSpec.ofChange wheelPlaysWrong)

/-- 'terracelaw09.WheelTurns': WHATEVER THE INPUT: true; the input reads as it did. -/
def wheelTurnsSpec : ChangeSpec := { name := "wheelTurns", fn := fun _ => fun
  | [d1, d2] => { results := [.lit (.bool true)], args := [d1, d2] }
  | _ => none }
def wheelTurnsRow : OpenClaim := { program := "ytppefdodhbdlpaa", sum := "dcc1bc10f0155e90e876a9cf5b00893a94d3acee12884e86617eb09ed085dd0d", func := "terrace/terracelaw09.WheelTurns", spec := "wheelTurns", inPlace := ["slices.overlaps[terrace/wheel.timer]"], unfollowed := true, recurses := true, apart := false }
def WheelTurnsSaid : Prop := wheelTurnsRow.holds Try.pinned (OpenSpec.ofChange wheelTurnsSpec)

/-- ITS FALSE NEIGHBOUR: 'it returns false'. Refute it at one input. -/
def wheelTurnsWrong : ChangeSpec := { name := "wheelTurns", fn := fun _ => fun
  | [d1, d2] => { results := [.lit (.bool false)], args := [d1, d2] }
  | _ => none }
def WheelTurnsWrongFalsely : Prop := wheelTurnsRow.holds Try.pinned (OpenSpec.ofChange wheelTurnsWrong)

/-- 'terracelaw09.WheelCopies': WHATEVER THE INPUT: true; the input reads as it did. -/
def wheelCopiesSpec : ChangeSpec := { name := "wheelCopies", fn := fun _ => fun
  | [d1, d2] => { results := [.lit (.bool true)], args := [d1, d2] }
  | _ => none }
def wheelCopiesRow : OpenClaim := { program := "ytppefdodhbdlpaa", sum := "dcc1bc10f0155e90e876a9cf5b00893a94d3acee12884e86617eb09ed085dd0d", func := "terrace/terracelaw09.WheelCopies", spec := "wheelCopies", inPlace := ["slices.overlaps[terrace/wheel.timer]"], unfollowed := true, recurses := true, apart := false }
def WheelCopiesSaid : Prop := wheelCopiesRow.holds Try.pinned (OpenSpec.ofChange wheelCopiesSpec)

/-- ITS FALSE NEIGHBOUR: 'it returns false'. Refute it at one input. -/
def wheelCopiesWrong : ChangeSpec := { name := "wheelCopies", fn := fun _ => fun
  | [d1, d2] => { results := [.lit (.bool false)], args := [d1, d2] }
  | _ => none }
def WheelCopiesWrongFalsely : Prop := wheelCopiesRow.holds Try.pinned (OpenSpec.ofChange wheelCopiesWrong)

/- THE SECOND FORM. 'bulk': how many values and letters a reading holds, each counted each time it is reached (what is shared counts as often as it is met; a slice's spare places count too). A statement '..UptoSaid' is the law's where the arguments, and the package variables that the reading takes, are together of bulk at most 1048576: NARROWER than '..Said'. Prove '..Said' where nothing that the law and all that it calls make is longer than what came in: it says more and counts as full. Else prove '..UptoSaid'. A law counts once. -/
mutual
def uptoBulk {H : Type} : DataW H → Nat
  | .lit (.string bytes) => bytes.length + 1
  | .lit _ => 1
  | .nil => 1
  | .ptr d => uptoBulk d + 1
  | .slice elems spare => uptoBulkAll elems + uptoBulkAll spare + 1
  | .agg parts => uptoBulkAll parts + 1
  | .iface _ d => uptoBulk d + 1
  | .map entries => uptoBulkEntries entries + 1
  | .held _ => 1
def uptoBulkAll {H : Type} : List (DataW H) → Nat
  | [] => 0
  | d :: r => uptoBulk d + uptoBulkAll r
def uptoBulkEntries {H : Type} : List (Lit × DataW H) → Nat
  | [] => 0
  | x :: r => uptoBulkEntry x + uptoBulkEntries r
def uptoBulkEntry {H : Type} : Lit × DataW H → Nat
  | (.string bytes, d) => bytes.length + uptoBulk d + 1
  | (_, d) => uptoBulk d + 1
 end
def uptoSmall : (H : Type) → List (DataW H) → Bool := fun _ ds => decide (uptoBulkAll ds ≤ 1048576)
def OpenSpec.upto (s : _root_.Go.ChangeSpec) : _root_.Go.OpenSpec := { _root_.Go.OpenSpec.ofChange s with cond := some uptoSmall }

/-- 'terracelaw09.WheelFull', WHERE WHAT IT READS IS OF BULK AT MOST 1048576: true; the input reads as it did. -/
def wheelFullUptoRow : OpenClaim := { program := "ytppefdodhbdlpaa", sum := "dcc1bc10f0155e90e876a9cf5b00893a94d3acee12884e86617eb09ed085dd0d", func := "terrace/terracelaw09.WheelFull", spec := "wheelFull", inPlace := ["slices.overlaps[terrace/wheel.timer]"], unfollowed := true, recurses := true, apart := false, narrowed := true }
def WheelFullUptoSaid : Prop := wheelFullUptoRow.holds Try.pinned (OpenSpec.upto wheelFullSpec)

/-- 'terracelaw09.WheelPlays', WHERE WHAT IT READS IS OF BULK AT MOST 1048576: true; the input reads as it did. -/
def wheelPlaysUptoRow : OpenClaim := { program := "ytppefdodhbdlpaa", sum := "dcc1bc10f0155e90e876a9cf5b00893a94d3acee12884e86617eb09ed085dd0d", func := "terrace/terracelaw09.WheelPlays", spec := "wheelPlays", inPlace := ["slices.overlaps[terrace/wheel.timer]"], unfollowed := true, recurses := true, apart := false, narrowed := true }
def WheelPlaysUptoSaid : Prop := wheelPlaysUptoRow.holds Try.pinned (OpenSpec.upto wheelPlaysSpec)

/-- 'terracelaw09.WheelTurns', WHERE WHAT IT READS IS OF BULK AT MOST 1048576: true; the input reads as it did. -/
def wheelTurnsUptoRow : OpenClaim := { program := "ytppefdodhbdlpaa", sum := "dcc1bc10f0155e90e876a9cf5b00893a94d3acee12884e86617eb09ed085dd0d", func := "terrace/terracelaw09.WheelTurns", spec := "wheelTurns", inPlace := ["slices.overlaps[terrace/wheel.timer]"], unfollowed := true, recurses := true, apart := false, narrowed := true }
def WheelTurnsUptoSaid : Prop := wheelTurnsUptoRow.holds Try.pinned (OpenSpec.upto wheelTurnsSpec)

/-- 'terracelaw09.WheelCopies', WHERE WHAT IT READS IS OF BULK AT MOST 1048576: true; the input reads as it did. -/
def wheelCopiesUptoRow : OpenClaim := { program := "ytppefdodhbdlpaa", sum := "dcc1bc10f0155e90e876a9cf5b00893a94d3acee12884e86617eb09ed085dd0d", func := "terrace/terracelaw09.WheelCopies", spec := "wheelCopies", inPlace := ["slices.overlaps[terrace/wheel.timer]"], unfollowed := true, recurses := true, apart := false, narrowed := true }
def WheelCopiesUptoSaid : Prop := wheelCopiesUptoRow.holds Try.pinned (OpenSpec.upto wheelCopiesSpec)

end Rows
end Go.Proofs.Ytppefdodhbdlpaa
