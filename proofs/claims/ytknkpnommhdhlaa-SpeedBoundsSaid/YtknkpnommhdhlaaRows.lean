/-
  No cell of these rows narrows 'for every input' (looked for: loops, veiled, ifaces, maps, wideKeys, modest, calm, conditions, laid).
  DERIVED. THE GIVEN ROWS OF THIS SEAT. 4 by the template 'for every input the law returns true; each argument reads behind the call as it read before'; 0 by the template 'total and deterministic' (their statements: YtknkpnommhdhlaaTotals.lean).
  GIVEN WITH THE SEED: the statements are not yours to turn. If you find one false, say at which input.
  Laid BY PROGRAM, IN A SANDBOX (cutbox-rows.mjs): the forced cells as the released guide's own fill.sh prints them over the translation 481438f565766ed2… (all of the seat's roots in one cut). By AI agents, Wed Nov 11 2026. No macro, syntax, notation, axiom, sorry.
-/
import Derived.Test.YtknkpnommhdhlaaChecked
import GoSem.Claim
import GoSem.ClaimJoined
import GoSem.ClaimMapViews
import Derived.JoinedTies
import Derived.KernelRfl
namespace Go.Proofs.Ytknkpnommhdhlaa
/- THE CELL 'sum', in the pinned program and in every row, IS THE sha256 OF THE DUMP (.gsa) THAT YtknkpnommhdhlaaProg.lean LOADS. Nothing in Lean hashes anything: it is a label: what it is worth is what the hold of that sum in a sandbox is worth. -/
noncomputable def Try.pinned : Pinned := { name := "ytknkpnommhdhlaa", sum := "481438f565766ed2aff9ee443f27c6d2d7d23ed607e77825a1eca201b2428a7d", checked := Try.checked }
namespace Rows
def none {H : Type} : Left H := { results := [], args := [] }

/-- 'terracelaw19.SpeedComes': WHATEVER THE INPUT: true; the input reads as it did. -/
def speedComesSpec : ChangeSpec := { name := "speedComes", fn := fun _ => fun
  | [d] => { results := [.lit (.bool true)], args := [d] }
  | _ => none }
def speedComesRow : OpenClaim := { program := "ytknkpnommhdhlaa", sum := "481438f565766ed2aff9ee443f27c6d2d7d23ed607e77825a1eca201b2428a7d", func := "terrace/terracelaw19.SpeedComes", spec := "speedComes", inPlace := ["math/bits.Add64"], named := ["math/bits.divideError", "math/bits.overflowError"], apart := false }
def SpeedComesSaid : Prop := speedComesRow.holds Try.pinned (OpenSpec.ofChange speedComesSpec)

/-- ITS FALSE NEIGHBOUR: 'it returns false'. Refute it at one input. -/
def speedComesWrong : ChangeSpec := { name := "speedComes", fn := fun _ => fun
  | [d] => { results := [.lit (.bool false)], args := [d] }
  | _ => none }
def SpeedComesWrongFalsely : Prop := speedComesRow.holds Try.pinned (OpenSpec.ofChange speedComesWrong)

/-- 'terracelaw19.SpeedBounds': WHATEVER THE INPUT: true; the input reads as it did. -/
def speedBoundsSpec : ChangeSpec := { name := "speedBounds", fn := fun _ => fun
  | [d1, d2, d3] => { results := [.lit (.bool true)], args := [d1, d2, d3] }
  | _ => none }
def speedBoundsRow : OpenClaim := { program := "ytknkpnommhdhlaa", sum := "481438f565766ed2aff9ee443f27c6d2d7d23ed607e77825a1eca201b2428a7d", func := "terrace/terracelaw19.SpeedBounds", spec := "speedBounds", inPlace := ["math/bits.Add64"], named := ["math/bits.divideError", "math/bits.overflowError"], apart := false }
def SpeedBoundsSaid : Prop := speedBoundsRow.holds Try.pinned (OpenSpec.ofChange speedBoundsSpec)

/-- ITS FALSE NEIGHBOUR: 'it returns false'. Refute it at one input. -/
def speedBoundsWrong : ChangeSpec := { name := "speedBounds", fn := fun _ => fun
  | [d1, d2, d3] => { results := [.lit (.bool false)], args := [d1, d2, d3] }
  | _ => none }
def SpeedBoundsWrongFalsely : Prop := speedBoundsRow.holds Try.pinned (OpenSpec.ofChange speedBoundsWrong)

/-- 'terracelaw19.SpeedPlays': WHATEVER THE INPUT: true; the input reads as it did. -/
def speedPlaysSpec : ChangeSpec := { name := "speedPlays", fn := fun _ => fun
  | [d1, d2, d3] => { results := [.lit (.bool true)], args := [d1, d2, d3] }
  | _ => none }
def speedPlaysRow : OpenClaim := { program := "ytknkpnommhdhlaa", sum := "481438f565766ed2aff9ee443f27c6d2d7d23ed607e77825a1eca201b2428a7d", func := "terrace/terracelaw19.SpeedPlays", spec := "speedPlays", inPlace := ["math/bits.Add64"], named := ["math/bits.divideError", "math/bits.overflowError"], apart := false }
def SpeedPlaysSaid : Prop := speedPlaysRow.holds Try.pinned (OpenSpec.ofChange speedPlaysSpec)

/-- ITS FALSE NEIGHBOUR: 'it returns false'. Refute it at one input. -/
def speedPlaysWrong : ChangeSpec := { name := "speedPlays", fn := fun _ => fun
  | [d1, d2, d3] => { results := [.lit (.bool false)], args := [d1, d2, d3] }
  | _ => none }
def SpeedPlaysWrongFalsely : Prop := speedPlaysRow.holds Try.pinned (OpenSpec.ofChange speedPlaysWrong)

/-- 'terracelaw19.SpeedCopies': WHATEVER THE INPUT: true; the input reads as it did. -/
def speedCopiesSpec : ChangeSpec := { name := "speedCopies", fn := fun _ => fun
  | [d1, d2, d3] => { results := [.lit (.bool true)], args := [d1, d2, d3] }
  | _ => none }
def speedCopiesRow : OpenClaim := { program := "ytknkpnommhdhlaa", sum := "481438f565766ed2aff9ee443f27c6d2d7d23ed607e77825a1eca201b2428a7d", func := "terrace/terracelaw19.SpeedCopies", spec := "speedCopies", inPlace := ["math/bits.Add64"], named := ["math/bits.divideError", "math/bits.overflowError"], apart := false }
def SpeedCopiesSaid : Prop := speedCopiesRow.holds Try.pinned (OpenSpec.ofChange speedCopiesSpec)

/-- ITS FALSE NEIGHBOUR: 'it returns false'. Refute it at one input. -/
def speedCopiesWrong : ChangeSpec := { name := "speedCopies", fn := fun _ => fun
  | [d1, d2, d3] => { results := [.lit (.bool false)], args := [d1, d2, d3] }
  | _ => none }
def SpeedCopiesWrongFalsely : Prop := speedCopiesRow.holds Try.pinned (OpenSpec.ofChange speedCopiesWrong)

/- THE SECOND FORM. 'bulk': how many values and letters a reading holds, each counted each time it is reached (what is shared counts as often as it is met; a slice's spare places count too). A statement '..UptoSaid' is the law's where the arguments, and the package variables that the reading takes, are together of bulk at most 1048576: NARROWER than '..Said'. Prove '..Said' where nothing that the law and all that it calls make is longer than what came in: it says more and counts as full. Else prove '..UptoSaid'. A law counts once. -/
mutual
def uptoBulk {H : Type} : DataW H → Nat
  | .lit (.string bytes) => bytes.length + 1
  | .lit _ => 1
  | .nil => 1
  | .ptr d => uptoBulk d + 1
  | .slice elems spare => uptoBulkAll elems + uptoBulkAll spare + 1
  | .agg parts => uptoBulkAll parts + 1
  | .iface _ d => uptoBulk d + 1
  | .map entries => uptoBulkEntries entries + 1
  | .held _ => 1
def uptoBulkAll {H : Type} : List (DataW H) → Nat
  | [] => 0
  | d :: r => uptoBulk d + uptoBulkAll r
def uptoBulkEntries {H : Type} : List (Lit × DataW H) → Nat
  | [] => 0
  | x :: r => uptoBulkEntry x + uptoBulkEntries r
def uptoBulkEntry {H : Type} : Lit × DataW H → Nat
  | (.string bytes, d) => bytes.length + uptoBulk d + 1
  | (_, d) => uptoBulk d + 1
 end
def uptoSmall : (H : Type) → List (DataW H) → Bool := fun _ ds => decide (uptoBulkAll ds ≤ 1048576)
def OpenSpec.upto (s : _root_.Go.ChangeSpec) : _root_.Go.OpenSpec := { _root_.Go.OpenSpec.ofChange s with cond := some uptoSmall }

/-- 'terracelaw19.SpeedComes', WHERE WHAT IT READS IS OF BULK AT MOST 1048576: true; the input reads as it did. -/
def speedComesUptoRow : OpenClaim := { program := "ytknkpnommhdhlaa", sum := "481438f565766ed2aff9ee443f27c6d2d7d23ed607e77825a1eca201b2428a7d", func := "terrace/terracelaw19.SpeedComes", spec := "speedComes", inPlace := ["math/bits.Add64"], named := ["math/bits.divideError", "math/bits.overflowError"], apart := false, narrowed := true }
def SpeedComesUptoSaid : Prop := speedComesUptoRow.holds Try.pinned (OpenSpec.upto speedComesSpec)

/-- 'terracelaw19.SpeedBounds', WHERE WHAT IT READS IS OF BULK AT MOST 1048576: true; the input reads as it did. -/
def speedBoundsUptoRow : OpenClaim := { program := "ytknkpnommhdhlaa", sum := "481438f565766ed2aff9ee443f27c6d2d7d23ed607e77825a1eca201b2428a7d", func := "terrace/terracelaw19.SpeedBounds", spec := "speedBounds", inPlace := ["math/bits.Add64"], named := ["math/bits.divideError", "math/bits.overflowError"], apart := false, narrowed := true }
def SpeedBoundsUptoSaid : Prop := speedBoundsUptoRow.holds Try.pinned (OpenSpec.upto speedBoundsSpec)

/-- 'terracelaw19.SpeedPlays', WHERE WHAT IT READS IS OF BULK AT MOST 1048576: true; the input reads as it did. -/
def speedPlaysUptoRow : OpenClaim := { program := "ytknkpnommhdhlaa", sum := "481438f565766ed2aff9ee443f27c6d2d7d23ed607e77825a1eca201b2428a7d", func := "terrace/terracelaw19.SpeedPlays", spec := "speedPlays", inPlace := ["math/bits.Add64"], named := ["math/bits.divideError", "math/bits.overflowError"], apart := false, narrowed := true }
def SpeedPlaysUptoSaid : Prop := speedPlaysUptoRow.holds Try.pinned (OpenSpec.upto speedPlaysSpec)

/-- 'terracelaw19.SpeedCopies', WHERE WHAT IT READS IS OF BULK AT MOST 1048576: true; the input reads as it did. -/
def speedCopiesUptoRow : OpenClaim := { program := "ytknkpnommhdhlaa", sum := "481438f565766ed2aff9ee443f27c6d2d7d23ed607e77825a1eca201b2428a7d", func := "terrace/terracelaw19.SpeedCopies", spec := "speedCopies", inPlace := ["math/bits.Add64"], named := ["math/bits.divideError", "math/bits.overflowError"], apart := false, narrowed := true }
def SpeedCopiesUptoSaid : Prop := speedCopiesUptoRow.holds Try.pinned (OpenSpec.upto speedCopiesSpec)

end Rows
end Go.Proofs.Ytknkpnommhdhlaa
