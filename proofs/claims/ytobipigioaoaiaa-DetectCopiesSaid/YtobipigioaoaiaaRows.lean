/-
  No cell of these rows narrows 'for every input' (looked for: loops, veiled, ifaces, maps, wideKeys, modest, calm, conditions, laid).
  DERIVED. THE GIVEN ROWS OF THIS SEAT. 4 by the template 'for every input the law returns true; each argument reads behind the call as it read before'; 0 by the template 'total and deterministic' (their statements: YtobipigioaoaiaaTotals.lean).
  GIVEN WITH THE SEED: the statements are not yours to turn. If you find one false, say at which input.
  Laid BY PROGRAM, IN A SANDBOX (cutbox-rows.mjs): the forced cells as the released guide's own fill.sh prints them over the translation 5677f91624314fbb… (all of the seat's roots in one cut). By AI agents, Wed Nov 11 2026. No macro, syntax, notation, axiom, sorry.
-/
import Derived.Test.YtobipigioaoaiaaChecked
import GoSem.Claim
import GoSem.ClaimJoined
import GoSem.ClaimMapViews
import Derived.JoinedTies
import Derived.KernelRfl
namespace Go.Proofs.Ytobipigioaoaiaa
/- THE CELL 'sum', in the pinned program and in every row, IS THE sha256 OF THE DUMP (.gsa) THAT YtobipigioaoaiaaProg.lean LOADS. Nothing in Lean hashes anything: it is a label: what it is worth is what the hold of that sum in a sandbox is worth. -/
noncomputable def Try.pinned : Pinned := { name := "ytobipigioaoaiaa", sum := "5677f91624314fbba0aa46cf7fec7c4ef7503677a32e47e406a90cb968033730", checked := Try.checked }
namespace Rows
def none {H : Type} : Left H := { results := [], args := [] }

/-- 'terracelaw15.DetectGroups': WHATEVER THE INPUT: true; the input reads as it did. -/
def detectGroupsSpec : ChangeSpec := { name := "detectGroups", fn := fun _ => fun
  | [d1, d2] => { results := [.lit (.bool true)], args := [d1, d2] }
  | _ => none }
def detectGroupsRow : OpenClaim := { program := "ytobipigioaoaiaa", sum := "5677f91624314fbba0aa46cf7fec7c4ef7503677a32e47e406a90cb968033730", func := "terrace/terracelaw15.DetectGroups", spec := "detectGroups", inPlace := ["slices.overlaps[int]"], apart := false }
def DetectGroupsSaid : Prop := detectGroupsRow.holds Try.pinned (OpenSpec.ofChange detectGroupsSpec)

/-- ITS FALSE NEIGHBOUR: 'it returns false'. Refute it at one input. -/
def detectGroupsWrong : ChangeSpec := { name := "detectGroups", fn := fun _ => fun
  | [d1, d2] => { results := [.lit (.bool false)], args := [d1, d2] }
  | _ => none }
def DetectGroupsWrongFalsely : Prop := detectGroupsRow.holds Try.pinned (OpenSpec.ofChange detectGroupsWrong)

/-- 'terracelaw15.DetectRow': WHATEVER THE INPUT: true; the input reads as it did. -/
def detectRowSpec : ChangeSpec := { name := "detectRow", fn := fun _ => fun
  | [d1, d2] => { results := [.lit (.bool true)], args := [d1, d2] }
  | _ => none }
def detectRowRow : OpenClaim := { program := "ytobipigioaoaiaa", sum := "5677f91624314fbba0aa46cf7fec7c4ef7503677a32e47e406a90cb968033730", func := "terrace/terracelaw15.DetectRow", spec := "detectRow", inPlace := ["slices.overlaps[int]"], apart := false }
def DetectRowSaid : Prop := detectRowRow.holds Try.pinned (OpenSpec.ofChange detectRowSpec)

/-- ITS FALSE NEIGHBOUR: 'it returns false'. Refute it at one input. -/
def detectRowWrong : ChangeSpec := { name := "detectRow", fn := fun _ => fun
  | [d1, d2] => { results := [.lit (.bool false)], args := [d1, d2] }
  | _ => none }
def DetectRowWrongFalsely : Prop := detectRowRow.holds Try.pinned (OpenSpec.ofChange detectRowWrong)

/-- 'terracelaw15.DetectPlays': WHATEVER THE INPUT: true; the input reads as it did. -/
def detectPlaysSpec : ChangeSpec := { name := "detectPlays", fn := fun _ => fun
  | [d] => { results := [.lit (.bool true)], args := [d] }
  | _ => none }
def detectPlaysRow : OpenClaim := { program := "ytobipigioaoaiaa", sum := "5677f91624314fbba0aa46cf7fec7c4ef7503677a32e47e406a90cb968033730", func := "terrace/terracelaw15.DetectPlays", spec := "detectPlays", inPlace := ["slices.overlaps[int]"], apart := false }
def DetectPlaysSaid : Prop := detectPlaysRow.holds Try.pinned (OpenSpec.ofChange detectPlaysSpec)

/-- ITS FALSE NEIGHBOUR: 'it returns false'. Refute it at one input. -/
def detectPlaysWrong : ChangeSpec := { name := "detectPlays", fn := fun _ => fun
  | [d] => { results := [.lit (.bool false)], args := [d] }
  | _ => none }
def DetectPlaysWrongFalsely : Prop := detectPlaysRow.holds Try.pinned (OpenSpec.ofChange detectPlaysWrong)

/-- 'terracelaw15.DetectCopies': WHATEVER THE INPUT: true; the input reads as it did. -/
def detectCopiesSpec : ChangeSpec := { name := "detectCopies", fn := fun _ => fun
  | [d1, d2] => { results := [.lit (.bool true)], args := [d1, d2] }
  | _ => none }
def detectCopiesRow : OpenClaim := { program := "ytobipigioaoaiaa", sum := "5677f91624314fbba0aa46cf7fec7c4ef7503677a32e47e406a90cb968033730", func := "terrace/terracelaw15.DetectCopies", spec := "detectCopies", inPlace := ["slices.overlaps[int]"], apart := false }
def DetectCopiesSaid : Prop := detectCopiesRow.holds Try.pinned (OpenSpec.ofChange detectCopiesSpec)

/-- ITS FALSE NEIGHBOUR: 'it returns false'. Refute it at one input. -/
def detectCopiesWrong : ChangeSpec := { name := "detectCopies", fn := fun _ => fun
  | [d1, d2] => { results := [.lit (.bool false)], args := [d1, d2] }
  | _ => none }
def DetectCopiesWrongFalsely : Prop := detectCopiesRow.holds Try.pinned (OpenSpec.ofChange detectCopiesWrong)

/- THE SECOND FORM. 'bulk': how many values and letters a reading holds, each counted each time it is reached (what is shared counts as often as it is met; a slice's spare places count too). A statement '..UptoSaid' is the law's where the arguments, and the package variables that the reading takes, are together of bulk at most 1048576: NARROWER than '..Said'. Prove '..Said' where nothing that the law and all that it calls make is longer than what came in: it says more and counts as full. Else prove '..UptoSaid'. A law counts once. -/
mutual
def uptoBulk {H : Type} : DataW H → Nat
  | .lit (.string bytes) => bytes.length + 1
  | .lit _ => 1
  | .nil => 1
  | .ptr d => uptoBulk d + 1
  | .slice elems spare => uptoBulkAll elems + uptoBulkAll spare + 1
  | .agg parts => uptoBulkAll parts + 1
  | .iface _ d => uptoBulk d + 1
  | .map entries => uptoBulkEntries entries + 1
  | .held _ => 1
def uptoBulkAll {H : Type} : List (DataW H) → Nat
  | [] => 0
  | d :: r => uptoBulk d + uptoBulkAll r
def uptoBulkEntries {H : Type} : List (Lit × DataW H) → Nat
  | [] => 0
  | x :: r => uptoBulkEntry x + uptoBulkEntries r
def uptoBulkEntry {H : Type} : Lit × DataW H → Nat
  | (.string bytes, d) => bytes.length + uptoBulk d + 1
  | (_, d) => uptoBulk d + 1
 end
def uptoSmall : (H : Type) → List (DataW H) → Bool := fun _ ds => decide (uptoBulkAll ds ≤ 1048576)
def OpenSpec.upto (s : _root_.Go.ChangeSpec) : _root_.Go.OpenSpec := { _root_.Go.OpenSpec.ofChange s with cond := some uptoSmall }

/-- 'terracelaw15.DetectGroups', WHERE WHAT IT READS IS OF BULK AT MOST 1048576: true; the input reads as it did. -/
def detectGroupsUptoRow : OpenClaim := { program := "ytobipigioaoaiaa", sum := "5677f91624314fbba0aa46cf7fec7c4ef7503677a32e47e406a90cb968033730", func := "terrace/terracelaw15.DetectGroups", spec := "detectGroups", inPlace := ["slices.overlaps[int]"], apart := false, narrowed := true }
def DetectGroupsUptoSaid : Prop := detectGroupsUptoRow.holds Try.pinned (OpenSpec.upto detectGroupsSpec)

/-- 'terracelaw15.DetectRow', WHERE WHAT IT READS IS OF BULK AT MOST 1048576: true; the input reads as it did. -/
def detectRowUptoRow : OpenClaim := { program := "ytobipigioaoaiaa", sum := "5677f91624314fbba0aa46cf7fec7c4ef7503677a32e47e406a90cb968033730", func := "terrace/terracelaw15.DetectRow", spec := "detectRow", inPlace := ["slices.overlaps[int]"], apart := false, narrowed := true }
def DetectRowUptoSaid : Prop := detectRowUptoRow.holds Try.pinned (OpenSpec.upto detectRowSpec)

/-- 'terracelaw15.DetectPlays', WHERE WHAT IT READS IS OF BULK AT MOST 1048576: true; the input reads as it did. -/
def detectPlaysUptoRow : OpenClaim := { program := "ytobipigioaoaiaa", sum := "5677f91624314fbba0aa46cf7fec7c4ef7503677a32e47e406a90cb968033730", func := "terrace/terracelaw15.DetectPlays", spec := "detectPlays", inPlace := ["slices.overlaps[int]"], apart := false, narrowed := true }
def DetectPlaysUptoSaid : Prop := detectPlaysUptoRow.holds Try.pinned (OpenSpec.upto detectPlaysSpec)

/-- 'terracelaw15.DetectCopies', WHERE WHAT IT READS IS OF BULK AT MOST 1048576: true; the input reads as it did. -/
def detectCopiesUptoRow : OpenClaim := { program := "ytobipigioaoaiaa", sum := "5677f91624314fbba0aa46cf7fec7c4ef7503677a32e47e406a90cb968033730", func := "terrace/terracelaw15.DetectCopies", spec := "detectCopies", inPlace := ["slices.overlaps[int]"], apart := false, narrowed := true }
def DetectCopiesUptoSaid : Prop := detectCopiesUptoRow.holds Try.pinned (OpenSpec.upto detectCopiesSpec)

end Rows
end Go.Proofs.Ytobipigioaoaiaa
