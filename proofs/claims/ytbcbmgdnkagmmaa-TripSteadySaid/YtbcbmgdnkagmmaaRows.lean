/-
  No cell of these rows narrows 'for every input' (looked for: loops, veiled, ifaces, maps, wideKeys, modest, calm, conditions, laid).
  DERIVED. THE GIVEN ROWS OF THIS SEAT. 4 by the template 'for every input the law returns true; each argument reads behind the call as it read before'; 0 by the template 'total and deterministic' (their statements: YtbcbmgdnkagmmaaTotals.lean).
  GIVEN WITH THE SEED: the statements are not yours to turn. If you find one false, say at which input.
  Laid BY PROGRAM, IN A SANDBOX (cutbox-rows.mjs): the forced cells as the released guide's own fill.sh prints them over the translation 7796c14d708ebb7d… (all of the seat's roots in one cut). By AI agents, Wed Nov 11 2026. No macro, syntax, notation, axiom, sorry.
-/
import Derived.Test.YtbcbmgdnkagmmaaChecked
import GoSem.Claim
import GoSem.ClaimJoined
import GoSem.ClaimMapViews
import Derived.JoinedTies
import Derived.KernelRfl
namespace Go.Proofs.Ytbcbmgdnkagmmaa
/- THE CELL 'sum', in the pinned program and in every row, IS THE sha256 OF THE DUMP (.gsa) THAT YtbcbmgdnkagmmaaProg.lean LOADS. Nothing in Lean hashes anything: it is a label: what it is worth is what the hold of that sum in a sandbox is worth. -/
noncomputable def Try.pinned : Pinned := { name := "ytbcbmgdnkagmmaa", sum := "7796c14d708ebb7d253af7d288a85dde3a5ea1c4e166c6ae62f4cbea4c8cf95b", checked := Try.checked }
namespace Rows
def none {H : Type} : Left H := { results := [], args := [] }

/-- 'terracelaw16.TripPlays': WHATEVER THE INPUT: true; the input reads as it did. -/
def tripPlaysSpec : ChangeSpec := { name := "tripPlays", fn := fun _ => fun
  | [d1, d2] => { results := [.lit (.bool true)], args := [d1, d2] }
  | _ => none }
def tripPlaysRow : OpenClaim := { program := "ytbcbmgdnkagmmaa", sum := "7796c14d708ebb7d253af7d288a85dde3a5ea1c4e166c6ae62f4cbea4c8cf95b", func := "terrace/terracelaw16.TripPlays", spec := "tripPlays", inPlace := ["math/bits.Add64"], apart := false }
def TripPlaysSaid : Prop := tripPlaysRow.holds Try.pinned (OpenSpec.ofChange tripPlaysSpec)

/-- ITS FALSE NEIGHBOUR: 'it returns false'. Refute it at one input. -/
def tripPlaysWrong : ChangeSpec := { name := "tripPlays", fn := fun _ => fun
  | [d1, d2] => { results := [.lit (.bool false)], args := [d1, d2] }
  | _ => none }
def TripPlaysWrongFalsely : Prop := tripPlaysRow.holds Try.pinned (OpenSpec.ofChange tripPlaysWrong)

/-- 'terracelaw16.TripBetween': WHATEVER THE INPUT: true; the input reads as it did. -/
def tripBetweenSpec : ChangeSpec := { name := "tripBetween", fn := fun _ => fun
  | [d1, d2] => { results := [.lit (.bool true)], args := [d1, d2] }
  | _ => none }
def tripBetweenRow : OpenClaim := { program := "ytbcbmgdnkagmmaa", sum := "7796c14d708ebb7d253af7d288a85dde3a5ea1c4e166c6ae62f4cbea4c8cf95b", func := "terrace/terracelaw16.TripBetween", spec := "tripBetween", inPlace := ["math/bits.Add64"], apart := false }
def TripBetweenSaid : Prop := tripBetweenRow.holds Try.pinned (OpenSpec.ofChange tripBetweenSpec)

/-- ITS FALSE NEIGHBOUR: 'it returns false'. Refute it at one input. -/
def tripBetweenWrong : ChangeSpec := { name := "tripBetween", fn := fun _ => fun
  | [d1, d2] => { results := [.lit (.bool false)], args := [d1, d2] }
  | _ => none }
def TripBetweenWrongFalsely : Prop := tripBetweenRow.holds Try.pinned (OpenSpec.ofChange tripBetweenWrong)

/-- 'terracelaw16.TripSteady': WHATEVER THE INPUT: true; the input reads as it did. -/
def tripSteadySpec : ChangeSpec := { name := "tripSteady", fn := fun _ => fun
  | [d1, d2] => { results := [.lit (.bool true)], args := [d1, d2] }
  | _ => none }
def tripSteadyRow : OpenClaim := { program := "ytbcbmgdnkagmmaa", sum := "7796c14d708ebb7d253af7d288a85dde3a5ea1c4e166c6ae62f4cbea4c8cf95b", func := "terrace/terracelaw16.TripSteady", spec := "tripSteady", inPlace := ["math/bits.Add64"], apart := false }
def TripSteadySaid : Prop := tripSteadyRow.holds Try.pinned (OpenSpec.ofChange tripSteadySpec)

/-- ITS FALSE NEIGHBOUR: 'it returns false'. Refute it at one input. -/
def tripSteadyWrong : ChangeSpec := { name := "tripSteady", fn := fun _ => fun
  | [d1, d2] => { results := [.lit (.bool false)], args := [d1, d2] }
  | _ => none }
def TripSteadyWrongFalsely : Prop := tripSteadyRow.holds Try.pinned (OpenSpec.ofChange tripSteadyWrong)

/-- 'terracelaw16.TripCopies': WHATEVER THE INPUT: true; the input reads as it did. -/
def tripCopiesSpec : ChangeSpec := { name := "tripCopies", fn := fun _ => fun
  | [d1, d2, d3] => { results := [.lit (.bool true)], args := [d1, d2, d3] }
  | _ => none }
def tripCopiesRow : OpenClaim := { program := "ytbcbmgdnkagmmaa", sum := "7796c14d708ebb7d253af7d288a85dde3a5ea1c4e166c6ae62f4cbea4c8cf95b", func := "terrace/terracelaw16.TripCopies", spec := "tripCopies", inPlace := ["math/bits.Add64"], apart := false }
def TripCopiesSaid : Prop := tripCopiesRow.holds Try.pinned (OpenSpec.ofChange tripCopiesSpec)

/-- ITS FALSE NEIGHBOUR: 'it returns false'. Refute it at one input. -/
def tripCopiesWrong : ChangeSpec := { name := "tripCopies", fn := fun _ => fun
  | [d1, d2, d3] => { results := [.lit (.bool false)], args := [d1, d2, d3] }
  | _ => none }
def TripCopiesWrongFalsely : Prop := tripCopiesRow.holds Try.pinned (OpenSpec.ofChange tripCopiesWrong)

/- THE SECOND FORM. 'bulk': how many values and letters a reading holds, each counted each time it is reached (what is shared counts as often as it is met; a slice's spare places count too). A statement '..UptoSaid' is the law's where the arguments, and the package variables that the reading takes, are together of bulk at most 1048576: NARROWER than '..Said'. Prove '..Said' where nothing that the law and all that it calls make is longer than what came in: it says more and counts as full. Else prove '..UptoSaid'. A law counts once. -/
mutual
def uptoBulk {H : Type} : DataW H → Nat
  | .lit (.string bytes) => bytes.length + 1
  | .lit _ => 1
  | .nil => 1
  | .ptr d => uptoBulk d + 1
  | .slice elems spare => uptoBulkAll elems + uptoBulkAll spare + 1
  | .agg parts => uptoBulkAll parts + 1
  | .iface _ d => uptoBulk d + 1
  | .map entries => uptoBulkEntries entries + 1
  | .held _ => 1
def uptoBulkAll {H : Type} : List (DataW H) → Nat
  | [] => 0
  | d :: r => uptoBulk d + uptoBulkAll r
def uptoBulkEntries {H : Type} : List (Lit × DataW H) → Nat
  | [] => 0
  | x :: r => uptoBulkEntry x + uptoBulkEntries r
def uptoBulkEntry {H : Type} : Lit × DataW H → Nat
  | (.string bytes, d) => bytes.length + uptoBulk d + 1
  | (_, d) => uptoBulk d + 1
 end
def uptoSmall : (H : Type) → List (DataW H) → Bool := fun _ ds => decide (uptoBulkAll ds ≤ 1048576)
def OpenSpec.upto (s : _root_.Go.ChangeSpec) : _root_.Go.OpenSpec := { _root_.Go.OpenSpec.ofChange s with cond := some uptoSmall }

/-- 'terracelaw16.TripPlays', WHERE WHAT IT READS IS OF BULK AT MOST 1048576: true; the input reads as it did. -/
def tripPlaysUptoRow : OpenClaim := { program := "ytbcbmgdnkagmmaa", sum := "7796c14d708ebb7d253af7d288a85dde3a5ea1c4e166c6ae62f4cbea4c8cf95b", func := "terrace/terracelaw16.TripPlays", spec := "tripPlays", inPlace := ["math/bits.Add64"], apart := false, narrowed := true }
def TripPlaysUptoSaid : Prop := tripPlaysUptoRow.holds Try.pinned (OpenSpec.upto tripPlaysSpec)

/-- 'terracelaw16.TripBetween', WHERE WHAT IT READS IS OF BULK AT MOST 1048576: true; the input reads as it did. -/
def tripBetweenUptoRow : OpenClaim := { program := "ytbcbmgdnkagmmaa", sum := "7796c14d708ebb7d253af7d288a85dde3a5ea1c4e166c6ae62f4cbea4c8cf95b", func := "terrace/terracelaw16.TripBetween", spec := "tripBetween", inPlace := ["math/bits.Add64"], apart := false, narrowed := true }
def TripBetweenUptoSaid : Prop := tripBetweenUptoRow.holds Try.pinned (OpenSpec.upto tripBetweenSpec)

/-- 'terracelaw16.TripSteady', WHERE WHAT IT READS IS OF BULK AT MOST 1048576: true; the input reads as it did. -/
def tripSteadyUptoRow : OpenClaim := { program := "ytbcbmgdnkagmmaa", sum := "7796c14d708ebb7d253af7d288a85dde3a5ea1c4e166c6ae62f4cbea4c8cf95b", func := "terrace/terracelaw16.TripSteady", spec := "tripSteady", inPlace := ["math/bits.Add64"], apart := false, narrowed := true }
def TripSteadyUptoSaid : Prop := tripSteadyUptoRow.holds Try.pinned (OpenSpec.upto tripSteadySpec)

/-- 'terracelaw16.TripCopies', WHERE WHAT IT READS IS OF BULK AT MOST 1048576: true; the input reads as it did. -/
def tripCopiesUptoRow : OpenClaim := { program := "ytbcbmgdnkagmmaa", sum := "7796c14d708ebb7d253af7d288a85dde3a5ea1c4e166c6ae62f4cbea4c8cf95b", func := "terrace/terracelaw16.TripCopies", spec := "tripCopies", inPlace := ["math/bits.Add64"], apart := false, narrowed := true }
def TripCopiesUptoSaid : Prop := tripCopiesUptoRow.holds Try.pinned (OpenSpec.upto tripCopiesSpec)

end Rows
end Go.Proofs.Ytbcbmgdnkagmmaa
