/-
  No cell of these rows narrows 'for every input' (looked for: loops, veiled, ifaces, maps, wideKeys, modest, calm, conditions, laid).
  DERIVED. THE GIVEN ROWS OF THIS SEAT. 4 by the template 'for every input the law returns true; each argument reads behind the call as it read before'; 0 by the template 'total and deterministic' (their statements: YtlfjcelippfanaaTotals.lean).
  GIVEN WITH THE SEED: the statements are not yours to turn. If you find one false, say at which input.
  Laid BY PROGRAM, IN A SANDBOX (cutbox-rows.mjs): the forced cells as the released guide's own fill.sh prints them over the translation 4d063b25266335fa… (all of the seat's roots in one cut). By AI agents, Wed Nov 11 2026. No macro, syntax, notation, axiom, sorry.
-/
import Derived.Test.YtlfjcelippfanaaChecked
import GoSem.Claim
import GoSem.ClaimJoined
import GoSem.ClaimMapViews
import Derived.JoinedTies
import Derived.KernelRfl
namespace Go.Proofs.Ytlfjcelippfanaa
/- THE CELL 'sum', in the pinned program and in every row, IS THE sha256 OF THE DUMP (.gsa) THAT YtlfjcelippfanaaProg.lean LOADS. Nothing in Lean hashes anything: it is a label: what it is worth is what the hold of that sum in a sandbox is worth. -/
noncomputable def Try.pinned : Pinned := { name := "ytlfjcelippfanaa", sum := "4d063b25266335fa0d2892e486c85343928161800cc9ca0b3002bd7de83d1718", checked := Try.checked }
namespace Rows
def none {H : Type} : Left H := { results := [], args := [] }

/-- 'terracelaw14.HistoryRates': WHATEVER THE INPUT: true; the input reads as it did. -/
def historyRatesSpec : ChangeSpec := { name := "historyRates", fn := fun _ => fun
  | [d1, d2] => { results := [.lit (.bool true)], args := [d1, d2] }
  | _ => none }
def historyRatesRow : OpenClaim := { program := "ytlfjcelippfanaa", sum := "4d063b25266335fa0d2892e486c85343928161800cc9ca0b3002bd7de83d1718", func := "terrace/terracelaw14.HistoryRates", spec := "historyRates", inPlace := ["slices.overlaps[int]"], named := ["math/bits.divideError", "math/bits.overflowError"], apart := false }
def HistoryRatesSaid : Prop := historyRatesRow.holds Try.pinned (OpenSpec.ofChange historyRatesSpec)

/-- ITS FALSE NEIGHBOUR: 'it returns false'. Refute it at one input. -/
def historyRatesWrong : ChangeSpec := { name := "historyRates", fn := fun _ => fun
  | [d1, d2] => { results := [.lit (.bool false)], args := [d1, d2] }
  | _ => none }
def HistoryRatesWrongFalsely : Prop := historyRatesRow.holds Try.pinned (OpenSpec.ofChange historyRatesWrong)

/-- 'terracelaw14.HistoryPlays': WHATEVER THE INPUT: true; the input reads as it did. -/
def historyPlaysSpec : ChangeSpec := { name := "historyPlays", fn := fun _ => fun
  | [d] => { results := [.lit (.bool true)], args := [d] }
  | _ => none }
def historyPlaysRow : OpenClaim := { program := "ytlfjcelippfanaa", sum := "4d063b25266335fa0d2892e486c85343928161800cc9ca0b3002bd7de83d1718", func := "terrace/terracelaw14.HistoryPlays", spec := "historyPlays", inPlace := ["slices.overlaps[int]"], named := ["math/bits.divideError", "math/bits.overflowError"], apart := false }
def HistoryPlaysSaid : Prop := historyPlaysRow.holds Try.pinned (OpenSpec.ofChange historyPlaysSpec)

/-- ITS FALSE NEIGHBOUR: 'it returns false'. Refute it at one input. -/
def historyPlaysWrong : ChangeSpec := { name := "historyPlays", fn := fun _ => fun
  | [d] => { results := [.lit (.bool false)], args := [d] }
  | _ => none }
def HistoryPlaysWrongFalsely : Prop := historyPlaysRow.holds Try.pinned (OpenSpec.ofChange historyPlaysWrong)

/-- 'terracelaw14.HistoryCopies': WHATEVER THE INPUT: true; the input reads as it did. -/
def historyCopiesSpec : ChangeSpec := { name := "historyCopies", fn := fun _ => fun
  | [d1, d2] => { results := [.lit (.bool true)], args := [d1, d2] }
  | _ => none }
def historyCopiesRow : OpenClaim := { program := "ytlfjcelippfanaa", sum := "4d063b25266335fa0d2892e486c85343928161800cc9ca0b3002bd7de83d1718", func := "terrace/terracelaw14.HistoryCopies", spec := "historyCopies", inPlace := ["slices.overlaps[int]"], named := ["math/bits.divideError", "math/bits.overflowError"], apart := false }
def HistoryCopiesSaid : Prop := historyCopiesRow.holds Try.pinned (OpenSpec.ofChange historyCopiesSpec)

/-- ITS FALSE NEIGHBOUR: 'it returns false'. Refute it at one input. -/
def historyCopiesWrong : ChangeSpec := { name := "historyCopies", fn := fun _ => fun
  | [d1, d2] => { results := [.lit (.bool false)], args := [d1, d2] }
  | _ => none }
def HistoryCopiesWrongFalsely : Prop := historyCopiesRow.holds Try.pinned (OpenSpec.ofChange historyCopiesWrong)

/-- 'terracelaw14.HistoryMeans': WHATEVER THE INPUT: true; the input reads as it did. -/
def historyMeansSpec : ChangeSpec := { name := "historyMeans", fn := fun _ => fun
  | [d] => { results := [.lit (.bool true)], args := [d] }
  | _ => none }
def historyMeansRow : OpenClaim := { program := "ytlfjcelippfanaa", sum := "4d063b25266335fa0d2892e486c85343928161800cc9ca0b3002bd7de83d1718", func := "terrace/terracelaw14.HistoryMeans", spec := "historyMeans", inPlace := ["slices.overlaps[int]", "math/bits.Add64"], named := ["math/bits.divideError", "math/bits.overflowError"], apart := false }
def HistoryMeansSaid : Prop := historyMeansRow.holds Try.pinned (OpenSpec.ofChange historyMeansSpec)

/-- ITS FALSE NEIGHBOUR: 'it returns false'. Refute it at one input. -/
def historyMeansWrong : ChangeSpec := { name := "historyMeans", fn := fun _ => fun
  | [d] => { results := [.lit (.bool false)], args := [d] }
  | _ => none }
def HistoryMeansWrongFalsely : Prop := historyMeansRow.holds Try.pinned (OpenSpec.ofChange historyMeansWrong)

/- THE SECOND FORM. 'bulk': how many values and letters a reading holds, each counted each time it is reached (what is shared counts as often as it is met; a slice's spare places count too). A statement '..UptoSaid' is the law's where the arguments, and the package variables that the reading takes, are together of bulk at most 1048576: NARROWER than '..Said'. Prove '..Said' where nothing that the law and all that it calls make is longer than what came in: it says more and counts as full. Else prove '..UptoSaid'. A law counts once. -/
mutual
def uptoBulk {H : Type} : DataW H → Nat
  | .lit (.string bytes) => bytes.length + 1
  | .lit _ => 1
  | .nil => 1
  | .ptr d => uptoBulk d + 1
  | .slice elems spare => uptoBulkAll elems + uptoBulkAll spare + 1
  | .agg parts => uptoBulkAll parts + 1
  | .iface _ d => uptoBulk d + 1
  | .map entries => uptoBulkEntries entries + 1
  | .held _ => 1
def uptoBulkAll {H : Type} : List (DataW H) → Nat
  | [] => 0
  | d :: r => uptoBulk d + uptoBulkAll r
def uptoBulkEntries {H : Type} : List (Lit × DataW H) → Nat
  | [] => 0
  | x :: r => uptoBulkEntry x + uptoBulkEntries r
def uptoBulkEntry {H : Type} : Lit × DataW H → Nat
  | (.string bytes, d) => bytes.length + uptoBulk d + 1
  | (_, d) => uptoBulk d + 1
 end
def uptoSmall : (H : Type) → List (DataW H) → Bool := fun _ ds => decide (uptoBulkAll ds ≤ 1048576)
def OpenSpec.upto (s : _root_.Go.ChangeSpec) : _root_.Go.OpenSpec := { _root_.Go.OpenSpec.ofChange s with cond := some uptoSmall }

/-- 'terracelaw14.HistoryRates', WHERE WHAT IT READS IS OF BULK AT MOST 1048576: true; the input reads as it did. -/
def historyRatesUptoRow : OpenClaim := { program := "ytlfjcelippfanaa", sum := "4d063b25266335fa0d2892e486c85343928161800cc9ca0b3002bd7de83d1718", func := "terrace/terracelaw14.HistoryRates", spec := "historyRates", inPlace := ["slices.overlaps[int]"], named := ["math/bits.divideError", "math/bits.overflowError"], apart := false, narrowed := true }
def HistoryRatesUptoSaid : Prop := historyRatesUptoRow.holds Try.pinned (OpenSpec.upto historyRatesSpec)

/-- 'terracelaw14.HistoryPlays', WHERE WHAT IT READS IS OF BULK AT MOST 1048576: true; the input reads as it did. -/
def historyPlaysUptoRow : OpenClaim := { program := "ytlfjcelippfanaa", sum := "4d063b25266335fa0d2892e486c85343928161800cc9ca0b3002bd7de83d1718", func := "terrace/terracelaw14.HistoryPlays", spec := "historyPlays", inPlace := ["slices.overlaps[int]"], named := ["math/bits.divideError", "math/bits.overflowError"], apart := false, narrowed := true }
def HistoryPlaysUptoSaid : Prop := historyPlaysUptoRow.holds Try.pinned (OpenSpec.upto historyPlaysSpec)

/-- 'terracelaw14.HistoryCopies', WHERE WHAT IT READS IS OF BULK AT MOST 1048576: true; the input reads as it did. -/
def historyCopiesUptoRow : OpenClaim := { program := "ytlfjcelippfanaa", sum := "4d063b25266335fa0d2892e486c85343928161800cc9ca0b3002bd7de83d1718", func := "terrace/terracelaw14.HistoryCopies", spec := "historyCopies", inPlace := ["slices.overlaps[int]"], named := ["math/bits.divideError", "math/bits.overflowError"], apart := false, narrowed := true }
def HistoryCopiesUptoSaid : Prop := historyCopiesUptoRow.holds Try.pinned (OpenSpec.upto historyCopiesSpec)

/-- 'terracelaw14.HistoryMeans', WHERE WHAT IT READS IS OF BULK AT MOST 1048576: true; the input reads as it did. -/
def historyMeansUptoRow : OpenClaim := { program := "ytlfjcelippfanaa", sum := "4d063b25266335fa0d2892e486c85343928161800cc9ca0b3002bd7de83d1718", func := "terrace/terracelaw14.HistoryMeans", spec := "historyMeans", inPlace := ["slices.overlaps[int]", "math/bits.Add64"], named := ["math/bits.divideError", "math/bits.overflowError"], apart := false, narrowed := true }
def HistoryMeansUptoSaid : Prop := historyMeansUptoRow.holds Try.pinned (OpenSpec.upto historyMeansSpec)

end Rows
end Go.Proofs.Ytlfjcelippfanaa
