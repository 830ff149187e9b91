/-
  No cell of these rows narrows 'for every input' (looked for: loops, veiled, ifaces, maps, wideKeys, modest, calm, conditions, laid).
  DERIVED. THE GIVEN ROWS OF THIS SEAT. 5 by the template 'for every input the law returns true; each argument reads behind the call as it read before'; 0 by the template 'total and deterministic' (their statements: YtkaglddebpmcmaaTotals.lean).
  GIVEN WITH THE SEED: the statements are not yours to turn. If you find one false, say at which input.
  Laid BY PROGRAM, IN A SANDBOX (cutbox-rows.mjs): the forced cells as the released guide's own fill.sh prints them over the translation 9aefa21e3f0f536c… (all of the seat's roots in one cut). By AI agents, Wed Nov 11 2026. No macro, syntax, notation, axiom, sorry.
-/
import Derived.Test.YtkaglddebpmcmaaChecked
import GoSem.Claim
import GoSem.ClaimJoined
import GoSem.ClaimMapViews
import Derived.JoinedTies
import Derived.KernelRfl
namespace Go.Proofs.Ytkaglddebpmcmaa
/- THE CELL 'sum', in the pinned program and in every row, IS THE sha256 OF THE DUMP (.gsa) THAT YtkaglddebpmcmaaProg.lean LOADS. Nothing in Lean hashes anything: it is a label: what it is worth is what the hold of that sum in a sandbox is worth. -/
noncomputable def Try.pinned : Pinned := { name := "ytkaglddebpmcmaa", sum := "9aefa21e3f0f536c84d0ec4cfce1dcbe8b7e8386dc52ab0a5ca374ca06289b9e", checked := Try.checked }
namespace Rows
def none {H : Type} : Left H := { results := [], args := [] }

/-- 'terracelaw20.BucketPlays': WHATEVER THE INPUT: true; the input reads as it did. -/
def bucketPlaysSpec : ChangeSpec := { name := "bucketPlays", fn := fun _ => fun
  | [d1, d2] => { results := [.lit (.bool true)], args := [d1, d2] }
  | _ => none }
def bucketPlaysRow : OpenClaim := { program := "ytkaglddebpmcmaa", sum := "9aefa21e3f0f536c84d0ec4cfce1dcbe8b7e8386dc52ab0a5ca374ca06289b9e", func := "terrace/terracelaw20.BucketPlays", spec := "bucketPlays", inPlace := ["math/bits.Add64", "sync/atomic.AddInt64", "sync/atomic.LoadInt64"], apart := false }
def BucketPlaysSaid : Prop := bucketPlaysRow.holds Try.pinned (OpenSpec.ofChange bucketPlaysSpec)

/-- ITS FALSE NEIGHBOUR: 'it returns false'. Refute it at one input. -/
def bucketPlaysWrong : ChangeSpec := { name := "bucketPlays", fn := fun _ => fun
  | [d1, d2] => { results := [.lit (.bool false)], args := [d1, d2] }
  | _ => none }
def BucketPlaysWrongFalsely : Prop := bucketPlaysRow.holds Try.pinned (OpenSpec.ofChange bucketPlaysWrong)

/-- 'terracelaw20.BucketFull': WHATEVER THE INPUT: true; the input reads as it did. -/
def bucketFullSpec : ChangeSpec := { name := "bucketFull", fn := fun _ => fun
  | [d1, d2, d3] => { results := [.lit (.bool true)], args := [d1, d2, d3] }
  | _ => none }
def bucketFullRow : OpenClaim := { program := "ytkaglddebpmcmaa", sum := "9aefa21e3f0f536c84d0ec4cfce1dcbe8b7e8386dc52ab0a5ca374ca06289b9e", func := "terrace/terracelaw20.BucketFull", spec := "bucketFull", inPlace := ["math/bits.Add64", "sync/atomic.AddInt64", "sync/atomic.LoadInt64"], apart := false }
def BucketFullSaid : Prop := bucketFullRow.holds Try.pinned (OpenSpec.ofChange bucketFullSpec)

/-- ITS FALSE NEIGHBOUR: 'it returns false'. Refute it at one input. -/
def bucketFullWrong : ChangeSpec := { name := "bucketFull", fn := fun _ => fun
  | [d1, d2, d3] => { results := [.lit (.bool false)], args := [d1, d2, d3] }
  | _ => none }
def BucketFullWrongFalsely : Prop := bucketFullRow.holds Try.pinned (OpenSpec.ofChange bucketFullWrong)

/-- 'terracelaw20.BucketCopies': WHATEVER THE INPUT: true; the input reads as it did. -/
def bucketCopiesSpec : ChangeSpec := { name := "bucketCopies", fn := fun _ => fun
  | [d1, d2, d3] => { results := [.lit (.bool true)], args := [d1, d2, d3] }
  | _ => none }
def bucketCopiesRow : OpenClaim := { program := "ytkaglddebpmcmaa", sum := "9aefa21e3f0f536c84d0ec4cfce1dcbe8b7e8386dc52ab0a5ca374ca06289b9e", func := "terrace/terracelaw20.BucketCopies", spec := "bucketCopies", inPlace := ["math/bits.Add64", "sync/atomic.AddInt64", "sync/atomic.LoadInt64", "sync/atomic.StoreInt64"], unfollowed := true, recurses := true, apart := false }
def BucketCopiesSaid : Prop := bucketCopiesRow.holds Try.pinned (OpenSpec.ofChange bucketCopiesSpec)

/-- ITS FALSE NEIGHBOUR: 'it returns false'. Refute it at one input. -/
def bucketCopiesWrong : ChangeSpec := { name := "bucketCopies", fn := fun _ => fun
  | [d1, d2, d3] => { results := [.lit (.bool false)], args := [d1, d2, d3] }
  | _ => none }
def BucketCopiesWrongFalsely : Prop := bucketCopiesRow.holds Try.pinned (OpenSpec.ofChange bucketCopiesWrong)

/-- 'terracelaw20.BucketWindows': WHATEVER THE INPUT: true; the input reads as it did. -/
def bucketWindowsSpec : ChangeSpec := { name := "bucketWindows", fn := fun _ => fun
  | [d] => { results := [.lit (.bool true)], args := [d] }
  | _ => none }
def bucketWindowsRow : OpenClaim := { program := "ytkaglddebpmcmaa", sum := "9aefa21e3f0f536c84d0ec4cfce1dcbe8b7e8386dc52ab0a5ca374ca06289b9e", func := "terrace/terracelaw20.BucketWindows", spec := "bucketWindows", inPlace := ["math/bits.Add64", "sync/atomic.AddInt64", "sync/atomic.LoadInt64"], apart := false }
def BucketWindowsSaid : Prop := bucketWindowsRow.holds Try.pinned (OpenSpec.ofChange bucketWindowsSpec)

/-- ITS FALSE NEIGHBOUR: 'it returns false'. Refute it at one input. -/
def bucketWindowsWrong : ChangeSpec := { name := "bucketWindows", fn := fun _ => fun
  | [d] => { results := [.lit (.bool false)], args := [d] }
  | _ => none }
def BucketWindowsWrongFalsely : Prop := bucketWindowsRow.holds Try.pinned (OpenSpec.ofChange bucketWindowsWrong)

/-- 'terracelaw20.BucketMost': WHATEVER THE INPUT: true; the input reads as it did. -/
def bucketMostSpec : ChangeSpec := { name := "bucketMost", fn := fun _ => fun
  | [d1, d2] => { results := [.lit (.bool true)], args := [d1, d2] }
  | _ => none }
def bucketMostRow : OpenClaim := { program := "ytkaglddebpmcmaa", sum := "9aefa21e3f0f536c84d0ec4cfce1dcbe8b7e8386dc52ab0a5ca374ca06289b9e", func := "terrace/terracelaw20.BucketMost", spec := "bucketMost", inPlace := ["math/bits.Add64", "sync/atomic.AddInt64", "sync/atomic.LoadInt64"], apart := false }
def BucketMostSaid : Prop := bucketMostRow.holds Try.pinned (OpenSpec.ofChange bucketMostSpec)

/-- ITS FALSE NEIGHBOUR: 'it returns false'. Refute it at one input. -/
def bucketMostWrong : ChangeSpec := { name := "bucketMost", fn := fun _ => fun
  | [d1, d2] => { results := [.lit (.bool false)], args := [d1, d2] }
  | _ => none }
def BucketMostWrongFalsely : Prop := bucketMostRow.holds Try.pinned (OpenSpec.ofChange bucketMostWrong)

/- THE SECOND FORM. 'bulk': how many values and letters a reading holds, each counted each time it is reached (what is shared counts as often as it is met; a slice's spare places count too). A statement '..UptoSaid' is the law's where the arguments, and the package variables that the reading takes, are together of bulk at most 1048576: NARROWER than '..Said'. Prove '..Said' where nothing that the law and all that it calls make is longer than what came in: it says more and counts as full. Else prove '..UptoSaid'. A law counts once. -/
mutual
def uptoBulk {H : Type} : DataW H → Nat
  | .lit (.string bytes) => bytes.length + 1
  | .lit _ => 1
  | .nil => 1
  | .ptr d => uptoBulk d + 1
  | .slice elems spare => uptoBulkAll elems + uptoBulkAll spare + 1
  | .agg parts => uptoBulkAll parts + 1
  | .iface _ d => uptoBulk d + 1
  | .map entries => uptoBulkEntries entries + 1
  | .held _ => 1
def uptoBulkAll {H : Type} : List (DataW H) → Nat
  | [] => 0
  | d :: r => uptoBulk d + uptoBulkAll r
def uptoBulkEntries {H : Type} : List (Lit × DataW H) → Nat
  | [] => 0
  | x :: r => uptoBulkEntry x + uptoBulkEntries r
def uptoBulkEntry {H : Type} : Lit × DataW H → Nat
  | (.string bytes, d) => bytes.length + uptoBulk d + 1
  | (_, d) => uptoBulk d + 1
 end
def uptoSmall : (H : Type) → List (DataW H) → Bool := fun _ ds => decide (uptoBulkAll ds ≤ 1048576)
def OpenSpec.upto (s : _root_.Go.ChangeSpec) : _root_.Go.OpenSpec := { _root_.Go.OpenSpec.ofChange s with cond := some uptoSmall }

/-- 'terracelaw20.BucketPlays', WHERE WHAT IT READS IS OF BULK AT MOST 1048576: true; the input reads as it did. -/
def bucketPlaysUptoRow : OpenClaim := { program := "ytkaglddebpmcmaa", sum := "9aefa21e3f0f536c84d0ec4cfce1dcbe8b7e8386dc52ab0a5ca374ca06289b9e", func := "terrace/terracelaw20.BucketPlays", spec := "bucketPlays", inPlace := ["math/bits.Add64", "sync/atomic.AddInt64", "sync/atomic.LoadInt64"], apart := false, narrowed := true }
def BucketPlaysUptoSaid : Prop := bucketPlaysUptoRow.holds Try.pinned (OpenSpec.upto bucketPlaysSpec)

/-- 'terracelaw20.BucketFull', WHERE WHAT IT READS IS OF BULK AT MOST 1048576: true; the input reads as it did. -/
def bucketFullUptoRow : OpenClaim := { program := "ytkaglddebpmcmaa", sum := "9aefa21e3f0f536c84d0ec4cfce1dcbe8b7e8386dc52ab0a5ca374ca06289b9e", func := "terrace/terracelaw20.BucketFull", spec := "bucketFull", inPlace := ["math/bits.Add64", "sync/atomic.AddInt64", "sync/atomic.LoadInt64"], apart := false, narrowed := true }
def BucketFullUptoSaid : Prop := bucketFullUptoRow.holds Try.pinned (OpenSpec.upto bucketFullSpec)

/-- 'terracelaw20.BucketCopies', WHERE WHAT IT READS IS OF BULK AT MOST 1048576: true; the input reads as it did. -/
def bucketCopiesUptoRow : OpenClaim := { program := "ytkaglddebpmcmaa", sum := "9aefa21e3f0f536c84d0ec4cfce1dcbe8b7e8386dc52ab0a5ca374ca06289b9e", func := "terrace/terracelaw20.BucketCopies", spec := "bucketCopies", inPlace := ["math/bits.Add64", "sync/atomic.AddInt64", "sync/atomic.LoadInt64", "sync/atomic.StoreInt64"], unfollowed := true, recurses := true, apart := false, narrowed := true }
def BucketCopiesUptoSaid : Prop := bucketCopiesUptoRow.holds Try.pinned (OpenSpec.upto bucketCopiesSpec)

/-- 'terracelaw20.BucketWindows', WHERE WHAT IT READS IS OF BULK AT MOST 1048576: true; the input reads as it did. -/
def bucketWindowsUptoRow : OpenClaim := { program := "ytkaglddebpmcmaa", sum := "9aefa21e3f0f536c84d0ec4cfce1dcbe8b7e8386dc52ab0a5ca374ca06289b9e", func := "terrace/terracelaw20.BucketWindows", spec := "bucketWindows", inPlace := ["math/bits.Add64", "sync/atomic.AddInt64", "sync/atomic.LoadInt64"], apart := false, narrowed := true }
def BucketWindowsUptoSaid : Prop := bucketWindowsUptoRow.holds Try.pinned (OpenSpec.upto bucketWindowsSpec)

/-- 'terracelaw20.BucketMost', WHERE WHAT IT READS IS OF BULK AT MOST 1048576: true; the input reads as it did. -/
def bucketMostUptoRow : OpenClaim := { program := "ytkaglddebpmcmaa", sum := "9aefa21e3f0f536c84d0ec4cfce1dcbe8b7e8386dc52ab0a5ca374ca06289b9e", func := "terrace/terracelaw20.BucketMost", spec := "bucketMost", inPlace := ["math/bits.Add64", "sync/atomic.AddInt64", "sync/atomic.LoadInt64"], apart := false, narrowed := true }
def BucketMostUptoSaid : Prop := bucketMostUptoRow.holds Try.pinned (OpenSpec.upto bucketMostSpec)

end Rows
end Go.Proofs.Ytkaglddebpmcmaa
