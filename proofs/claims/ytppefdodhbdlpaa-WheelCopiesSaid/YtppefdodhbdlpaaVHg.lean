import Derived.Test.YtppefdodhbdlpaaVHf
import Derived.Shelf.Spec.SlicesInsertGrow
namespace Go.Proofs.Ytppefdodhbdlpaa.H
open Go.RowKit Go.Shelf
set_option linter.unusedVariables false
set_option linter.unusedSimpArgs false
variable {w : World} {B g : Nat} {ks : Nat → Option Nat} {vs : Nat → Value} {S : Nat → List (Int × Int)} {now n : Int}
theorem run_copy2 (w : World) (ty : TypeId) (b o dLen dCap : Nat) (a : Addr) (sLen sCap : Nat) (cur : Array Value) (cs : List Value)
    (hg : w.heap[b]? = some (.cells cur 54 (0, 0))) (hn : cs.length = Nat.min sLen dLen * 2)
    (hsrc : ∀ j v, cs[j]? = some v → w.cell? (a.add j) = some v) (hfit : o + cs.length ≤ cur.size) (h1 : ∀ v ∈ cs, v.oneCell' = true) :
    (Builtin.copy_ #[47, 47] ty #[.slice (some ⟨b, o, none⟩) dLen dCap, .slice (some a) sLen sCap]).run Try.prog w =
      .ok (goInt (Nat.min sLen dLen)) (w.setRow b (cur.toList.take o ++ cs ++ cur.toList.drop (o + cs.length)).toArray) := by
  obtain ⟨i0, hi0, hz0, hzs, hzb⟩ := info_parts info54
  have hl := run_loadCells_list (P := Try.prog) w a cs hsrc
  have hst := run_storeCells_at Try.prog b o 54 cs 0 cur w hg (by simpa using hfit) h1
  rw [hn] at hl
  simp [Builtin.copy_, run_underlying Try.underlying47, Builtin.lenOf, Builtin.firstCells, sizeOf, typeInfo, hi0, hzs, hl, hst]
theorem oneCell_flat : ∀ (xs : List (Int × Int)), ∀ u ∈ flat xs, u.oneCell' = true
  | [], u, h => by simp [flat] at h
  | x :: xs, u, h => by
    simp only [flat, List.mem_cons] at h
    rcases h with rfl | rfl | h
    · rfl
    · rfl
    · exact oneCell_flat xs u h
theorem flat_drop : ∀ (xs : List (Int × Int)) (i : Nat), (flat xs).drop (i * 2) = flat (xs.drop i)
  | xs, 0 => by simp
  | [], i + 1 => by simp [flat]
  | x :: xs, i + 1 => by
    rw [show (i + 1) * 2 = i * 2 + 1 + 1 by omega]
    simpa [flat] using flat_drop xs i
theorem flat_take : ∀ (xs : List (Int × Int)) (i : Nat), (flat xs).take (i * 2) = flat (xs.take i)
  | xs, 0 => by simp [flat]
  | [], i + 1 => by simp [flat]
  | x :: xs, i + 1 => by
    rw [show (i + 1) * 2 = i * 2 + 1 + 1 by omega]
    simpa [flat] using flat_take xs i
def c1_ (L : List Value) (xs : List (Int × Int)) (i : Nat) : List Value := L.take ((i + 1) * 2) ++ flat (xs.drop i) ++ L.drop ((i + 1) * 2 + (flat (xs.drop i)).length)
def c2_ (L : List Value) (xs : List (Int × Int)) (i : Nat) (x : Int × Int) : List Value := (c1_ L xs i).take (i * 2) ++ flat [x] ++ (c1_ L xs i).drop (i * 2 + (flat [x]).length)
theorem c1_len {L : List Value} {xs : List (Int × Int)} {i cap : Nat} (hL : L.length = cap * 2) (hi : i < xs.length) (hc : xs.length < cap) : (c1_ L xs i).length = cap * 2 := by
  unfold c1_; simp [flat_len]; omega
theorem c2_eq {L : List Value} {xs : List (Int × Int)} {i cap : Nat} (x : Int × Int) (hL : L.length = cap * 2) (hi : i < xs.length) (hc : xs.length < cap) (hf : L.take (xs.length * 2) = flat xs) :
    c2_ L xs i x = flat (xs.take i ++ x :: xs.drop i) ++ L.drop ((xs.length + 1) * 2) := by
  have e1 : (c1_ L xs i).take (i * 2) = flat (xs.take i) := by
    rw [← flat_take, ← hf, List.take_take, Nat.min_eq_left (by omega)]
    unfold c1_
    rw [List.append_assoc, List.take_append_of_le_length (by simp; omega), List.take_take, Nat.min_eq_left (by omega)]
  have e2 : (c1_ L xs i).drop (i * 2 + (flat [x]).length) = flat (xs.drop i) ++ L.drop ((xs.length + 1) * 2) := by
    unfold c1_
    rw [flat_len, flat_len, List.append_assoc, List.drop_append_of_le_length (by simp; omega)]
    simp only [List.length_singleton, List.length_drop]
    rw [show i * 2 + 1 * 2 = (i + 1) * 2 by omega, List.drop_of_length_le (by rw [List.length_take]; exact Nat.min_le_left _ _), List.nil_append, show (i + 1) * 2 + (xs.length - i) * 2 = (xs.length + 1) * 2 by omega]
  unfold c2_
  rw [e1, e2, show xs.take i ++ x :: xs.drop i = xs.take i ++ ([x] ++ xs.drop i) by simp, flat_append, flat_append]
  simp
theorem shape_of {b : Nat} {cs : Array Value} (h : w.heap[b]? = some (.cells cs 54 (0, 0))) : w.shape? b = some (54, cs.size) := by
  simp [World.shape?, h]
theorem size54 (w : World) : (Go.sizeOf 54).run Try.prog w = .ok 2 w := by
  obtain ⟨i0, hi0, hz0, hzs, hzb⟩ := info_parts info54
  simp [Go.sizeOf, typeInfo, hi0, hzs]
theorem over_no (w : World) (q b off lb cb vc : Nat) (cq cb_ : Array Value) (hq : w.heap[q]? = some (.cells cq 54 (0, 0))) (hb : w.heap[b]? = some (.cells cb_ 54 (0, 0))) (hqb : q ≠ b) (hne : cb_.size ≠ 0) :
    (callFunc 44 #[.slice (some ⟨q, 0, none⟩) 1 vc, .slice (some ⟨b, off, none⟩) lb cb]).run Try.prog w = .ok (.value (.bool false)) w := by
  rw [run_callFunc_extern Try.func44 (by kernel_rfl) (by kernel_rfl) (by kernel_rfl) (e := Extern.SlicesOverlaps.overlaps #[47, 47] #[4]) (by kernel_rfl),
    Lib.run_overlaps_apart w 47 4 54 Try.underlying47 2 size54 ⟨q, 0, none⟩ ⟨b, off, none⟩ 1 vc lb cb hqb 54 54 cq.size cb_.size (shape_of hq) (shape_of hb) hne (by simp [World.frozen?, hq]) (by simp [World.frozen?, hq])]
  rfl
end Go.Proofs.Ytppefdodhbdlpaa.H
