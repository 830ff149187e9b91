import Derived.Test.YtppefdodhbdlpaaHl
namespace Go.Proofs.Ytppefdodhbdlpaa.H
open Go.RowKit Go.Shelf
set_option linter.unusedVariables false
set_option linter.unusedSimpArgs false
variable {w : World} {B g : Nat} {ks : Nat → Option Nat} {vs : Nat → Value} {S : Nat → List (Int × Int)} {now n : Int}
def g1_ (R : List Value) (i : Nat) (x : Int × Int) : List Value := R.take (i * 2) ++ flat [x] ++ R.drop (i * 2 + (flat [x]).length)
def g2_ (R : List Value) (xs : List (Int × Int)) (i : Nat) (x : Int × Int) : List Value := (g1_ R i x).take ((i + 1) * 2) ++ flat (xs.drop i) ++ (g1_ R i x).drop ((i + 1) * 2 + (flat (xs.drop i)).length)
theorem g1_len {R : List Value} {i G : Nat} (x : Int × Int) (hR : R.length = G * 2) (hi : i < G) : (g1_ R i x).length = G * 2 := by
  unfold g1_; simp [flat_len]; omega
theorem g2_len {R : List Value} {xs : List (Int × Int)} {i G : Nat} (x : Int × Int) (hR : R.length = G * 2) (hi : i < xs.length) (hG : xs.length + 1 ≤ G) : (g2_ R xs i x).length = G * 2 := by
  have := g1_len (R := R) (i := i) x hR (by omega)
  unfold g2_; simp [flat_len]; omega
theorem g2_take {R : List Value} {xs : List (Int × Int)} {i G : Nat} (x : Int × Int) (hR : R.length = G * 2) (hi : i < xs.length) (hG : xs.length + 1 ≤ G) (hf : R.take (i * 2) = flat (xs.take i)) :
    (g2_ R xs i x).take ((xs.length + 1) * 2) = flat (xs.take i ++ x :: xs.drop i) := by
  have e1 : (g1_ R i x).take ((i + 1) * 2) = flat (xs.take i) ++ flat [x] := by
    unfold g1_
    rw [hf]
    refine List.take_left' ?_
    rw [List.length_append, flat_len, flat_len, List.length_take]; simp; omega
  unfold g2_
  rw [e1, show xs.take i ++ x :: xs.drop i = xs.take i ++ ([x] ++ xs.drop i) by simp, flat_append, flat_append, List.append_assoc (flat (xs.take i))]
  refine List.take_left' ?_
  simp only [List.length_append, flat_len, List.length_take, List.length_drop, List.length_singleton]; omega
theorem zeroCells_len (k : Nat) : (Builtin.zeroCells (Value.agg #[Value.int .i64 0, Value.int .i64 0]).cells k).size = k * 2 := by
  simp [Builtin.zeroCells, Value.cells]
set_option maxHeartbeats 4000000 in
set_option maxRecDepth 100000 in
theorem insert_grow {xs : List (Int × Int)} {b : Nat} (h : Row w B (.slice (some ⟨b, 0, none⟩) xs.length xs.length) xs (some b)) {i : Nat} (hi : i < xs.length) (x : Int × Int) (q : Nat)
    (hq : w.heap[q]? = some (.cells #[.int .i64 x.1, .int .i64 x.2] 54 (0, 0))) (hqb : q ≠ b) (hlen : xs.length < 1048576) (hBw : B ≤ w.heap.size) :
    Calls Try.prog 33 #[.slice (some ⟨b, 0, none⟩) xs.length xs.length, .int .i64 i, .slice (some ⟨q, 0, none⟩) 1 1] w (InsPost w B (xs.take i ++ x :: xs.drop i) (some b)) := by
  obtain ⟨cap2, cs, h1, hB, hb, hsz, hl, hm, hf, h2⟩ := h
  obtain rfl : xs.length = cap2 := by simp at h1; exact h1
  clear h1 hl
  obtain ⟨i0, hi0, hz0, hzs, hzb⟩ := info_parts info54
  have hLl : cs.toList.length = xs.length * 2 := by simpa using hsz
  have hfc : cs.toList = flat xs := by rw [← hf, List.take_of_length_le (by omega)]
  have hbw : b < w.heap.size := (Array.getElem?_eq_some_iff.1 hb).1
  have hqw : q < w.heap.size := (Array.getElem?_eq_some_iff.1 hq).1
  have hcell : ∀ j v, (flat xs)[j]? = some v → w.cell? ⟨b, j, none⟩ = some v := fun j v hj => by
    rw [cell_of_row w b _ cs 54 (0, 0) hb]; rw [← hfc] at hj; simpa using hj
  have hold : (Builtin.firstCells i0.size i (.slice (some ⟨b, 0, none⟩) i xs.length)).run Try.prog w.drew = .ok (flat (xs.take i)).toArray w.drew := by
    rw [hzs]
    exact run_firstCells_some w.drew 2 i ⟨b, 0, none⟩ i xs.length (flat (xs.take i)) (by rw [flat_len, List.length_take]; omega) (fun j v hj => by
      rw [Addr.add_mid, Nat.zero_add]
      rw [← flat_take, List.getElem?_take] at hj
      split at hj
      · exact hcell j v hj
      · cases hj)
  obtain ⟨G, hG⟩ : ∃ G, G = grownCap w (xs.length + 1) xs.length 54 := ⟨_, rfl⟩
  have hGn : xs.length + 1 ≤ G := by rw [hG]; exact grownCap_ge w _ _ _
  have hG63 : G ≤ maxLen := by
    rw [hG]; exact grownCap_le_maxLen w (xs.length + 1) xs.length 54 (by unfold maxLen; omega)
  obtain ⟨ROW, hROW⟩ : ∃ ROW : Array Value, ROW = (flat (xs.take i)).toArray ++ Builtin.zeroCells (Value.agg #[Value.int .i64 0, Value.int .i64 0]).cells (xs.length + 1 - i) ++ Builtin.zeroCells (Value.agg #[Value.int .i64 0, Value.int .i64 0]).cells (G - (xs.length + 1)) := ⟨_, rfl⟩
  have hRl : ROW.toList.length = G * 2 := by
    rw [hROW]
    simp only [Array.length_toList, Array.size_append, List.size_toArray, flat_len, List.length_take, zeroCells_len]
    omega
  have hRt : ROW.toList.take (i * 2) = flat (xs.take i) := by
    rw [hROW]
    simp only [Array.toList_append, List.append_assoc]
    refine List.take_left' ?_
    rw [flat_len, List.length_take]; omega
  obtain ⟨W1, hW1⟩ : ∃ W1, W1 = w.drew.alloc (.cells ROW 54) := ⟨_, rfl⟩
  have hrz : ∀ ty, (Builtin.append_ #[47, 3] ty #[.slice (some ⟨b, 0, none⟩) i xs.length, .int .i64 ((xs.length : Int) + 1 - (i : Int))]).run Try.prog w =
      .ok (.slice (some ⟨w.heap.size, 0, none⟩) (xs.length + 1) G) W1 := fun ty => by
    have hr : xs.length < xs.length + 1 := by omega
    have hbig : (xs.length + 1) * 16 ≤ 140737488355328 := by omega
    have h := Lib.run_append_grow_zeros w 47 3 ty 54 i0 _ .i64 .i64 Try.underlying47 Try.underlying3 hi0 hz0 (some ⟨b, 0, none⟩) i xs.length (flat (xs.take i)) hold (xs.length + 1 - i) (by omega) (by omega) (by omega) (by omega) (by rw [hzb]; omega) (by rw [hzb, show i + (xs.length + 1 - i) = xs.length + 1 by omega]; exact growslice_fits hr hbig)
    rw [show i + (xs.length + 1 - i) = xs.length + 1 by omega, ← hG, ← hROW, ← hW1] at h
    rw [show (xs.length : Int) + 1 - (i : Int) = ((xs.length + 1 - i : Nat) : Int) by omega]
    exact h
  have hg1 : W1.heap[w.heap.size]? = some (.cells ROW 54 (0, 0)) := by rw [hW1]; exact heap_alloc_new w.drew _
  have hold1 : ∀ k, k < w.heap.size → W1.heap[k]? = w.heap[k]? := fun k hk => by rw [hW1]; exact Below.heap_alloc w.drew _ k hk
  have hq1 : W1.heap[q]? = some (.cells #[.int .i64 x.1, .int .i64 x.2] 54 (0, 0)) := (hold1 q hqw).trans hq
  have hg1l := g1_len (R := ROW.toList) (i := i) x hRl (by omega)
  have hg2l := g2_len (R := ROW.toList) x hRl hi hGn
  have hg2t := g2_take (R := ROW.toList) x hRl hi hGn hRt
  obtain ⟨W2, hW2⟩ : ∃ W2, W2 = W1.setRow w.heap.size (g1_ ROW.toList i x).toArray := ⟨_, rfl⟩
  have hcp1 : ∀ ty dc, (Builtin.copy_ #[47, 47] ty #[.slice (some ⟨w.heap.size, i * 2, none⟩) (xs.length + 1 - i) dc, .slice (some ⟨q, 0, none⟩) 1 1]).run Try.prog W1 = .ok (goInt ((1 : Nat) : Int)) W2 := fun ty dc => by
    have hmin : Nat.min 1 (xs.length + 1 - i) = 1 := by simp only [Nat.min_def]; split <;> omega
    have := run_copy2 W1 ty w.heap.size (i * 2) (xs.length + 1 - i) dc ⟨q, 0, none⟩ 1 1 ROW (flat [x]) hg1 (by rw [hmin]; rfl)
      (news2 ((cell_of_row _ _ 0 _ _ _ hq1).trans rfl) ((cell_of_row _ _ 1 _ _ _ hq1).trans rfl)) (by rw [flat_len]; simp only [Array.length_toList] at hRl; simp; omega) (oneCell_flat _)
    rw [hmin] at this
    rw [hW2]; exact this
  have hg2 : W2.heap[w.heap.size]? = some (.cells (g1_ ROW.toList i x).toArray 54 (0, 0)) := by rw [hW2]; exact setRow_heap W1 _ _ _ 54 (0, 0) hg1
  have hb2 : W2.heap[b]? = some (.cells cs 54 (0, 0)) := by rw [hW2]; exact (setRow_other W1 _ b _ (by omega)).trans ((hold1 b hbw).trans hb)
  have hfl : (flat (xs.drop i)).length = (xs.length - i) * 2 := by rw [flat_len, List.length_drop]
  have hcp2 : ∀ ty dc sc, (Builtin.copy_ #[47, 47] ty #[.slice (some ⟨w.heap.size, (i + 1) * 2, none⟩) (xs.length + 1 - (i + 1)) dc, .slice (some ⟨b, i * 2, none⟩) (xs.length - i) sc]).run Try.prog W2.drew = .ok (goInt ((xs.length - i : Nat) : Int)) (W2.drew.setRow w.heap.size (g2_ ROW.toList xs i x).toArray) := fun ty dc sc => by
    have hmin : Nat.min (xs.length - i) (xs.length + 1 - (i + 1)) = xs.length - i := by simp only [Nat.min_def]; split <;> omega
    have := run_copy2 W2.drew ty w.heap.size ((i + 1) * 2) (xs.length + 1 - (i + 1)) dc ⟨b, i * 2, none⟩ (xs.length - i) sc (g1_ ROW.toList i x).toArray (flat (xs.drop i)) hg2 (by rw [hfl, hmin])
      (fun j u hj => by
        rw [Addr.add_mid, cell_of_row W2.drew b _ cs 54 (0, 0) hb2]
        rw [← flat_drop, ← hfc, List.getElem?_drop] at hj
        simpa using hj)
      (by rw [hfl]; simp only [List.size_toArray]; rw [hg1l]; omega) (oneCell_flat _)
    rw [hmin] at this
    exact this
  have HPOST : Aside (InsPost w B (xs.take i ++ x :: xs.drop i) (some b) (.returned (.slice (some ⟨w.heap.size, 0, none⟩) (xs.length + 1) G)) (W2.drew.setRow w.heap.size (g2_ ROW.toList xs i x).toArray)) := by
    have hyl : (xs.take i ++ x :: xs.drop i).length = xs.length + 1 := by simp; omega
    refine ⟨_, some w.heap.size, rfl, ⟨G, _, by rw [hyl], hBw, setRow_heap W2.drew _ _ _ 54 (0, 0) hg2, by simpa using hg2l, by rw [hyl]; exact hGn, hG63, by rw [hyl]; exact hg2t, by rw [hyl]; omega⟩, .inr rfl, ?_⟩
    have hsz1 : W1.heap.size = w.heap.size + 1 := by rw [hW1]; simp
    refine ⟨by rw [hW2, hW1]; rfl, by rw [hW2, hW1]; rfl, by rw [hW2, hW1]; rfl, ?_, fun k hk hn => ?_⟩
    · rw [setRow_size]; show w.heap.size ≤ W2.heap.size; rw [hW2, setRow_size]; omega
    · rw [setRow_other _ _ k _ (by omega)]
      show W2.heap[k]? = _
      rw [hW2, setRow_other _ _ k _ (by omega)]
      exact hold1 k hk
  clear hG hW1 hW2 hROW hg1 hq1 hg1l hg2l hg2t hg2 hb2 hfl hold1 hold hcell hfc hf hb hq hsz hLl hRl hRt
  obtain ⟨n, HN⟩ : ∃ n, Hid (xs.length = n) := ⟨_, Lib.hid rfl⟩
  obtain ⟨z, HZ⟩ : ∃ z, Hid (w.heap.size = z) := ⟨_, Lib.hid rfl⟩
  have HRZ : Hid (∀ ty, (Builtin.append_ #[47, 3] ty #[.slice (some ⟨b, 0, none⟩) i n, .int .i64 ((n : Int) + 1 - (i : Int))]).run Try.prog w = .ok (.slice (some ⟨z, 0, none⟩) (n + 1) G) W1) := Lib.hid (by rw [← HN.out, ← HZ.out]; exact hrz)
  have HCP1 : Hid (∀ ty dc, (Builtin.copy_ #[47, 47] ty #[.slice (some ⟨z, i * 2, none⟩) (n + 1 - i) dc, .slice (some ⟨q, 0, none⟩) 1 1]).run Try.prog W1 = .ok (goInt ((1 : Nat) : Int)) W2) := Lib.hid (by rw [← HN.out, ← HZ.out]; exact hcp1)
  have HCP2 : Hid (∀ ty dc sc, (Builtin.copy_ #[47, 47] ty #[.slice (some ⟨z, (i + 1) * 2, none⟩) (n - i) dc, .slice (some ⟨b, i * 2, none⟩) (n - i) sc]).run Try.prog W2.drew = .ok (goInt ((n - i : Nat) : Int)) (W2.drew.setRow z (g2_ ROW.toList xs i x).toArray)) := Lib.hid (fun ty dc sc => by have := hcp2 ty dc sc; rw [Nat.add_sub_add_right, HN.out, HZ.out] at this; exact this)
  rw [HN.out] at hi hlen hGn HPOST ⊢
  rw [HZ.out] at HPOST
  clear hrz hcp1 hcp2
  have hz2 : ¬ ((i : Int) = (n : Int)) := by omega
  have hw1 : IntKind.i64.wrap ((i : Int) + 1) = (i : Int) + 1 := by rw [IntKind.wrap_i64]; omega
  have hb0 : (0 : Int) ≤ (i : Int) + 1 := by omega
  have htn : ((i : Int) + 1).toNat = i + 1 := by omega
  have hG63' : (G : Int) ≤ 9223372036854775807 := by unfold maxLen at hG63; omega
  have hb2 : ¬ (G = i + 1) := by omega
  have hb3 : (i : Int) ≤ (n : Int) + 1 := by omega
  have hb4 : ¬ (G = i) := by omega
  have hb5 : ¬ (n = i) := by omega
  have hb6 : (n : Int) + 1 ≤ (G : Int) := by omega
  have hin : i ≤ n := by omega
  have hin2 : (i : Int) ≤ (n : Int) := by omega
  have hnc : (n : Int) < (n : Int) + 1 := by omega
  go_enter Try.func33, Try.ntmps33
  go_wp2_with ((with_reducible refine at_dst (N := 40) rfl ?_); refine Mark.mk_ ?_)
  refine Mark.un ?_
  refine Lib.wpList_append_run _ rfl _ _ _ _ rfl _ _ rfl rfl _ _ (HRZ.out _) ?_
  go_wp2_with ((with_reducible refine at_dst (N := 45) rfl ?_); refine Mark.mk_ ?_)
  refine Mark.un ?_
  refine wpList_copy_runI _ rfl _ _ 47 47 rfl _ _ rfl rfl (HCP1.out _ _) ?_
  go_wp2
  have HC2 := HCP2.out
  go_region_law (fail)
  go_wp2
  go_ret
  exact HPOST.out
end Go.Proofs.Ytppefdodhbdlpaa.H
