import Derived.Test.YtppefdodhbdlpaaVHv
namespace Go.Proofs.Ytppefdodhbdlpaa.H
open Go.RowKit Go.Shelf
set_option linter.unusedVariables false
set_option linter.unusedSimpArgs false
variable {w : World} {B g : Nat} {ks : Nat → Option Nat} {vs : Nat → Value} {S : Nat → List (Int × Int)} {now n : Int} {m r : List (Int × Int)} {t : Int × Int}
theorem size47' (w : World) : (Go.sizeOf 47).run Try.prog w = .ok 1 w := size47 w
def cat (S : Nat → List (Int × Int)) : Nat → List (Int × Int)
  | 0 => []
  | i + 1 => cat S i ++ S i
theorem cat_le (S : Nat → List (Int × Int)) {i : Nat} : ∀ d, (cat S i).length ≤ (cat S (i + d)).length
  | 0 => Nat.le_refl _
  | d + 1 => Nat.le_trans (cat_le S d) (by show _ ≤ (cat S (i + d) ++ S (i + d)).length; simp)
theorem cat_le' (S : Nat → List (Int × Int)) {i j : Nat} (h : i ≤ j) : (cat S i).length ≤ (cat S j).length := by
  obtain ⟨d, rfl⟩ : ∃ d, j = i + d := ⟨j - i, by omega⟩
  exact cat_le S d
/-- slices.Grow of nil by none -/
theorem grow_nil (w : World) : Calls Try.prog 49 #[.slice none 0 0, .int .i64 0] w fun e w' => e = .returned (.slice none 0 0) ∧ w = w' := by
  go_enter Try.func49, Try.ntmps49
  go_wp2
  go_ret
  exact ⟨rfl, rfl⟩
set_option maxRecDepth 100000 in
theorem grow_some (w : World) (n : Nat) (h0 : 0 < n) (h1 : n ≤ 1048576) : Calls Try.prog 49 #[.slice none 0 0, .int .i64 n] w fun e w' => (∃ cap, n ≤ cap ∧ e = .returned (.slice (some ⟨w.heap.size, 0, none⟩) 0 cap) ∧ w'.ownsRow w.heap.size 54 2 (.slice (some ⟨w.heap.size, 0, none⟩) 0 cap) 0 []) ∧ Below w.heap.size w w' ∧ w'.heap.size = w.heap.size + 1 := by
  obtain ⟨i0, hi0, hz0, hzs, hzb⟩ := info_parts info54
  have hold : (Builtin.firstCells i0.size 0 (.slice none 0 0)).run Try.prog w.drew = .ok ([] : List Value).toArray w.drew := by
    simp [Builtin.firstCells]
  obtain ⟨G, hG⟩ : ∃ G, G = grownCap w n 0 54 := ⟨_, rfl⟩
  have hGn : n ≤ G := by rw [hG]; exact grownCap_ge w _ _ _
  have hG63 : G ≤ maxLen := by rw [hG]; exact grownCap_le_maxLen w n 0 54 (by unfold maxLen; omega)
  obtain ⟨ROW, hROW⟩ : ∃ ROW : Array Value, ROW = ([] : List Value).toArray ++ Builtin.zeroCells (Value.agg #[Value.int .i64 0, Value.int .i64 0]).cells n ++ Builtin.zeroCells (Value.agg #[Value.int .i64 0, Value.int .i64 0]).cells (G - n) := ⟨_, rfl⟩
  have hRl : ROW.size = G * 2 := by
    rw [hROW]
    simp only [Array.size_append, List.size_toArray, List.length_nil, zeroCells_len]
    omega
  obtain ⟨W1, hW1⟩ : ∃ W1, W1 = w.drew.alloc (.cells ROW 54) := ⟨_, rfl⟩
  have hrz : ∀ ty, (Builtin.append_ #[47, 3] ty #[.slice none 0 0, .int .i64 n]).run Try.prog w = .ok (.slice (some ⟨w.heap.size, 0, none⟩) n G) W1 := fun ty => by
    have hr : 0 < n := h0
    have hbig : n * 16 ≤ 140737488355328 := by omega
    have h := Lib.run_append_grow_zeros w 47 3 ty 54 i0 _ .i64 .i64 Try.underlying47 Try.underlying3 hi0 hz0 none 0 0 [] hold n (by omega) (by omega) (by omega) (by omega) (by rw [hzb]; omega) (by rw [hzb, Nat.zero_add]; exact growslice_fits hr hbig)
    rw [Nat.zero_add, ← hG, ← hROW, ← hW1] at h
    exact h
  have hg1 : W1.heap[w.heap.size]? = some (.cells ROW 54 (0, 0)) := by rw [hW1]; exact heap_alloc_new w.drew _
  have HP : Aside ((∃ cap, n ≤ cap ∧ Ending.returned (.slice (some ⟨w.heap.size, 0, none⟩) 0 G) = .returned (.slice (some ⟨w.heap.size, 0, none⟩) 0 cap) ∧ W1.ownsRow w.heap.size 54 2 (.slice (some ⟨w.heap.size, 0, none⟩) 0 cap) 0 []) ∧ Below w.heap.size w W1 ∧ W1.heap.size = w.heap.size + 1) := by
    refine ⟨⟨G, hGn, rfl, rfl, .inr ⟨w.heap.size, G, ROW, rfl, Nat.le_refl _, hg1, Nat.zero_le _, hG63, hRl, by simp⟩⟩, ?_, by rw [hW1]; simp⟩
    rw [hW1]; exact (below_drew' (Below.refl _ _)).trans ((Below.refl w.heap.size w.drew).alloc (Nat.le_refl _) _)
  clear hG hROW hRl hW1 hg1 hold
  have HR := Lib.hid hrz
  clear hrz
  have hnz : 0 < (n : Int) := by omega
  have hG63' : (G : Int) ≤ 9223372036854775807 := by unfold maxLen at hG63; omega
  clear h0
  go_enter Try.func49, Try.ntmps49
  go_wp2_with ((with_reducible refine at_dst (N := 22) rfl ?_); refine Mark.mk_ ?_)
  refine Mark.un ?_
  refine Lib.wpList_append_run _ rfl _ _ _ _ rfl _ _ rfl rfl _ _ (HR.out _) ?_
  go_wp2
  go_ret
  exact HP.out
end Go.Proofs.Ytppefdodhbdlpaa.H
