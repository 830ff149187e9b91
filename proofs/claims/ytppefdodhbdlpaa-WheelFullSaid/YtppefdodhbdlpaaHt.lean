import Derived.Test.YtppefdodhbdlpaaHs
namespace Go.Proofs.Ytppefdodhbdlpaa.H
open Go.RowKit Go.Shelf
set_option linter.unusedVariables false
set_option linter.unusedSimpArgs false
variable {w : World} {B g : Nat} {ks : Nat → Option Nat} {vs : Nat → Value} {S : Nat → List (Int × Int)} {now n : Int} {m r : List (Int × Int)} {t : Int × Int}
theorem first_nil (h : Wh w B g ks [] now) : Calls Try.prog 28 #[.pointer (some ⟨g, 0, none⟩)] w fun e w' => e = .returned (.int .i64 (-1)) ∧ Below w.heap.size w w' := by
  obtain ⟨hg, vs, hi⟩ := h
  have := first_c hi
  rw [fst_nil] at this
  exact this
theorem first_cons (h : Wh w B g ks (t :: r) now) {i : Nat} (hi : i < 64) (ht : t.2 % 64 = (i : Int)) : Calls Try.prog 28 #[.pointer (some ⟨g, 0, none⟩)] w fun e w' => e = .returned (.int .i64 i) ∧ Below w.heap.size w w' := by
  obtain ⟨hg, vs, hw⟩ := h
  have := first_c hw
  rw [fst_cons hg hi ht] at this
  exact this
theorem Wh.head (h : Wh w B g ks (t :: r) now) {i : Nat} (hi : i < 64) (ht : t.2 % 64 = (i : Int)) : ∃ b l cap, 0 < l ∧ l ≤ 1048576 ∧ w.cell? ⟨g, i, none⟩ = some (.slice (some ⟨b, 0, none⟩) l cap) ∧ w.cell? ⟨b, 0, none⟩ = some (.int .i64 t.1) ∧ w.cell? ⟨b, 1, none⟩ = some (.int .i64 t.2) ∧ b < w.heap.size := by
  obtain ⟨hg, vs, hw⟩ := h
  have hsp : spoke (t :: r) i = t :: spoke r i := by rw [spoke_cons, if_pos ht]
  obtain ⟨b, cap, hb, e, c0, c1⟩ := (hw.rows i hi).head (by rw [hsp]; simp)
  have hl := (hw.rows i hi).own.2.2
  rw [hsp] at e c0 c1 hl
  exact ⟨b, _, cap, by simp, hl, (hw.c hi).trans (by rw [e]), c0, c1, hb⟩
theorem Wh.spoke_i (h : Wh w B g ks (t :: r) now) : ∃ i : Nat, i < 64 ∧ t.2 % 64 = (i : Int) := spoke_cases t (h.good.rng t (by simp)).1
set_option maxHeartbeats 1000000 in
set_option maxRecDepth 100000 in
theorem next_nil (h : Wh w B g ks [] now) : Calls Try.prog 25 #[.pointer (some ⟨g, 0, none⟩)] w fun e w' => e = .returned (.tuple #[.int .i64 0, .bool false]) ∧ Below w.heap.size w w' := by
  have HF := Lib.hid (first_nil h)
  clear h
  go_enter Try.func25, Try.ntmps25
  go_wp2_with fail
  have hX := HF.out; go_fit hX; clear hX; rintro e w1 ⟨rfl, hb1⟩
  have HB : Aside (Below w.heap.size w w1) := hb1; clear hb1
  go_wp2
  go_ret2
  exact ⟨rfl, HB.out⟩
set_option maxHeartbeats 1000000 in
set_option maxRecDepth 100000 in
theorem next_cons (h : Wh w B g ks (t :: r) now) : Calls Try.prog 25 #[.pointer (some ⟨g, 0, none⟩)] w fun e w' => e = .returned (.tuple #[.int .i64 t.2, .bool true]) ∧ Below w.heap.size w w' := by
  obtain ⟨i, hi, ht⟩ := h.spoke_i
  have HF := Lib.hid (first_cons h hi ht)
  have HW : Aside (Wh w B g ks (t :: r) now) := h
  obtain ⟨b, l, cap, hl0, hl1, c0, c1, c2, hb⟩ := h.head hi ht
  have HC := Lib.hid (And.intro c0 (And.intro c1 c2))
  have hia := fun W => run_indexAt64 g i hi W
  have hgl := h.gl
  clear c0 c1 c2 h ht
  obtain ⟨t1, t2⟩ := t
  dsimp only at HC ⊢
  have hlz : (0 : Int) < (l : Int) := by omega
  go_enter Try.func25, Try.ntmps25
  go_wp2_with fail
  have hX := HF.out; go_fit hX; clear hX; rintro e w1 ⟨rfl, hb1⟩
  have c0 := (hb1.cell (p := ⟨g, i, none⟩) hgl).trans HC.out.1
  have c2 := (hb1.cell (p := ⟨b, 1, none⟩) hb).trans HC.out.2.2
  have HB : Aside (Below w.heap.size w w1) := hb1; clear hb1
  go_wp2
  go_ret2
  exact ⟨rfl, HB.out⟩
end Go.Proofs.Ytppefdodhbdlpaa.H
