import Derived.Test.YtppefdodhbdlpaaVCb
import Derived.Shelf.SlSortCmp.NoneTotal
namespace Go.Proofs.Ytppefdodhbdlpaa.H
open Go.RowKit Go.Shelf Go.Proofs.Ytppefdodhbdlpaa.PWheelFull Go.Proofs.YtppefdodhbdlpaaW.PrintWords
set_option linter.unusedVariables false
set_option linter.unusedSimpArgs false
variable {w : World}
/-- a world that only grew, and drew -/
structure Drawn (w W : World) : Prop where
  below : Below w.heap.size w W
  drawn : w.drawn ≤ W.drawn
theorem Drawn.trans {w W V : World} (h : Drawn w W) (k : Drawn W V) : Drawn w V := ⟨h.below.trans (k.below.mono h.below.size), Nat.le_trans h.drawn k.drawn⟩
theorem Drawn.of_n {w W : World} (h : Drawn0 w W) : Drawn w W := by
  obtain ⟨n, rfl⟩ := h.out
  exact ⟨h.below, by simp [World.drewN]⟩
theorem Drawn.grow {w W : World} (h : Drawn w W) : ∃ q os', W = Sort.grow (w.drewN q) os' := by
  refine ⟨W.drawn - w.drawn, W.heap.extract w.heap.size W.heap.size, ?_⟩
  have hh : W.heap = w.heap ++ W.heap.extract w.heap.size W.heap.size := by
    apply Array.ext
    · simp; have := h.below.size; omega
    · intro i h1 h2
      by_cases hi : i < w.heap.size
      · rw [Array.getElem_append_left hi]
        have := h.below.block i hi
        rw [Array.getElem?_eq_getElem h1, Array.getElem?_eq_getElem hi] at this
        simpa using this
      · rw [Array.getElem_append_right (by omega)]
        simp only [Array.getElem_extract]
        congr 1; omega
  have hd := h.drawn
  have h1 := h.below.os
  have h2 := h.below.tape
  have h3 := h.below.output
  cases W with
  | mk heap tape drawn os output =>
    simp only at *
    unfold Sort.grow World.drewN
    simp only [World.mk.injEq]
    exact ⟨hh, h2, by omega, h1, h3⟩
theorem cmp_c (a b : Int) (W : World) : Calls Try.prog 43 #[.int .i64 a, .int .i64 b] W fun e w' => e = .returned (.int .i64 (cmpI a b)) ∧ Drawn W w' :=
  (cmp_Compare_int.calls a b _ W (cmp_f a b)).mono fun _ _ ⟨he, h⟩ => ⟨he, Drawn.of_n h⟩
theorem or_c (x y : Int) (q : Nat) (W : World) (h0 : W.cell? ⟨q, 0, none⟩ = some (.int .i64 x)) (h1 : W.cell? ⟨q, 1, none⟩ = some (.int .i64 y)) :
    Calls Try.prog 42 #[.slice (some ⟨q, 0, none⟩) 2 2] W fun e w' => e = .returned (.int .i64 (if x = 0 then y else x)) ∧ Drawn W w' := by
  have w1 : wrap64 1 = 1 := by unfold wrap64; omega
  have w2 : wrap64 2 = 2 := by unfold wrap64; omega
  have e : cmp_Or_int.f 5 [x, y] = some (if x = 0 then y else x) := by
    by_cases hx : x = 0
    · subst hx
      by_cases hy : y = 0
      · subst hy; simp [cmp_Or_int.f, cmp_Or_int.l0, rd, w1, w2]
      · simp [cmp_Or_int.f, cmp_Or_int.l0, rd, w1, hy]
    · simp [cmp_Or_int.f, cmp_Or_int.l0, rd, hx]
  refine (cmp_Or_int.calls 5 (some ⟨q, 0, none⟩) 2 [x, y] _ W ⟨rfl, by simp, fun _ => ⟨_, rfl, fun j p hj => ?_⟩⟩ (Nat.le_refl _) e).mono fun _ _ ⟨he, h⟩ => ⟨he, Drawn.of_n h⟩
  refine ⟨[.int .i64 p], rfl, rfl, fun i u hu => ?_⟩
  obtain ⟨rfl, rfl⟩ : i = 0 ∧ u = .int .i64 p := by
    cases i with
    | zero => simp at hu; exact ⟨rfl, hu.symm⟩
    | succ i => simp at hu
  match j, hj with
  | 0, hj => simp at hj; subst hj; exact h0
  | 1, hj => simp at hj; subst hj; exact h1
theorem drawn_alloc (W : World) (o : Obj) : Drawn W (W.alloc o) := ⟨(Below.refl _ _).alloc (Nat.le_refl _) _, Nat.le_refl _⟩
theorem os_step {z : Nat} {a1 a2 b1 b2 : Int} {W0 W V : World} (hz0 : z < W0.heap.size) (hz1 : z + 1 < W0.heap.size)
    (h : W.cell? ⟨z, 0, none⟩ = some (.int .i64 a1) ∧ W.cell? ⟨z, 1, none⟩ = some (.int .i64 a2) ∧ W.cell? ⟨z + 1, 0, none⟩ = some (.int .i64 b1) ∧ W.cell? ⟨z + 1, 1, none⟩ = some (.int .i64 b2) ∧ Drawn W0 W) (hd : Drawn W V) :
    V.cell? ⟨z, 0, none⟩ = some (.int .i64 a1) ∧ V.cell? ⟨z, 1, none⟩ = some (.int .i64 a2) ∧ V.cell? ⟨z + 1, 0, none⟩ = some (.int .i64 b1) ∧ V.cell? ⟨z + 1, 1, none⟩ = some (.int .i64 b2) ∧ Drawn W0 V := by
  obtain ⟨s0, s1, s2, s3, s4⟩ := h
  exact ⟨(hd.below.cell (p := ⟨z, _, none⟩) (Nat.lt_of_lt_of_le hz0 s4.below.size)).trans s0, (hd.below.cell (p := ⟨z, _, none⟩) (Nat.lt_of_lt_of_le hz0 s4.below.size)).trans s1, (hd.below.cell (p := ⟨z + 1, _, none⟩) (Nat.lt_of_lt_of_le hz1 s4.below.size)).trans s2, (hd.below.cell (p := ⟨z + 1, _, none⟩) (Nat.lt_of_lt_of_le hz1 s4.below.size)).trans s3, s4.trans hd⟩
set_option maxHeartbeats 1000000 in
set_option maxRecDepth 100000 in
theorem order_d (a b : Int × Int) (w : World) : Calls Try.prog 32 #[.agg #[.int .i64 a.1, .int .i64 a.2], .agg #[.int .i64 b.1, .int .i64 b.2]] w fun e w' => e = .returned (.int .i64 (ordI a b)) ∧ Drawn w w' := by
  obtain ⟨a1, a2⟩ := a
  obtain ⟨b1, b2⟩ := b
  unfold ordI
  dsimp only
  obtain ⟨x, HX⟩ : ∃ x, Hid (cmpI a2 b2 = x) := ⟨_, Lib.hid rfl⟩
  obtain ⟨y, HY⟩ : ∃ y, Hid (cmpI a1 b1 = y) := ⟨_, Lib.hid rfl⟩
  have H1 := Lib.hid (fun W => cmp_c a2 b2 W)
  have H2 := Lib.hid (fun W => cmp_c a1 b1 W)
  rw [HX.out, HY.out]
  obtain ⟨ro, HRO⟩ : ∃ ro, Hid ((if x = 0 then y else x) = ro) := ⟨_, Lib.hid rfl⟩
  have HO := Lib.hid (fun (W : World) => or_c x y W.heap.size (W.alloc (.cells #[.int .i64 x, .int .i64 y] 3)) ((cell_of_row _ _ 0 _ _ _ (heap_alloc_new W _)).trans rfl) ((cell_of_row _ _ 1 _ _ _ (heap_alloc_new W _)).trans rfl))
  rw [HRO.out] at HO ⊢
  rw [HX.out] at H1
  rw [HY.out] at H2
  go_enter Try.func32, Try.ntmps32
  go_wp2
  have hD0 : Drawn w ((w.alloc (.cells #[.int .i64 a1, .int .i64 a2] 54)).alloc (.cells #[.int .i64 b1, .int .i64 b2] 54)) := ⟨((Below.refl _ _).alloc (Nat.le_refl _) _).alloc (by simp) _, Nat.le_refl _⟩
  have c0 : ((w.alloc (.cells #[.int .i64 a1, .int .i64 a2] 54)).alloc (.cells #[.int .i64 b1, .int .i64 b2] 54)).heap[w.heap.size]? = some (.cells #[.int .i64 a1, .int .i64 a2] 54 (0, 0)) := (Below.heap_alloc _ _ _ (by simp)).trans (heap_alloc_new w _)
  have c1 : ((w.alloc (.cells #[.int .i64 a1, .int .i64 a2] 54)).alloc (.cells #[.int .i64 b1, .int .i64 b2] 54)).heap[w.heap.size + 1]? = some (.cells #[.int .i64 b1, .int .i64 b2] 54 (0, 0)) := by
    have := heap_alloc_new (w.alloc (.cells #[.int .i64 a1, .int .i64 a2] 54)) (.cells #[.int .i64 b1, .int .i64 b2] 54); rwa [World.size_alloc] at this
  have hsz : ((w.alloc (.cells #[.int .i64 a1, .int .i64 a2] 54)).alloc (.cells #[.int .i64 b1, .int .i64 b2] 54)).heap.size = w.heap.size + 2 := by simp
  obtain ⟨W0, HW0⟩ : ∃ W0, (w.alloc (.cells #[.int .i64 a1, .int .i64 a2] 54)).alloc (.cells #[.int .i64 b1, .int .i64 b2] 54) = W0 := ⟨_, rfl⟩
  rw [HW0] at hD0 c0 c1 hsz ⊢
  obtain ⟨z, HZ⟩ : ∃ z, Hid (w.heap.size = z) := ⟨_, Lib.hid rfl⟩
  rw [HZ.out] at c0 c1 hsz ⊢
  have HD : Aside (Drawn w W0) := hD0
  have a0 := (cell_of_row W0 z 0 _ _ _ c0).trans rfl
  have a1' := (cell_of_row W0 z 1 _ _ _ c0).trans rfl
  have b0 := (cell_of_row W0 (z + 1) 0 _ _ _ c1).trans rfl
  have b1' := (cell_of_row W0 (z + 1) 1 _ _ _ c1).trans rfl
  have hz0 : z < W0.heap.size := by omega
  have hz1 : z + 1 < W0.heap.size := by omega
  clear hD0 c0 c1 hsz HW0
  go_region_held3 (fun W => W.cell? ⟨z, 0, none⟩ = some (.int .i64 a1) ∧ W.cell? ⟨z, 1, none⟩ = some (.int .i64 a2) ∧ W.cell? ⟨z + 1, 0, none⟩ = some (.int .i64 b1) ∧ W.cell? ⟨z + 1, 1, none⟩ = some (.int .i64 b2) ∧ Drawn W0 W)
    (first
      | exact ⟨a0, a1', b0, b1', ⟨⟨rfl, rfl, rfl, Nat.le_refl _, fun _ _ => rfl⟩, Nat.le_succ _⟩⟩
      | exact os_step hz0 hz1 ‹_› hb'
      | exact os_step hz0 hz1 ‹_› (drawn_alloc _ _))
    (first
      | (go_fit (H1.out _); rintro e w' ⟨rfl, hb'⟩)
      | (go_fit (H2.out _); rintro e w' ⟨rfl, hb'⟩)
      | (go_fit (HO.out _); rintro e w' ⟨rfl, hb'⟩))
  rename_i hH
  have hBw : Aside (Drawn W0 _) := hH.2.2.2.2
  clear hH hb' a0 a1' b0 b1'
  go_wp2
  go_ret
  exact ⟨rfl, HD.out.trans hBw.out⟩
theorem order_g (a b : Int × Int) (W : World) : Calls Try.prog 32 #[.agg #[.int .i64 a.1, .int .i64 a.2], .agg #[.int .i64 b.1, .int .i64 b.2]] W fun e w' => e = .returned (.int .i64 (ordI a b)) ∧ ∃ q os', w' = Sort.grow (W.drewN q) os' :=
  (order_d a b W).mono fun _ _ ⟨he, h⟩ => ⟨he, h.grow⟩
end Go.Proofs.Ytppefdodhbdlpaa.H
