-- Written by ext.sh (the session's own program, over the kit's printer) out of the translation. Lean checks it.
import Derived.Test.YtobipigioaoaiaaPDetectCopiesx0
namespace Go.Proofs.Ytobipigioaoaiaa.PDetectCopies
open Go.RowKit Go.Proofs.YtobipigioaoaiaaW.PrintWords Go.Proofs.YtobipigioaoaiaaW.PrintLast Go.Proofs.YtobipigioaoaiaaW.PrintMore
attribute [local go_sem] max2_int min2_int max_two min_two max_three min_three max_four min_four   -- for this text's walks alone
set_option linter.unusedVariables false
set_option linter.unusedSimpArgs false
theorem bpq4 {W V : World} {g : Nat} {o : Obj} (h : V.heap[g]? = some o) (e : V.heap[g]? = some o → W.heap[g]? = some o := by (intro h_; (with_reducible repeat (first | exact h_ | refine blk_drewN ?_ _ | refine blk_drew ?_ | refine blk_alloc ?_ _)); first | done | exact h_)) : W.heap[g]? = some o := e h
theorem bzq4 {W : World} {g : Nat} {t : TypeId} {c : Array Value} (h : ∃ cs, W.heap[g]? = some (.cells cs t (0, 0)) ∧ cs = c) : W.heap[g]? = some (.cells c t (0, 0)) := by obtain ⟨_, h, rfl⟩ := h; exact h
theorem btq4 {W V : World} {g : Nat} {t : TypeId} {i : Nat} {u : Value} {P : Array Value → Prop} (h : ∃ cs, V.heap[g]? = some (.cells cs t (0, 0)) ∧ P (cs.setIfInBounds i u)) (e : ∀ cs, (V.setCell ⟨g, i, none⟩ u).heap[g]? = some (.cells cs t (0, 0)) → W.heap[g]? = some (.cells cs t (0, 0)) := by (intro cs_ h_; (with_reducible repeat (first | exact h_ | refine blk_drewN ?_ _ | refine blk_drew ?_ | refine blk_alloc ?_ _)); first | done | exact h_)) : ∃ cs, W.heap[g]? = some (.cells cs t (0, 0)) ∧ P cs := by obtain ⟨cs, h, hp⟩ := h; exact ⟨_, e _ (blk_put h i u rfl), hp⟩
theorem kkq4 {w W V : World} {S : Nat → Prop} (h : Kept w V S) (e : Kept w V S → Kept w W S := by (intro h_; (with_reducible repeat (first | exact h_ | apply Kept.alloc | apply Kept.drewN | apply Kept.drew | refine Kept.setCell ?_ (by first | exact .inl (.inr rfl) | exact .inl (.inl (.inr rfl)) | exact .inr (Aside0.out (by assumption))) _)); first | done | exact h_)) : Kept w W S := e h
theorem bbq4 {n : Nat} {w W V : World} (h : Below n w V) (e : Below n w V → Below n w W := by (intro h_; (with_reducible repeat (first | exact h_ | apply below_alloc | apply pw_below_drewN | apply below_drew1 | refine below_set ?_ (Aside0.out (by assumption)))); first | done | exact h_)) : Below n w W := e h
theorem bc2q4 {w : World} {g : Nat} {t : TypeId} {v0 v1 : Value} (h : w.heap[g]? = some (.cells #[v0, v1] t (0, 0))) : w.cell? ⟨g, 0, none⟩ = some v0 ∧ w.cell? ⟨g, 1, none⟩ = some v1 := ⟨(blk_cell h 0).trans rfl, (blk_cell h 1).trans rfl⟩

-- NOT PRINTED: function 38 (slices_overlaps_int)

/-! ### slices_Reverse_int_int: function 41 -/
def slices_Reverse_int_int.l0 : Nat → List Int → Int → Int → Option (List Int)
  | 0, _, _, _ => none
  | k + 1, x0, x2, x3 => if x2 < x3 then (if 0 ≤ x3 then (if x3 < (x0.length : Int) then (if 0 ≤ x2 then (if x2 < (x0.length : Int) then (slices_Reverse_int_int.l0 k ((x0.set (x2 : Int).toNat (rd x0 x3)).set (x3 : Int).toNat (rd x0 x2)) (wrap64 (x2 + 1)) (wrap64 (x3 - 1))) else (none)) else (none)) else (none)) else (none)) else (some x0)
def slices_Reverse_int_int.f (k : Nat) (l0 : List Int) : Option (List Int) := slices_Reverse_int_int.l0 k l0 0 (wrap64 ((l0.length : Int) - 1))
theorem slices_Reverse_int_int.mono_l : ∀ k, (∀ y0 y1 y2, LeO (slices_Reverse_int_int.l0 k y0 y1 y2) (slices_Reverse_int_int.l0 (k + 1) y0 y1 y2))
  | 0 => fun _ _ _ r h => by simp [slices_Reverse_int_int.l0] at h
  | k + 1 => by
    have ih0 := slices_Reverse_int_int.mono_l k
    · intro y0 y1 y2
      unfold slices_Reverse_int_int.l0
      repeat' first
      | (with_reducible exact ih0 _ _ _)
      | (with_reducible exact LeO.refl _)
      | (with_reducible exact LeO.none _)
      | (with_reducible refine LeO.ite ?_ ?_)
      | (with_reducible refine LeO.bind ?_ (fun _ => ?_))
      | exact ih0 _ _ _
      | exact LeO.none _
      | refine LeO.ite ?_ ?_
      | refine LeO.bind ?_ (fun _ => ?_)
theorem slices_Reverse_int_int.mono : ∀ a0 k, LeO (slices_Reverse_int_int.f k a0) (slices_Reverse_int_int.f (k + 1) a0) := by
  intro a0 k
  have ih0 := slices_Reverse_int_int.mono_l k
  unfold slices_Reverse_int_int.f
  repeat' first
      | (with_reducible exact ih0 _ _ _)
      | (with_reducible exact LeO.refl _)
      | (with_reducible exact LeO.none _)
      | (with_reducible refine LeO.ite ?_ ?_)
      | (with_reducible refine LeO.bind ?_ (fun _ => ?_))
      | exact ih0 _ _ _
      | exact LeO.none _
      | refine LeO.ite ?_ ?_
      | refine LeO.bind ?_ (fun _ => ?_)
def slices_Reverse_int_int.T3 : Bool × List (List Nat × List Nat) := (true, [([], []), ([], []), ([], []), ([], []), ([], []), ([], []), ([4, 5], [4, 5]), ([6], [6]), ([], []), ([], []), ([8, 9], [8, 9]), ([10], [10]), ([0, 1, 0, 1, 4, 5, 6, 7, 11], [0, 1]), ([12, 7, 0, 1, 4, 5, 6, 7, 11], [7, 12]), ([2, 3, 0, 1, 2, 3, 4, 5, 6, 7, 8, 9, 10, 11, 12, 13], [2, 3]), ([14, 11, 13, 0, 1, 2, 3, 4, 5, 6, 7, 8, 9, 10, 11, 12, 13], [11, 14])])
def slices_Reverse_int_int.B3 : List Nat := [0, 0, 0, 0, 0, 0, 48, 112, 0, 0, 768, 1792, 4083, 8179, 16383, 32767]
theorem slices_Reverse_int_int.tab3 : rtab .any (opsOf Try.f41 3) = slices_Reverse_int_int.T3 := by kernel_rfl
theorem slices_Reverse_int_int.bits3 : waitsOk slices_Reverse_int_int.T3.2 slices_Reverse_int_int.B3 = true := by kernel_rfl
set_option maxHeartbeats 8000000 in
set_option maxRecDepth 100000 in
theorem slices_Reverse_int_int.calls (k : Nat) (P0_ : Nat → Prop) (u9000_ : Value) (l0 : List Int) (r : List Int) (w0 w : World) (hB : Below w0.heap.size w0 w) (ho0 : Kd.R (Kd.int .i64) 3 w w0.heap.size P0_ u9000_ l0) (h : slices_Reverse_int_int.f k l0 = some r) :
    Calls Try.prog 41 #[u9000_] w fun e w' => e = .returned (.tuple #[]) ∧ Kd.R (Kd.int .i64) 3 w' w0.heap.size (fun k_ => (P0_ k_ ∨ w.heap.size ≤ k_)) u9000_ r ∧ Below w0.heap.size w0 w' ∧ Kept w w' (fun k_ => P0_ k_) := by
  have HO0 := Aside0.mk (show Kd.R (Kd.int .i64) 3 w w0.heap.size (fun k_ => (P0_ k_ ∨ w.heap.size ≤ k_)) u9000_ l0 from Kd.R_mono ho0 (fun k_ hk => (.inl hk)))
  have HK := Aside0.mk (Kept.refl w (fun k_ => P0_ k_))
  have HW0 := Aside0.mk hB.size
  have HB := Aside0.mk hB
  clear hB
  have H : (slices_Reverse_int_int.l0 k l0 0 (wrap64 ((l0.length : Int) - 1))) = some r := h
  clear h
  have H' := Aside0.mk H
  clear H
  obtain ⟨Ao2, co2, eo2⟩ := Kd.R_slice HO0.out
  subst eo2
  go_enter Try.func41, Try.ntmps41
  go_wp2
  go_loopg [2, 3] k (fun kq v2 v3 w' => ∃ (x0_1 : List Int) (x2_1 : Int) (x3_1 : Int), v2 = .int .i64 x2_1 ∧ v3 = .int .i64 x3_1 ∧ Aside0 (slices_Reverse_int_int.l0 kq x0_1 x2_1 x3_1 = some r) ∧ Aside0 (kq ≤ k) ∧ Aside0 (Kd.R (Kd.int .i64) 3 w' w0.heap.size (fun k_ => (P0_ k_ ∨ w.heap.size ≤ k_)) (.slice Ao2 l0.length co2) x0_1) ∧ Aside0 (Kept w w' (fun k_ => P0_ k_)) ∧ Aside0 (Below w0.heap.size w0 w'))
  case atStart => exact ⟨(l0), (0), (wrap64 ((l0.length : Int) - 1)), (by first | rfl | (simp; done) | (simp [*]; done)), (by first | rfl | (simp; done) | (simp [*]; done)), H', ⟨Nat.le_refl _⟩, ⟨by (with_reducible repeat (first | apply Kd.R_alloc | apply Kd.R_drewN | apply Kd.R_drew)); exact HO0.out⟩, ⟨(kkq4 HK.out)⟩, ⟨(bbq4 HB.out)⟩⟩
  case round =>
    clear H'
    try clear p2
    obtain ⟨x0_1, x2_1, x3_1, rfl, rfl, HA, HK1, HO_0, HK, HB⟩ := hrel
    have hl0_1 := (Kd.R_reads' HO_0.out).1
    rw [hl0_1] at HO_0
    (try simp only [hl0_1])
    cases gk with
    | zero => exact absurd HA.out (by simp [slices_Reverse_int_int.l0])
    | succ k1 =>
      have H := HA.out
      clear HA
      simp only [slices_Reverse_int_int.l0] at H
      by_cases c3 : x2_1 < x3_1
      · rw [if_pos c3] at H
        have c3b0 : decide (x2_1 < x3_1) = true := decide_eq_true c3
        clear c3
        by_cases c4 : 0 ≤ x3_1
        · rw [if_pos c4] at H
          have c4b0 : decide (0 ≤ x3_1) = true := decide_eq_true c4
          clear c4
          by_cases c5 : x3_1 < (x0_1.length : Int)
          · rw [if_pos c5] at H
            have c5b0 : decide (x3_1 < (x0_1.length : Int)) = true := decide_eq_true c5
            (try simp only [hl0_1] at c5b0)
            clear c5
            by_cases c6 : 0 ≤ x2_1
            · rw [if_pos c6] at H
              have c6b0 : decide (0 ≤ x2_1) = true := decide_eq_true c6
              clear c6
              by_cases c7 : x2_1 < (x0_1.length : Int)
              · rw [if_pos c7] at H
                have c7b0 : decide (x2_1 < (x0_1.length : Int)) = true := decide_eq_true c7
                (try simp only [hl0_1] at c7b0)
                clear c7
                obtain ⟨y199, hy199⟩ : ∃ y_ : List Int, y_ = (x0_1.set (x2_1 : Int).toNat (rd x0_1 x3_1)) := ⟨_, rfl⟩
                replace H : (slices_Reverse_int_int.l0 k1 (y199.set (x3_1 : Int).toNat (rd x0_1 x2_1)) (wrap64 (x2_1 + 1)) (wrap64 (x3_1 - 1))) = some r := by first | (rw [hy199]; with_reducible exact H) | (have H2_ := (Option.bind_some _ _).symm.trans H; rw [hy199]; with_reducible exact H2_) | (have H2_ := (Option.bind_some _ _).symm.trans H; with_reducible exact H2_) | with_reducible exact H | (rw [hy199]; exact H) | exact H
                have Ny199 := Aside0.mk hy199
                clear hy199
                obtain ⟨y200, hy200⟩ : ∃ y_ : List Int, y_ = (y199.set (x3_1 : Int).toNat (rd x0_1 x2_1)) := ⟨_, rfl⟩
                replace H : (slices_Reverse_int_int.l0 k1 y200 (wrap64 (x2_1 + 1)) (wrap64 (x3_1 - 1))) = some r := by first | (rw [hy200]; with_reducible exact H) | (have H2_ := (Option.bind_some _ _).symm.trans H; rw [hy200]; with_reducible exact H2_) | (have H2_ := (Option.bind_some _ _).symm.trans H; with_reducible exact H2_) | with_reducible exact H | (rw [hy200]; exact H) | exact H
                have Ny200 := Aside0.mk hy200
                clear hy200
                have H' := Aside0.mk H
                clear H
                try go_wp2
                have n0_ := Aside0.mk (Kd.R_drew HO_0.out)
                have n1_ := Aside0.mk (Kept.drew HK.out)
                have n2_ := Aside0.mk (below_drew1 HB.out)
                clear HO_0
                clear HK
                clear HB
                have HO_0 := n0_
                have HK := n1_
                have HB := n2_
                clear n0_ n1_ n2_
                have p197 : 0 ≤ (x3_1 : Int) := of_decide_eq_true (by first | (with_reducible assumption) | assumption)
                have q197 : x3_1 < (x0_1.length : Int) := of_decide_eq_true (by first | (with_reducible assumption) | assumption)
                obtain ⟨ad197, e197, hx197_0⟩ := Kd.at_int (Kd.R_reads' HO_0.out).2.2 x3_1 p197 q197
                cases e197
                replace p197 := eq_true p197
                replace q197 := eq_true q197
                have p198 : 0 ≤ (x2_1 : Int) := of_decide_eq_true (by first | (with_reducible assumption) | assumption)
                have q198 : x2_1 < (x0_1.length : Int) := of_decide_eq_true (by first | (with_reducible assumption) | assumption)
                obtain ⟨ad198, e198, hx198_0⟩ := Kd.at_int (Kd.R_reads' HO_0.out).2.2 x2_1 p198 q198
                obtain rfl : ad197 = ad198 := (by injection e198)
                replace p198 := eq_true p198
                replace q198 := eq_true q198
                have p8 : 0 ≤ (x2_1 : Int) := of_decide_eq_true (by first | (with_reducible assumption) | assumption)
                have q8 : (x2_1 : Int) < ((x0_1.length : Int) : Int) := of_decide_eq_true (by first | (with_reducible assumption) | assumption)
                obtain ⟨go8, co8, eo8, gb8, gl8, cl8, HG8⟩ := Kd.R_form HO_0.out (by omega)
                (first | cases eo8 | (injection eo8 with ea_ en_ ec_; (first | subst ea_ | (injection ea_ with ea_; subst ea_)); subst ec_; clear en_))
                have GB8 := Aside0.mk gb8
                have GG8 := Aside0.mk HG8
                clear gb8 gl8 HG8
                have HMgo8 := Aside0.mk (show (P0_ go8 ∨ w.heap.size ≤ go8) from (HO_0.out.1 _ rfl))
                (first | simp only [add_plain] at hx197_0 | skip)
                (first | simp only [add_plain] at hx198_0 | skip)
                obtain ⟨hx8_0, hf8_0⟩ := Kd.R_celln 0 HO_0.out (x2_1 : Int) p8 q8
                replace p8 := eq_true p8
                replace q8 := eq_true q8
                have HP11 := Kd.R_putn HO_0.out (x2_1 : Int) (rd x0_1 x3_1)
                rw [← Ny199.out] at HP11
                have HQ11 := Aside0.mk HP11
                clear HP11
                have p9 : 0 ≤ (x3_1 : Int) := of_decide_eq_true (by first | (with_reducible assumption) | assumption)
                have q9 : (x3_1 : Int) < ((x0_1.length : Int) : Int) := of_decide_eq_true (by first | (with_reducible assumption) | assumption)
                obtain ⟨hx9_0, hf9_0⟩ := Kd.R_celln 0 HQ11.out (x3_1 : Int) p9 q9
                replace p9 := eq_true p9
                replace q9 := eq_true q9
                have HP12 := Kd.R_putn HQ11.out (x3_1 : Int) (rd x0_1 x2_1)
                rw [← Ny200.out] at HP12
                have HQ12 := Aside0.mk HP12
                clear HP12
                refine start_ (n := 16) (S := fun w' => w'.cell? ⟨go8, (x3_1).toNat, none⟩ = some (.int .i64 (rd x0_1 x3_1)) ∧ w'.cell? ⟨go8, (x2_1).toNat, none⟩ = some (.int .i64 (rd x0_1 x2_1))) (ds := [13, 15]) #[false, false, false, false, false, false, false, false, false, false, false, false, false, false, false, false] (by kernel_rfl) rfl rfl ⟨hx197_0, hx198_0⟩ (fun hHeld => ?_); refine with_tabW slices_Reverse_int_int.tab3 slices_Reverse_int_int.bits3 (fun HT_ HW_ => ?_)
                generalize wr.drew = w10 at HO_0 HK HB GG8 HQ11 HQ12 hf8_0 hf9_0 hx197_0 hx198_0 hx8_0 hx9_0 hHeld ⊢
                refine pure_ (i := 0) (N := some 14) (v := ?_) (a' := ?_) #[true, false, false, false, false, false, false, false, false, false, false, false, false, false, false, false] rfl rfl (any_of HT_.out (by kernel_rfl)) (fun _ _ _ h => h) (Or.inl ⟨by rfl, ?_⟩) ?_ ?_
                rotate_left
                · intro w'
                  go_simp
                  with_reducible rfl
                rotate_left
                · simp only [Act.put, List.setIfInBounds_toArray, List.set_cons_zero, List.set_cons_succ, i64_w, i32_w]
                  rfl
                refine pure_ (i := 1) (N := some 15) (v := ?_) (a' := ?_) #[true, true, false, false, false, false, false, false, false, false, false, false, false, false, false, false] rfl rfl (any_of HT_.out (by kernel_rfl)) (fun _ _ _ h => h) (Or.inl ⟨by rfl, ?_⟩) ?_ ?_
                rotate_left
                · intro w'
                  go_simp
                  with_reducible rfl
                rotate_left
                · simp only [Act.put, List.setIfInBounds_toArray, List.set_cons_zero, List.set_cons_succ, i64_w, i32_w]
                  rfl
                refine pure_ (i := 2) (N := some 16) (v := ?_) (a' := ?_) #[true, true, true, false, false, false, false, false, false, false, false, false, false, false, false, false] rfl rfl (any_of HT_.out (by kernel_rfl)) (fun _ _ _ h => h) (Or.inl ⟨by rfl, ?_⟩) ?_ ?_
                rotate_left
                · intro w'
                  go_simp
                  with_reducible rfl
                rotate_left
                · simp only [Act.put, List.setIfInBounds_toArray, List.set_cons_zero, List.set_cons_succ, i64_w, i32_w]
                  rfl
                refine pure_ (i := 3) (N := some 17) (v := ?_) (a' := ?_) #[true, true, true, true, false, false, false, false, false, false, false, false, false, false, false, false] rfl rfl (any_of HT_.out (by kernel_rfl)) (fun _ _ _ h => h) (Or.inl ⟨by rfl, ?_⟩) ?_ ?_
                rotate_left
                · intro w'
                  go_simp
                  with_reducible rfl
                rotate_left
                · simp only [Act.put, List.setIfInBounds_toArray, List.set_cons_zero, List.set_cons_succ, i64_w, i32_w]
                  rfl
                refine pure_ (i := 4) (N := some 18) (v := ?_) (a' := ?_) #[true, true, true, true, true, false, false, false, false, false, false, false, false, false, false, false] rfl rfl (any_of HT_.out (by kernel_rfl)) (fun _ _ _ h => h) (Or.inl ⟨by rfl, ?_⟩) ?_ ?_
                rotate_left
                · intro w'
                  go_simp
                  with_reducible rfl
                rotate_left
                · simp only [Act.put, List.setIfInBounds_toArray, List.set_cons_zero, List.set_cons_succ, i64_w, i32_w]
                  rfl
                refine pure_ (i := 5) (N := some 19) (v := ?_) (a' := ?_) #[true, true, true, true, true, true, false, false, false, false, false, false, false, false, false, false] rfl rfl (any_of HT_.out (by kernel_rfl)) (fun _ _ _ h => h) (Or.inl ⟨by rfl, ?_⟩) ?_ ?_
                rotate_left
                · intro w'
                  go_simp
                  with_reducible rfl
                rotate_left
                · simp only [Act.put, List.setIfInBounds_toArray, List.set_cons_zero, List.set_cons_succ, i64_w, i32_w]
                  rfl
                refine pure_ (i := 6) (N := some 20) (v := ?_) (a' := ?_) #[true, true, true, true, true, true, true, false, false, false, false, false, false, false, false, false] rfl rfl (any_of HT_.out (by kernel_rfl)) (fun _ _ _ h => h) (Or.inl ⟨by rfl, ?_⟩) ?_ ?_
                rotate_left
                · intro w'
                  go_simp
                  with_reducible rfl
                rotate_left
                · simp only [Act.put, List.setIfInBounds_toArray, List.set_cons_zero, List.set_cons_succ, i64_w, i32_w]
                  rfl
                refine pure_ (i := 8) (N := some 22) (v := ?_) (a' := ?_) #[true, true, true, true, true, true, true, false, true, false, false, false, false, false, false, false] rfl rfl (any_of HT_.out (by kernel_rfl)) (fun _ _ _ h => h) (Or.inl ⟨by rfl, ?_⟩) ?_ ?_
                rotate_left
                · intro w'
                  go_simp
                  with_reducible rfl
                rotate_left
                · simp only [Act.put, List.setIfInBounds_toArray, List.set_cons_zero, List.set_cons_succ, i64_w, i32_w]
                  rfl
                refine pure_ (i := 9) (N := some 23) (v := ?_) (a' := ?_) #[true, true, true, true, true, true, true, false, true, true, false, false, false, false, false, false] rfl rfl (any_of HT_.out (by kernel_rfl)) (fun _ _ _ h => h) (Or.inl ⟨by rfl, ?_⟩) ?_ ?_
                rotate_left
                · intro w'
                  go_simp
                  with_reducible rfl
                rotate_left
                · simp only [Act.put, List.setIfInBounds_toArray, List.set_cons_zero, List.set_cons_succ, i64_w, i32_w]
                  rfl
                refine pure_ (i := 10) (N := some 24) (v := ?_) (a' := ?_) #[true, true, true, true, true, true, true, false, true, true, true, false, false, false, false, false] rfl rfl (any_of HT_.out (by kernel_rfl)) (fun _ _ _ h => h) (Or.inl ⟨by rfl, ?_⟩) ?_ ?_
                rotate_left
                · intro w'
                  go_simp
                  with_reducible rfl
                rotate_left
                · simp only [Act.put, List.setIfInBounds_toArray, List.set_cons_zero, List.set_cons_succ, i64_w, i32_w]
                  rfl
                refine take_ (i := 7) (N := some 21) (v := ?_) (a' := ?_) #[true, true, true, true, true, true, true, true, true, true, true, false, false, false, false, false] rfl rfl (take_ofW HT_.out HW_.out (by kernel_rfl)) (fun _ _ _ h => h) (Or.inl ⟨by rfl, ?_⟩) hHeld ?_ ?_
                rotate_left
                · rintro w' ⟨s0, s1⟩
                  go_simp
                  with_reducible rfl
                rotate_left
                · simp only [Act.put, List.setIfInBounds_toArray, List.set_cons_zero, List.set_cons_succ, i64_w, i32_w]
                  rfl
                refine take_ (i := 11) (N := some 25) (v := ?_) (a' := ?_) #[true, true, true, true, true, true, true, true, true, true, true, true, false, false, false, false] rfl rfl (take_ofW HT_.out HW_.out (by kernel_rfl)) (fun _ _ _ h => h) (Or.inl ⟨by rfl, ?_⟩) hHeld ?_ ?_
                rotate_left
                · rintro w' ⟨s0, s1⟩
                  go_simp
                  with_reducible rfl
                rotate_left
                · simp only [Act.put, List.setIfInBounds_toArray, List.set_cons_zero, List.set_cons_succ, i64_w, i32_w]
                  rfl
                refine pure_ (i := 12) (N := some 26) (v := ?_) (a' := ?_) #[true, true, true, true, true, true, true, true, true, true, true, true, true, false, false, false] rfl rfl (any_of HT_.out (by kernel_rfl)) (fun _ _ _ h => h) (Or.inl ⟨by rfl, ?_⟩) ?_ ?_
                rotate_left
                · intro w'
                  go_simp
                  with_reducible rfl
                rotate_left
                · simp only [Act.put, List.setIfInBounds_toArray, List.set_cons_zero, List.set_cons_succ, i64_w, i32_w]
                  rfl
                refine last_ (i := 13) (N := none) #[true, true, true, true, true, true, true, true, true, true, true, true, true, true, false, false] rfl rfl (one_of HT_.out (by kernel_rfl)) (by decide) (fun K hK => ?_)
                refine skip_ (w1 := ?_) (by rfl) rfl ?_ ?_
                rotate_left
                · go_simp
                  rfl
                refine hK.out _ _ ?_
                clear hK K
                refine pure_ (i := 14) (N := some 27) (v := ?_) (a' := ?_) #[true, true, true, true, true, true, true, true, true, true, true, true, true, true, true, false] rfl rfl (any_of HT_.out (by kernel_rfl)) (fun _ _ _ h => h) (Or.inl ⟨by rfl, ?_⟩) ?_ ?_
                rotate_left
                · intro w'
                  go_simp
                  with_reducible rfl
                rotate_left
                · simp only [Act.put, List.setIfInBounds_toArray, List.set_cons_zero, List.set_cons_succ, i64_w, i32_w]
                  rfl
                refine last_ (i := 15) (N := none) #[true, true, true, true, true, true, true, true, true, true, true, true, true, true, true, true] rfl rfl (one_of HT_.out (by kernel_rfl)) (by decide) (fun K hK => ?_)
                refine skip_ (w1 := ?_) (by rfl) rfl ?_ ?_
                rotate_left
                · go_simp
                  rfl
                refine hK.out _ _ ?_
                clear hK K
                refine done_ (done_of HT_.out (by kernel_rfl)) ?_
                try go_wp2
                (try simp only [← hl0_1])
                go_roundg k1
                case measure => have := HK1.out; omega
                case rel => exact ⟨(y200), (wrap64 (x2_1 + 1)), (wrap64 (x3_1 - 1)), (by first | rfl | (simp; done) | (simp [*]; done)), (by first | rfl | (simp; done) | (simp [*]; done)), H', ⟨by have := HK1.out; omega⟩, ⟨by (try simp only [hl0_1]); (with_reducible repeat (first | apply Kd.R_alloc | apply Kd.R_drewN | apply Kd.R_drew)); exact HQ12.out⟩, ⟨by repeat (first | (with_reducible first | exact HK.out | apply Kept.alloc | apply Kept.drewN | apply Kept.drew | refine Kept.setCell ?_ HMgo8.out _ | refine Kept.setCell ?_ HMgo8.out _) | exact HK.out)⟩, ⟨by repeat (first | (with_reducible first | exact HB.out | apply below_alloc | apply pw_below_drewN | apply below_drew1 | refine below_set ?_ GB8.out | refine below_set ?_ GB8.out) | exact HB.out)⟩⟩
              · rw [if_neg c7] at H
                exact absurd H (by simp)
            · rw [if_neg c6] at H
              exact absurd H (by simp)
          · rw [if_neg c5] at H
            exact absurd H (by simp)
        · rw [if_neg c4] at H
          exact absurd H (by simp)
      · rw [if_neg c3] at H
        have c3b0 : decide (x2_1 < x3_1) = false := decide_eq_false c3
        clear c3
        obtain rfl := Option.some.inj H
        go_wp2
        first | go_end0 | ((try simp only [Exit.inBlock, Exit.then]); refine bodyPost_ret (results_none rfl _ _ _) rfl ?_)
        exact ⟨by first | rfl | (simp [errW_none, errW_some] <;> rfl) | (simp [*, errW_none, errW_some] <;> rfl), (by first | exact (by (with_reducible repeat (first | apply Kd.R_alloc | apply Kd.R_drewN | apply Kd.R_drew)); exact HO_0.out) | (simp only [hl0_1]; exact (by (with_reducible repeat (first | apply Kd.R_alloc | apply Kd.R_drewN | apply Kd.R_drew)); exact HO_0.out))), (bbq4 HB.out), (kkq4 HK.out)⟩

-- NOT PRINTED: function 40 (slices_rotateLeft_int)

-- NOT PRINTED: function 39 (slices_rotateRight_int)

/-! ### slices_Insert_int_int: function 36 (told by hand) -/
def slices_Insert_int_int.ren : Go.Shelf.Ren := ⟨fun | 21 => 36 | 27 => 38 | 28 => 39 | 35 => 40 | 39 => 41 | n => n, fun | 22 => 39 | n => n, fun | n => n⟩
theorem slices_Insert_int_int.lays : Go.Proofs.Lays2.n21 Try.prog slices_Insert_int_int.ren := {
  mixed := by kernel_rfl
  f21 := Try.func36.trans (congrArg some (by kernel_rfl))
  f27 := Try.func38.trans (congrArg some (by kernel_rfl))
  f28 := Try.func39.trans (congrArg some (by kernel_rfl))
  f35 := Try.func40.trans (congrArg some (by kernel_rfl))
  f39 := Try.func41.trans (congrArg some (by kernel_rfl))
  t0 := Try.underlying0
  a0 := Try.isAgg0
  z0 := Try.sizeOf0
  v0 := Try.zeroValue0
  t3 := Try.underlying3
  a3 := Try.isAgg3
  z3 := Try.sizeOf3
  v3 := Try.zeroValue3
  t4 := Try.underlying4
  a4 := Try.isAgg4
  z4 := Try.sizeOf4
  v4 := Try.zeroValue4
  t22 := Try.underlying39
  a22 := Try.isAgg39
  z22 := Try.sizeOf39
  v22 := Try.zeroValue39
  i3 := by kernel_rfl }
/-- one number ahead of all -/
def slices_Insert_int_int.f (l0 : List Int) (i : Int) (l2 : List Int) : Option (List Int) := if i = 0 ∧ l2.length = 1 ∧ l0.length < 17592186044416 then some (l2 ++ l0) else none
theorem slices_Insert_int_int.row {W : World} {base b n cap : Nat} {cur : Array Value} {xs : List Int} {ok : Nat → Prop} (hb : base ≤ b) (hh : W.heap[b]? = some (.cells cur 3 (0, 0))) (hn : xs.length = n) (hnc : n ≤ cap) (hcm : cap ≤ maxLen) (hcs : cur.size = cap)
    (ht : cur.toList.take n = xs.map (Value.int .i64)) (hok : ok b) : Kd.R (Kd.int .i64) 3 W base ok (.slice (some ⟨b, 0, none⟩) n cap) xs := by
  subst hn
  refine Kd.R_of_own (enc := Value.int .i64) (h1 := fun _ => rfl) ⟨by simp [encs], .inr ⟨b, cap, cur, rfl, hb, hh, hnc, hcm, by omega, by simpa [encs] using ht⟩⟩ (fun k hk => ?_)
  have : b = k := by simpa [Value.ownBlock] using hk
  exact this ▸ hok
theorem slices_Insert_int_int.far {W W1 : World} {b : Nat} (h1 : W1.os = W.os) (h2 : W1.tape = W.tape) (h3 : W1.output = W.output) (h4 : W1.heap.size = W.heap.size) (h5 : ∀ k, k ≠ b → W1.heap[k]? = W.heap[k]?) : W.grownBy W1 (some b) :=
  ⟨h1, h2, h3, by omega, fun k _ hk => h5 k (fun e => hk (by rw [e]))⟩
theorem slices_Insert_int_int.one (xs : List Int) : ∀ v ∈ xs.map (Value.int .i64), v.oneCell' = true := by
  intro v hv
  obtain ⟨x, _, rfl⟩ := List.mem_map.1 hv
  rfl
/-- where what is handed back is new -/
theorem slices_Insert_int_int.fresh {P0 P2 : Nat → Prop} {w0 w w' : World} {cap : Nat} {cur : Array Value} {xs : List Int} (hB : Below w0.heap.size w0 w) (hw : Below w.heap.size w w') (hh : w'.heap[w.heap.size]? = some (.cells cur 3 (0, 0))) (hnc : xs.length ≤ cap) (hcm : cap ≤ maxLen) (hcs : cur.size = cap)
    (ht : cur.toList.take xs.length = xs.map (Value.int .i64)) :
    Kd.R (Kd.int .i64) 3 w' w0.heap.size (fun k_ => (P0 k_ ∨ P2 k_) ∨ w.heap.size ≤ k_) (.slice (some ⟨w.heap.size, 0, none⟩) xs.length cap) xs ∧ Below w0.heap.size w0 w' ∧ Kept w w' (fun k_ => P0 k_ ∨ P2 k_) :=
  ⟨slices_Insert_int_int.row hB.size hh rfl hnc hcm hcs ht (.inr (Nat.le_refl _)), hB.trans (hw.mono hB.size), Kept.of_below hw _⟩
/-- where it is what was handed in -/
theorem slices_Insert_int_int.same {P0 P2 : Nat → Prop} {w0 w w' : World} {b cap : Nat} {cur : Array Value} {xs : List Int} (hB : Below w0.heap.size w0 w) (hg : w.grownBy w' (some b)) (hb : w0.heap.size ≤ b) (hP : P0 b) (hh : w'.heap[b]? = some (.cells cur 3 (0, 0))) (hnc : xs.length ≤ cap) (hcm : cap ≤ maxLen) (hcs : cur.size = cap)
    (ht : cur.toList.take xs.length = xs.map (Value.int .i64)) :
    Kd.R (Kd.int .i64) 3 w' w0.heap.size (fun k_ => (P0 k_ ∨ P2 k_) ∨ w.heap.size ≤ k_) (.slice (some ⟨b, 0, none⟩) xs.length cap) xs ∧ Below w0.heap.size w0 w' ∧ Kept w w' (fun k_ => P0 k_ ∨ P2 k_) :=
  ⟨slices_Insert_int_int.row hb hh rfl hnc hcm hcs ht (.inl (.inl hP)), pw_below_grown hB (some b) hB.size hg (fun k e => by injection e with e; rw [← e]; exact hb), Kept.of_grown hg (Kept.refl w _) (fun k e => by injection e with e; rw [← e]; exact .inl (.inl hP))⟩
set_option maxHeartbeats 4000000 in
theorem slices_Insert_int_int.calls (P0 : Nat → Prop) (v0 : Value) (l0 : List Int) (i : Int) (P2 : Nat → Prop) (v2 : Value) (l2 : List Int) (r : List Int) (w0 w : World) (hB : Below w0.heap.size w0 w)
    (ho0 : Kd.R (Kd.int .i64) 3 w w0.heap.size P0 v0 l0) (hp0 : ∀ k_, P0 k_ → ¬ P2 k_) (ho2 : Kd.R (Kd.int .i64) 3 w w0.heap.size P2 v2 l2) (hp2 : ∀ k_, P2 k_ → ¬ P0 k_) (h : slices_Insert_int_int.f l0 i l2 = some r) :
    Calls Try.prog 36 #[v0, .int .i64 i, v2] w fun e w' => ∃ v1_ : Value, e = .returned v1_ ∧ Kd.R (Kd.int .i64) 3 w' w0.heap.size (fun k_ => (P0 k_ ∨ P2 k_) ∨ w.heap.size ≤ k_) v1_ r ∧ Below w0.heap.size w0 w' ∧ Kept w w' (fun k_ => P0 k_ ∨ P2 k_) := by
  unfold slices_Insert_int_int.f at h
  split at h
  · rename_i hh
    obtain ⟨rfl, hl2, hlim⟩ := hh
    obtain rfl := Option.some.inj h
    clear h
    obtain ⟨x, rfl⟩ := List.length_eq_one_iff.1 hl2
    obtain ⟨vb, vc, rfl, hvb, hvl, cells2, hc2⟩ := Kd.R_form ho2 (by simp)
    have hPv : P2 vb := ho2.1 vb rfl
    have hvs : ∀ (j : Nat) v, ([x].map (Value.int .i64))[j]? = some v → w.cell? ⟨vb, 0 + j, none⟩ = some v := by
      intro j v hj
      have h3 := (Kd.R_celln (enc := Value.int .i64) (h1 := fun _ => rfl) 0 ho2 0 (by omega) (by simp)).1
      cases j with
      | zero =>
        obtain rfl : Value.int .i64 x = v := by simpa using hj
        simpa [rdOf] using h3
      | succ j => simp at hj
    have hshv : w.shape? vb = some (3, cells2.size) := by simp [World.shape?, hc2]
    obtain ⟨hok0, inner, ⟨hil, ho⟩, hrp⟩ := ho0
    rcases ho with ⟨rfl, hz⟩ | ⟨b, cap, cur, rfl, hbb, hbh, hnc, hcm, hcs, htk⟩
    · -- the nil slice
      obtain rfl := List.eq_nil_of_length_eq_zero hz
      have hmx : 1 ≤ maxLen := by decide
      refine (Any2.slices_Insert_int_end_grow slices_Insert_int_int.lays none 0 0 vb 0 1 vc [] ([x].map (Value.int .i64)) w (by omega) (by omega) (by omega) (by omega) rfl rfl (fun _ => rfl) (fun _ he => by cases he) hvs (slices_Insert_int_int.one _)).mono ?_
      rintro e w' ⟨rfl, rfl⟩
      have hge := grownCap_ge w (0 + 1) 0 (slices_Insert_int_int.ren.t 3)
      have hle := grownCap_le_maxLen w (0 + 1) 0 (slices_Insert_int_int.ren.t 3) hmx
      generalize grownCap w (0 + 1) 0 (slices_Insert_int_int.ren.t 3) = gc at hge hle ⊢
      exact ⟨_, rfl, slices_Insert_int_int.fresh (xs := [x]) hB (below_alloc (below_drew (Below.refl _ _)) _) (heap_alloc_new w.drew _) hge hle (by
        simp [Builtin.zeroCells, Value.cells]; omega) (by simp)⟩
    · have hszk : (Kd.int .i64).sz = 1 := rfl
      rw [hszk, Nat.mul_one] at hcs htk hil
      have hin : inner = l0.map (Value.int .i64) := by
        apply List.ext_getElem?
        intro j
        by_cases hj : j < l0.length
        · have h5 := hrp.2 j _ (List.getElem?_eq_getElem hj)
          rw [hszk, Nat.mul_one] at h5
          have h6 : (inner.drop j).take 1 = [Value.int .i64 l0[j]] := h5
          rw [List.getElem?_map, List.getElem?_eq_getElem hj, Option.map_some]
          have h7 := congrArg (fun l => l[0]?) h6
          simpa [List.getElem?_take, List.getElem?_drop] using h7
        · rw [List.getElem?_eq_none (by omega), List.getElem?_eq_none (by rw [List.length_map]; omega)]
      subst hin
      have hP0 : P0 b := hok0 b rfl
      have hne : vb ≠ b := fun e => hp0 b hP0 (e ▸ hPv)
      have hcm' : cap ≤ 9223372036854775807 := by simpa [maxLen] using hcm
      have hsp : ∀ j, j < cap → (w.cell? ⟨b, j, none⟩).isSome = true := fun j hj => by
        rw [blk_cell hbh j, Array.getElem?_eq_getElem (by omega)]; rfl
      have hfz : ∀ j, w.frozen? ⟨b, j, none⟩ = false := fun j => blk_frozen hbh j
      have hcs0 : ∀ (j : Nat) v, (l0.map (Value.int .i64))[j]? = some v → w.cell? ⟨b, 0 + j, none⟩ = some v := fun j v hj => by
        rw [← htk, List.getElem?_take] at hj
        split at hj
        · rw [Nat.zero_add, blk_cell hbh j, ← Array.getElem?_toList]; exact hj
        · cases hj
      have hmx : l0.length + 1 ≤ maxLen := by simp only [maxLen]; omega
      have hl1 : (l0.map (Value.int .i64)).length = l0.length := List.length_map _
      by_cases hn0 : l0.length = 0
      · obtain rfl := List.eq_nil_of_length_eq_zero hn0
        by_cases hroom : 1 ≤ cap
        · refine (Any2.slices_Insert_int_end_room slices_Insert_int_int.lays b 0 0 cap vb 0 1 vc ([x].map (Value.int .i64)) w (by omega) (by omega) hcm' rfl (fun j hj => by rw [Nat.zero_add]; exact hsp j (by omega)) (fun j hj => hfz _) hvs (slices_Insert_int_int.one _)).mono ?_
          rintro e w' ⟨rfl, rfl⟩
          obtain ⟨cur', h3, h4, h5⟩ := setCells_row ([x].map (Value.int .i64)) (0 + 0) w cur hbh (by simp; omega)
          obtain ⟨s1, s2, s3, s4⟩ := setCells_same b ([x].map (Value.int .i64)) (0 + 0) w
          exact ⟨_, rfl, slices_Insert_int_int.same (xs := [x]) hB (slices_Insert_int_int.far s1 s2 s3 s4 (fun k hk => setCells_far _ _ k hk)) hbb hP0 h3 hroom hcm (by rw [h4]; exact hcs) (by rw [h5]; simp)⟩
        · refine (Any2.slices_Insert_int_end_grow slices_Insert_int_int.lays (some ⟨b, 0, none⟩) 0 cap vb 0 1 vc [] ([x].map (Value.int .i64)) w (by omega) (by omega) (by omega) (by omega) rfl rfl (fun _ => rfl) (fun _ _ j v hj => by simp at hj) hvs (slices_Insert_int_int.one _)).mono ?_
          rintro e w' ⟨rfl, rfl⟩
          have hge := grownCap_ge w (0 + 1) cap (slices_Insert_int_int.ren.t 3)
          have hle := grownCap_le_maxLen w (0 + 1) cap (slices_Insert_int_int.ren.t 3) hmx
          generalize grownCap w (0 + 1) cap (slices_Insert_int_int.ren.t 3) = gc at hge hle ⊢
          exact ⟨_, rfl, slices_Insert_int_int.fresh (xs := [x]) hB (below_alloc (below_drew (Below.refl _ _)) _) (heap_alloc_new w.drew _) hge hle (by
            simp [Builtin.zeroCells, Value.cells]; omega) (by simp)⟩
      · by_cases hroom : l0.length + 1 ≤ cap
        · refine (Any2.slices_Insert_int_shift slices_Insert_int_int.lays b 0 l0.length cap 0 vb 0 1 vc (l0.map (Value.int .i64)) ([x].map (Value.int .i64)) w (by omega) (by omega) hroom hcm' hne hl1 rfl hcs0 (fun j hj => by rw [Nat.zero_add]; exact hsp j (by omega)) (fun j hj => hfz _) hvs (slices_Insert_int_int.one _) (slices_Insert_int_int.one _) 3 3 cells2.size cur.size hshv (by simp [World.shape?, hbh]) (by omega) (blk_frozen hc2 _) (blk_frozen hc2 _)).mono ?_
          rintro e w' ⟨rfl, rfl⟩
          have hbh' : w.drew.heap[b]? = some (.cells cur 3 (0, 0)) := hbh
          obtain ⟨cur1, h3, h4, h5⟩ := setCells_row ((l0.map (Value.int .i64)).drop 0) (0 + (0 + 1)) w.drew cur hbh' (by simp; omega)
          obtain ⟨s1, s2, s3, s4⟩ := setCells_same b ((l0.map (Value.int .i64)).drop 0) (0 + (0 + 1)) w.drew
          have f1 := fun k hk => setCells_far (g := b) ((l0.map (Value.int .i64)).drop 0) (0 + (0 + 1)) (w := w.drew) k hk
          generalize w.drew.setCells b (0 + (0 + 1)) ((l0.map (Value.int .i64)).drop 0) = W1 at h3 s1 s2 s3 s4 f1 ⊢
          obtain ⟨cur2, q3, q4, q5⟩ := setCells_row ([x].map (Value.int .i64)) (0 + 0) W1 cur1 h3 (by simp; omega)
          obtain ⟨t1, t2, t3, t4⟩ := setCells_same b ([x].map (Value.int .i64)) (0 + 0) W1
          refine ⟨_, rfl, slices_Insert_int_int.same (xs := [x] ++ l0) hB (slices_Insert_int_int.far (t1.trans s1) (t2.trans s2) (t3.trans s3) (t4.trans s4) (fun k hk => (setCells_far _ _ k hk).trans (f1 k hk))) hbb hP0 q3 (by simpa using hroom) hcm (by rw [q4, h4]; exact hcs) ?_⟩
          obtain ⟨y, ys, hy⟩ : ∃ y ys, cur.toList = y :: ys := by
            cases hc : cur.toList with
            | nil => rw [← Array.length_toList, hc] at hcs; simp at hcs; omega
            | cons y ys => exact ⟨y, ys, rfl⟩
          rw [q5, h5, hy]
          simp [hl1]
        · refine (Any2.slices_Insert_int_grow slices_Insert_int_int.lays b 0 l0.length cap 0 vb 0 1 vc (l0.map (Value.int .i64)) ([x].map (Value.int .i64)) w (by omega) (by omega) hnc (by omega) (by omega) hl1 rfl hcs0 hvs (slices_Insert_int_int.one _) (slices_Insert_int_int.one _)).mono ?_
          rintro e w' ⟨rfl, rfl⟩
          have hge := grownCap_ge w (l0.length + 1) cap (slices_Insert_int_int.ren.t 3)
          have hle := grownCap_le_maxLen w (l0.length + 1) cap (slices_Insert_int_int.ren.t 3) hmx
          generalize grownCap w (l0.length + 1) cap (slices_Insert_int_int.ren.t 3) = gc at hge hle ⊢
          generalize hcur0 : ((l0.map (Value.int .i64)).take 0).toArray ++ Builtin.zeroCells (Value.int .i64 0).cells (l0.length + 1 - 0) ++ Builtin.zeroCells (Value.int .i64 0).cells (gc - (l0.length + 1)) = cur0
          have hsz0 : cur0.size = gc := by
            rw [← hcur0]
            simp [Builtin.zeroCells, Value.cells]; omega
          clear hcur0
          have hb0 : Below w.heap.size w (w.alloc (.cells cur0 (slices_Insert_int_int.ren.t 3))).drew := below_drew (below_alloc (Below.refl _ _) _)
          have hh0 : (w.alloc (.cells cur0 (slices_Insert_int_int.ren.t 3))).drew.heap[w.heap.size]? = some (.cells cur0 3 (0, 0)) := heap_alloc_new w _
          generalize (w.alloc (.cells cur0 (slices_Insert_int_int.ren.t 3))).drew = W0 at hb0 hh0 ⊢
          obtain ⟨cur1, h3, h4, h5⟩ := setCells_row ([x].map (Value.int .i64)) 0 W0 cur0 hh0 (by simp; omega)
          obtain ⟨s1, s2, s3, s4⟩ := setCells_same w.heap.size ([x].map (Value.int .i64)) 0 W0
          have f1 := fun k hk => setCells_far (g := w.heap.size) ([x].map (Value.int .i64)) 0 (w := W0) k hk
          generalize W0.setCells w.heap.size 0 ([x].map (Value.int .i64)) = W1 at h3 s1 s2 s3 s4 f1 ⊢
          have hb1 : Below w.heap.size w W1.drew := below_drew (pw_below_grown hb0 (some w.heap.size) hb0.size (slices_Insert_int_int.far s1 s2 s3 s4 f1) (fun k e => by injection e with e; omega))
          have h3' : W1.drew.heap[w.heap.size]? = some (.cells cur1 3 (0, 0)) := h3
          generalize W1.drew = W2 at hb1 h3' ⊢
          obtain ⟨cur2, q3, q4, q5⟩ := setCells_row ((l0.map (Value.int .i64)).drop 0) (0 + 1) W2 cur1 h3' (by simp; omega)
          obtain ⟨t1, t2, t3, t4⟩ := setCells_same w.heap.size ((l0.map (Value.int .i64)).drop 0) (0 + 1) W2
          have hb2 := pw_below_grown hb1 (some w.heap.size) hb1.size (slices_Insert_int_int.far t1 t2 t3 t4 (fun k hk => setCells_far _ _ k hk)) (fun k e => by injection e with e; omega)
          refine ⟨_, rfl, slices_Insert_int_int.fresh (xs := [x] ++ l0) hB hb2 q3 hge hle (by rw [q4, h4]; exact hsz0) ?_⟩
          rw [q5, h5]
          simp [hl1]
  · cases h

/-! ### history_History_Loss: function 31 -/
def history_History_Loss.f (s0_0 : Int) (l0_1 : List Int) : Option (Bool × Int × List Int) := (slices_Insert_int_int.f l0_1 0 (([s0_0] : List Int))).bind fun t208 => (if 0 ≤ (mn (t208.length : Int) 8) then (if (mn (t208.length : Int) 8) ≤ (t208.length : Int) then (some (((l0_1.length : Int) == 0), 0, (t208.take ((mn (t208.length : Int) 8) : Int).toNat))) else (none)) else (none))
def history_History_Loss.T2 : Bool × List (List Nat × List Nat) := (true, [([], []), ([], []), ([1], [1]), ([2], [2]), ([3], [3]), ([], []), ([5], [5]), ([6], [6]), ([7], [7]), ([8], [8]), ([4, 9], [4, 9]), ([0, 0, 1, 2, 3, 4, 5, 6, 7, 8, 9, 10], [0]), ([11, 0, 1, 2, 3, 4, 5, 6, 7, 8, 9, 10], [11]), ([12, 10, 10, 0, 1, 2, 3, 4, 5, 6, 7, 8, 9, 10], [10, 12])])
def history_History_Loss.B2 : List Nat := [0, 0, 2, 6, 14, 0, 32, 96, 224, 480, 1022, 2047, 4095, 8191]
theorem history_History_Loss.tab2 : rtab .any (opsOf Try.f31 2) = history_History_Loss.T2 := by kernel_rfl
theorem history_History_Loss.bits2 : waitsOk history_History_Loss.T2.2 history_History_Loss.B2 = true := by kernel_rfl
def history_History_Loss.T3 : Bool × List (List Nat × List Nat) := (true, [([], []), ([], []), ([1], [1]), ([2], [2]), ([3], [3]), ([], []), ([5], [5]), ([6], [6]), ([7], [7]), ([8], [8]), ([9], [9]), ([4, 10], [4, 10]), ([0, 0, 1, 2, 3, 4, 5, 6, 7, 8, 9, 10, 11], [0]), ([12, 0, 1, 2, 3, 4, 5, 6, 7, 8, 9, 10, 11], [12]), ([13, 11, 0, 1, 2, 3, 4, 5, 6, 7, 8, 9, 10, 11], [11, 13])])
def history_History_Loss.B3 : List Nat := [0, 0, 2, 6, 14, 0, 32, 96, 224, 480, 992, 2046, 4095, 8191, 16383]
theorem history_History_Loss.tab3 : rtab .any (opsOf Try.f31 3) = history_History_Loss.T3 := by kernel_rfl
theorem history_History_Loss.bits3 : waitsOk history_History_Loss.T3.2 history_History_Loss.B3 = true := by kernel_rfl
set_option maxHeartbeats 8000000 in
set_option maxRecDepth 100000 in
theorem history_History_Loss.calls (g : Nat) (s0_0 : Int) (P0_1_ : Nat → Prop) (u9000_ : Value) (l0_1 : List Int) (r1 : Bool) (r2 : Int) (r3 : List Int) (w0 w : World) (hI : w.heap[g]? = some (.cells #[.int .i64 s0_0, u9000_] 68 (0, 0))) (hG : w0.heap.size ≤ g) (hB : Below w0.heap.size w0 w) (ho0_1 : Kd.R (Kd.int .i64) 3 w w0.heap.size P0_1_ u9000_ l0_1) (h : history_History_Loss.f s0_0 l0_1 = some (r1, r2, r3)) :
    Calls Try.prog 31 #[.pointer (some ⟨g, 0, none⟩)] w fun e w' => ∃ v2_ : Value, e = .returned (.bool r1) ∧ Kd.R (Kd.int .i64) 3 w' w0.heap.size (fun k_ => (P0_1_ k_ ∨ w.heap.size ≤ k_)) v2_ r3 ∧ w'.heap[g]? = some (.cells #[.int .i64 r2, v2_] 68 (0, 0)) ∧ Below w0.heap.size w0 w' ∧ Kept w w' (fun k_ => (P0_1_ k_) ∨ k_ = g) := by
  have HO0_1 := Aside0.mk (show Kd.R (Kd.int .i64) 3 w w0.heap.size (fun k_ => (P0_1_ k_ ∨ w.heap.size ≤ k_)) u9000_ l0_1 from Kd.R_mono ho0_1 (fun k_ hk => (.inl hk)))
  have BK0 := Aside0.mk hI
  have GE0 := Aside0.mk hG
  clear hI hG
  have HK := Aside0.mk (Kept.refl w (fun k_ => (P0_1_ k_) ∨ k_ = g))
  have HW0 := Aside0.mk hB.size
  have HB := Aside0.mk hB
  clear hB
  have H : ((slices_Insert_int_int.f l0_1 0 (([s0_0] : List Int))).bind fun t208 => (if 0 ≤ (mn (t208.length : Int) 8) then (if (mn (t208.length : Int) 8) ≤ (t208.length : Int) then (some (((l0_1.length : Int) == 0), 0, (t208.take ((mn (t208.length : Int) 8) : Int).toNat))) else (none)) else (none))) = some (r1, r2, r3) := h
  clear h
  obtain ⟨y205, hy205⟩ : ∃ y_ : List Int, y_ = (([s0_0] : List Int)) := ⟨_, rfl⟩
  replace H : ((slices_Insert_int_int.f l0_1 0 y205).bind fun t208 => (if 0 ≤ (mn (t208.length : Int) 8) then (if (mn (t208.length : Int) 8) ≤ (t208.length : Int) then (some (((l0_1.length : Int) == 0), 0, (t208.take ((mn (t208.length : Int) 8) : Int).toNat))) else (none)) else (none))) = some (r1, r2, r3) := by first | (rw [hy205]; with_reducible exact H) | (have H2_ := (Option.bind_some _ _).symm.trans H; rw [hy205]; with_reducible exact H2_) | (have H2_ := (Option.bind_some _ _).symm.trans H; with_reducible exact H2_) | with_reducible exact H | (rw [hy205]; exact H) | exact H
  have Ny205 := Aside0.mk hy205
  clear hy205
  replace H := Option.bind_eq_some_iff.mp H
  obtain ⟨t208, A20, H⟩ := H
  replace H : (if 0 ≤ (mn (t208.length : Int) 8) then (if (mn (t208.length : Int) 8) ≤ (t208.length : Int) then (some (((l0_1.length : Int) == 0), 0, (t208.take ((mn (t208.length : Int) 8) : Int).toNat))) else (none)) else (none)) = some (r1, r2, r3) := H
  have A2 := Aside0.mk A20
  clear A20
  obtain ⟨ji3, hji3⟩ : ∃ j_ : Int, (mn (t208.length : Int) 8) = j_ := ⟨_, rfl⟩
  replace H : (if 0 ≤ (ji3) then (if (ji3) ≤ (t208.length : Int) then (some (((l0_1.length : Int) == 0), 0, (t208.take ((ji3) : Int).toNat))) else (none)) else (none)) = some (r1, r2, r3) := by first | (rw [hji3] at H; exact H) | (simp only [hji3] at H ⊢; exact H)
  (try rw [hji3] at A2)
  (try (have hji3h : ji3 ≤ 8 := by (rw [← hji3]; unfold mn; (repeat' split) <;> omega)))
  (try (have hji3g : ji3 ≤ 64 := by omega))
  (try (have hji3l : 0 ≤ ji3 := by (rw [← hji3]; unfold mn; (repeat' split) <;> omega)))
  (try (have hji3m : 0 ≤ ji3 := by omega))
  have hji3_ : (if 8 < (t208.length : Int) then 8 else (t208.length : Int)) = ji3 := hji3
  by_cases c4 : 0 ≤ (ji3)
  · rw [if_pos c4] at H
    have c4b0 := eq_true c4
    have c4b1 : decide (0 ≤ (ji3)) = true := decide_eq_true c4
    clear c4
    by_cases c5 : (ji3) ≤ (t208.length : Int)
    · rw [if_pos c5] at H
      have c5b0 := eq_true c5
      have c5b1 : decide ((ji3) ≤ (t208.length : Int)) = true := decide_eq_true c5
      clear c5
      obtain ⟨y211, hy211⟩ : ∃ y_ : List Int, y_ = (t208.take ((ji3) : Int).toNat) := ⟨_, rfl⟩
      replace H : (some (((l0_1.length : Int) == 0), 0, y211)) = some (r1, r2, r3) := by first | (rw [hy211]; with_reducible exact H) | (have H2_ := (Option.bind_some _ _).symm.trans H; rw [hy211]; with_reducible exact H2_) | (have H2_ := (Option.bind_some _ _).symm.trans H; with_reducible exact H2_) | with_reducible exact H | (rw [hy211]; exact H) | exact H
      have Ny211 := Aside0.mk hy211
      clear hy211
      simp only [Option.some.injEq, Prod.mk.injEq] at H
      obtain ⟨rfl, rfl, rfl⟩ := H
      obtain ⟨hcz6_0, hcz6_1⟩ := bc2q4 BK0.out
      have hfz6_0 := fun i_ => blk_frozen BK0.out i_
      obtain ⟨Ao7, co7, eo7⟩ := Kd.R_slice HO0_1.out
      subst eo7
      go_enter Try.func31, Try.ntmps31
      try go_wp2
      have n0_ := Aside0.mk (Kd.R_drew HO0_1.out)
      have n1_ := Aside0.mk (blk_drew BK0.out)
      have n2_ := Aside0.mk (Kept.drew HK.out)
      have n3_ := Aside0.mk (below_drew1 HB.out)
      clear HO0_1
      clear BK0
      clear HK
      clear HB
      have HO0_1 := n0_
      have BK0 := n1_
      have HK := n2_
      have HB := n3_
      clear n0_ n1_ n2_ n3_
      refine start_ (n := 14) (S := fun w' => w'.cell? ⟨g, 0, none⟩ = some (.int .i64 s0_0) ∧ w'.cell? ⟨g, 1, none⟩ = some (.slice Ao7 l0_1.length co7)) (ds := [13]) #[false, false, false, false, false, false, false, false, false, false, false, false, false, false] (by kernel_rfl) rfl rfl ⟨(blk_cell BK0.out 0).trans rfl, (blk_cell BK0.out 1).trans rfl⟩ (fun hHeld => ?_); refine with_tabW history_History_Loss.tab2 history_History_Loss.bits2 (fun HT_ HW_ => ?_)
      generalize w.drew = w8 at HO0_1 BK0 HK HB hHeld ⊢
      refine pure_ (i := 0) (N := some 10) (v := ?_) (a' := ?_) #[true, false, false, false, false, false, false, false, false, false, false, false, false, false] rfl rfl (any_of HT_.out (by kernel_rfl)) (fun _ _ _ h => h) (Or.inl ⟨by rfl, ?_⟩) ?_ ?_
      rotate_left
      · intro w'
        go_simp
        with_reducible rfl
      rotate_left
      · simp only [Act.put, List.setIfInBounds_toArray, List.set_cons_zero, List.set_cons_succ, i64_w, i32_w]
        rfl
      refine pure_ (i := 1) (N := some 11) (v := ?_) (a' := ?_) #[true, true, false, false, false, false, false, false, false, false, false, false, false, false] rfl rfl (any_of HT_.out (by kernel_rfl)) (fun _ _ _ h => h) (Or.inl ⟨by rfl, ?_⟩) ?_ ?_
      rotate_left
      · intro w'
        go_simp
        with_reducible rfl
      rotate_left
      · simp only [Act.put, List.setIfInBounds_toArray, List.set_cons_zero, List.set_cons_succ, i64_w, i32_w]
        rfl
      refine pure_ (i := 2) (N := some 12) (v := ?_) (a' := ?_) #[true, true, true, false, false, false, false, false, false, false, false, false, false, false] rfl rfl (any_of HT_.out (by kernel_rfl)) (fun _ _ _ h => h) (Or.inl ⟨by rfl, ?_⟩) ?_ ?_
      rotate_left
      · intro w'
        go_simp
        with_reducible rfl
      rotate_left
      · simp only [Act.put, List.setIfInBounds_toArray, List.set_cons_zero, List.set_cons_succ, i64_w, i32_w]
        rfl
      refine pure_ (i := 3) (N := some 13) (v := ?_) (a' := ?_) #[true, true, true, true, false, false, false, false, false, false, false, false, false, false] rfl rfl (any_of HT_.out (by kernel_rfl)) (fun _ _ _ h => h) (Or.inl ⟨by rfl, ?_⟩) ?_ ?_
      rotate_left
      · intro w'
        go_simp
        with_reducible rfl
      rotate_left
      · simp only [Act.put, List.setIfInBounds_toArray, List.set_cons_zero, List.set_cons_succ, i64_w, i32_w]
        rfl
      refine pure_ (i := 5) (N := some 15) (v := ?_) (a' := ?_) #[true, true, true, true, false, true, false, false, false, false, false, false, false, false] rfl rfl (any_of HT_.out (by kernel_rfl)) (fun _ _ _ h => h) (Or.inl ⟨by rfl, ?_⟩) ?_ ?_
      rotate_left
      · intro w'
        go_simp
        with_reducible rfl
      rotate_left
      · simp only [Act.put, List.setIfInBounds_toArray, List.set_cons_zero, List.set_cons_succ, i64_w, i32_w]
        rfl
      refine pure_ (i := 6) (N := some 16) (v := ?_) (a' := ?_) #[true, true, true, true, false, true, true, false, false, false, false, false, false, false] rfl rfl (any_of HT_.out (by kernel_rfl)) (fun _ _ _ h => h) (Or.inl ⟨by rfl, ?_⟩) ?_ ?_
      rotate_left
      · intro w'
        go_simp
        with_reducible rfl
      rotate_left
      · simp only [Act.put, List.setIfInBounds_toArray, List.set_cons_zero, List.set_cons_succ, i64_w, i32_w]
        rfl
      refine pure_ (i := 7) (N := some 17) (v := ?_) (a' := ?_) #[true, true, true, true, false, true, true, true, false, false, false, false, false, false] rfl rfl (any_of HT_.out (by kernel_rfl)) (fun _ _ _ h => h) (Or.inl ⟨by rfl, ?_⟩) ?_ ?_
      rotate_left
      · intro w'
        go_simp
        with_reducible rfl
      rotate_left
      · simp only [Act.put, List.setIfInBounds_toArray, List.set_cons_zero, List.set_cons_succ, i64_w, i32_w]
        rfl
      refine take_ (i := 4) (N := some 14) (v := ?_) (a' := ?_) #[true, true, true, true, true, true, true, true, false, false, false, false, false, false] rfl rfl (take_ofW HT_.out HW_.out (by kernel_rfl)) (fun _ _ _ h => h) (Or.inl ⟨by rfl, ?_⟩) hHeld ?_ ?_
      rotate_left
      · rintro w' ⟨s0, s1⟩
        go_simp
        with_reducible rfl
      rotate_left
      · simp only [Act.put, List.setIfInBounds_toArray, List.set_cons_zero, List.set_cons_succ, i64_w, i32_w]
        rfl
      refine take_ (i := 8) (N := some 18) (v := ?_) (a' := ?_) #[true, true, true, true, true, true, true, true, true, false, false, false, false, false] rfl rfl (take_ofW HT_.out HW_.out (by kernel_rfl)) (fun _ _ _ h => h) (Or.inl ⟨by rfl, ?_⟩) hHeld ?_ ?_
      rotate_left
      · rintro w' ⟨s0, s1⟩
        go_simp
        with_reducible rfl
      rotate_left
      · simp only [Act.put, List.setIfInBounds_toArray, List.set_cons_zero, List.set_cons_succ, i64_w, i32_w]
        rfl
      refine one_ (i := 9) (N := some 19) #[true, true, true, true, true, true, true, true, true, true, false, false, false, false] rfl rfl (one_of HT_.out (by kernel_rfl)) (by decide) (fun K hK => ?_)
      refine Kd.R_lit_step (Kd.int .i64) _ 3 ?hg (N := 19) ?hd (xs := ([s0_0] : List Int)) (inner := [.int .i64 s0_0]) (ok := fun _ => True) (okp := fun _ => True) ?hr ?hp (fun _ hk => hk) trivial (Below.refl _ _) (Nat.le_refl _) (by simp) ?_; (case hd => rfl); (case hg => rfl); (case hr => first | (go_simp; done) | (go_simp; rfl)); (case hp => exact (Reps.one (show Kd.M (Kd.int .i64) _ _ _ s0_0 [.int .i64 s0_0] from rfl) (Reps.none _ _)))
      intro v206 w9 ho10 hb hg_ hnew_
      clear hg_ hnew_
      (first | rw [← Ny205.out] at ho10 | (simp only [Int.reduceToNat] at ho10; rw [← Ny205.out] at ho10))
      have n0_ := Aside0.mk (Kd.R_elder' (by (with_reducible repeat (first | apply Kd.R_alloc | apply Kd.R_drewN | apply Kd.R_drew)); exact HO0_1.out) (Kd.R_base ho10) hb)
      have n1_ := Aside0.mk (Kd.R_lower (Kd.R_new' (Kd.R_newM (M := fun k_ => (P0_1_ k_ ∨ w.heap.size ≤ k_)) ho10 (by first | exact HK.out.1 | exact (show Kept w _ (fun k_ => (P0_1_ k_) ∨ k_ = g) from (kkq4 HK.out)).1) (fun k_ h_ => .inr h_)) (Kd.R_lt (by (with_reducible repeat (first | apply Kd.R_alloc | apply Kd.R_drewN | apply Kd.R_drew)); exact HO0_1.out))) (below_size ((bbq4 HB.out))))
      have n2_ := Aside0.mk (blk_below (bpq4 BK0.out) hb)
      have n3_ := Aside0.mk (Kept.below (S := (fun k_ => (P0_1_ k_) ∨ k_ = g)) ((kkq4 HK.out)) hb)
      have n4_ := Aside0.mk (below_step ((bbq4 HB.out)) hb)
      clear HO0_1
      clear BK0
      clear HK
      clear HB
      have HO0_1 := n0_
      have HO207 := n1_
      have BK0 := n2_
      have HK := n3_
      have HB := n4_
      clear n0_ n1_ n2_ n3_ n4_
      clear hb ho10
      obtain ⟨Ao11, co11, eo11⟩ := Kd.R_slice HO207.out
      (first | subst eo11 | (injection eo11 with f1_ f2_ f3_; have f4_ := f1_.symm; have f5_ := f3_.symm; clear f1_ f2_ f3_; subst f4_; subst f5_))
      refine hK.out _ _ ⟨(blk_cell BK0.out 0).trans rfl, (blk_cell BK0.out 1).trans rfl⟩ (fun hHeld => ?_)
      clear hK K
      refine norm_ (a' := ?_) ?_ ?_
      rotate_left
      · show Act.put _ (some 19) _ = _
        simp only [Act.put, List.setIfInBounds_toArray, List.set_cons_zero, List.set_cons_succ, i64_w, i32_w]
        rfl
      refine one_ (i := 10) (N := some 20) #[true, true, true, true, true, true, true, true, true, true, true, false, false, false] rfl rfl (one_of HT_.out (by kernel_rfl)) (by decide) (fun K hK => ?_)
      refine goes_ Try.func36 (by kernel_rfl) rfl #[.slice Ao7 l0_1.length co7, .int .i64 0, .slice Ao11 y205.length co11] (by rfl) rfl rfl (by (try simp only [List.map_toArray, List.map_cons, List.map_nil]); first | done | rfl | (simp only [List.length_drop, List.length_take]; rfl)) ?_
      with_reducible refine (slices_Insert_int_int.calls (fun k_ => some k_ = (.slice Ao7 l0_1.length co7 : Value).ownBlock) (.slice Ao7 l0_1.length co7) l0_1 0 (fun k_ => some k_ = (.slice Ao11 y205.length co11 : Value).ownBlock) (.slice Ao11 y205.length co11) y205 t208 w0 _ ?side1 ?side2 ?side3 ?side4 ?side5 A2.out).mono ?_
      (case side1 => repeat (first | (with_reducible first | exact HB.out | apply below_alloc | apply pw_below_drewN | apply below_drew1 | refine below_set ?_ GE0.out) | exact HB.out))
      (case side2 => exact Kd.R_tight rfl HO0_1.out)
      (case side3 => exact fun k_ e_ => (HO0_1.out.1 k_ e_.symm).2)
      (case side4 => exact Kd.R_tight rfl HO207.out)
      (case side5 => exact fun k_ e_ => (HO207.out.1 k_ e_.symm).2)
      rintro e w12 ⟨v209, rfl, ho0, hb, hkp⟩
      refine ⟨_, rfl, ?_⟩
      have n0_ := Aside0.mk (blk_kept (by exact bpq4 BK0.out) hkp (fun hs_ => Or.elim hs_ (fun e_ => (fun e_ => (Kd.R_ne HO0_1.out BK0.out (by decide)) e_) e_) (fun e_ => (fun e_ => (Kd.R_ne HO207.out BK0.out (by decide)) e_) e_)))
      have n1_ := Aside0.mk (Kd.R_mono (ok' := fun k_ => (P0_1_ k_ ∨ w.heap.size ≤ k_)) ho0 (fun k_ hk_ => Or.elim hk_ (fun hs_ => Or.elim hs_ (fun hs_ => (HO0_1.out.1 k_ (hs_).symm).1) (fun hs_ => (HO207.out.1 k_ (hs_).symm).1.1)) (fun hn_ => (.inr (Nat.le_trans (by first | exact HK.out.1 | exact (show Kept w _ (fun k_ => (P0_1_ k_) ∨ k_ = g) from (kkq4 HK.out)).1) hn_)))))
      have n2_ := Aside0.mk (Kept.then_ (S := (fun k_ => (P0_1_ k_) ∨ k_ = g)) ((kkq4 HK.out)) hkp (fun k_ hs_ => Or.elim hs_ (fun e_ => (fun e_ => Or.imp_left (fun h_ => .inl (h_)) ((HO0_1.out.1 k_ e_.symm).1)) e_) (fun e_ => (fun e_ => Or.imp_left (fun h_ => .inl (h_)) ((HO207.out.1 k_ e_.symm).1.1)) e_)))
      have n3_ := Aside0.mk (hb)
      clear BK0
      clear HK
      clear HB
      clear HO0_1
      clear HO207
      have BK0 := n0_
      have HO210 := n1_
      have HK := n2_
      have HB := n3_
      clear n0_ n1_ n2_ n3_
      (try clear hb)
      (try clear hkp)
      (try clear ho0)
      obtain ⟨Ao13, co13, eo13⟩ := Kd.R_slice HO210.out
      (first | subst eo13 | (injection eo13 with f1_ f2_ f3_; have f4_ := f1_.symm; have f5_ := f3_.symm; clear f1_ f2_ f3_; subst f4_; subst f5_))
      refine hK.out _ _ ⟨(blk_cell BK0.out 0).trans rfl, (blk_cell BK0.out 1).trans rfl⟩ (fun hHeld => ?_)
      clear hK K
      refine norm_ (a' := ?_) ?_ ?_
      rotate_left
      · show Act.put _ (some 20) _ = _
        simp only [Act.put, List.setIfInBounds_toArray, List.set_cons_zero, List.set_cons_succ, i64_w, i32_w]
        rfl
      refine pure_ (i := 11) (N := some 21) (v := ?_) (a' := ?_) #[true, true, true, true, true, true, true, true, true, true, true, true, false, false] rfl rfl (any_of HT_.out (by kernel_rfl)) (fun _ _ _ h => h) (Or.inl ⟨by rfl, ?_⟩) ?_ ?_
      rotate_left
      · intro w'
        go_simp
        with_reducible rfl
      rotate_left
      · simp only [Act.put, List.setIfInBounds_toArray, List.set_cons_zero, List.set_cons_succ, i64_w, i32_w]
        rfl
      refine pure_ (i := 12) (N := some 22) (v := ?_) (a' := ?_) #[true, true, true, true, true, true, true, true, true, true, true, true, true, false] rfl rfl (any_of HT_.out (by kernel_rfl)) (fun _ _ _ h => h) (Or.inl ⟨by rfl, ?_⟩) ?_ ?_
      rotate_left
      · intro w'
        go_simp
        with_reducible rfl
      rotate_left
      · simp only [Act.put, List.setIfInBounds_toArray, List.set_cons_zero, List.set_cons_succ, i64_w, i32_w]
        rfl
      refine last_ (i := 13) (N := none) #[true, true, true, true, true, true, true, true, true, true, true, true, true, true] rfl rfl (one_of HT_.out (by kernel_rfl)) (by decide) (fun K hK => ?_)
      have hs14 : w12.cell? ⟨g, 1, none⟩ = some (.slice Ao7 l0_1.length co7) := (blk_cell BK0.out 1).trans rfl
      have hfs14 := blk_frozen BK0.out 1
      refine skip_ (w1 := ?_) (by rfl) rfl ?_ ?_
      rotate_left
      · go_simp
        rfl
      refine hK.out _ _ ?_
      clear hK K
      refine done_ (done_of HT_.out (by kernel_rfl)) ?_
      try go_wp2
      have n0_ : Aside0 (Kd.R (Kd.int .i64) 3 (w12.setCell ⟨g, 1, none⟩ (.slice Ao13 t208.length co13)) w0.heap.size (fun k_ => (P0_1_ k_ ∨ w.heap.size ≤ k_)) (.slice Ao13 t208.length co13) t208) := ⟨by (with_reducible repeat (first | apply Kd.R_alloc | apply Kd.R_drewN | apply Kd.R_drew)); exact Kd.R_mono (Kd.R_far (Kd.R_types HO210.out BK0.out (by decide)) (fun _ hk => hk.2) _) (fun _ hk => hk.1)⟩
      have n1_ : Aside0 ((w12.setCell ⟨g, 1, none⟩ (.slice Ao13 t208.length co13)).heap[g]? = some (.cells #[.int .i64 s0_0, .slice Ao13 t208.length co13] 68 (0, 0))) := ⟨by refine bzq4 ?_; refine btq4 (i := 1) ?_; exact ⟨_, bpq4 BK0.out, rfl⟩⟩
      have n2_ : Aside0 (Kept w (w12.setCell ⟨g, 1, none⟩ (.slice Ao13 t208.length co13)) (fun k_ => (P0_1_ k_) ∨ k_ = g)) := ⟨(kkq4 HK.out)⟩
      have n3_ : Aside0 (Below w0.heap.size w0 (w12.setCell ⟨g, 1, none⟩ (.slice Ao13 t208.length co13))) := ⟨(bbq4 HB.out)⟩
      (try clear HO210)
      (try clear BK0)
      (try clear HK)
      (try clear HB)
      generalize (w12.setCell ⟨g, 1, none⟩ (.slice Ao13 t208.length co13)) = w15 at n0_ n1_ n2_ n3_ ⊢
      have HO210 := n0_
      have BK0 := n1_
      have HK := n2_
      have HB := n3_
      clear n0_ n1_ n2_ n3_
      have n0_ := Aside0.mk (Kd.R_drew HO210.out)
      have n1_ := Aside0.mk (blk_drew BK0.out)
      have n2_ := Aside0.mk (Kept.drew HK.out)
      have n3_ := Aside0.mk (below_drew1 HB.out)
      clear HO210
      clear BK0
      clear HK
      clear HB
      have HO210 := n0_
      have BK0 := n1_
      have HK := n2_
      have HB := n3_
      clear n0_ n1_ n2_ n3_
      have q17 : ((ji3) : Int) ≤ ((t208.length : Int) : Int) := of_decide_eq_true (by first | (with_reducible assumption) | assumption)
      obtain ⟨i017, hi017, _, hsz17, _⟩ := info_parts info3
      have hcut17 := cut_to (P := Try.prog) 39 3 .i64 Try.underlying39 hi017 Ao13 t208.length co13 (ji3) (of_decide_eq_true (by first | (with_reducible assumption) | assumption)) q17 (Kd.R_reads' HO210.out).2.1
      have hr17 := Kd.R_take (m := ((ji3) : Int).toNat) HO210.out (by omega)
      have hy17 : y211.length = ((ji3) : Int).toNat := (by rw [Ny211.out, List.length_take]; omega)
      rw [← Ny211.out] at hr17
      rw [← hy17] at hr17 hcut17
      clear hy17 hi017 hsz17 HO210
      have HO213 := Aside0.mk hr17
      clear hr17
      replace q17 := eq_true q17
      refine start_ (n := 15) (S := fun w' => w'.cell? ⟨g, 0, none⟩ = some (.int .i64 s0_0) ∧ w'.cell? ⟨g, 1, none⟩ = some (.slice Ao13 t208.length co13)) (ds := [14]) #[false, false, false, false, false, false, false, false, false, false, false, false, false, false, false] (by kernel_rfl) rfl rfl ⟨(blk_cell BK0.out 0).trans rfl, (blk_cell BK0.out 1).trans rfl⟩ (fun hHeld => ?_); refine with_tabW history_History_Loss.tab3 history_History_Loss.bits3 (fun HT_ HW_ => ?_)
      generalize w15.drew = w16 at BK0 HK HB HO213 hHeld ⊢
      refine pure_ (i := 0) (N := some 23) (v := ?_) (a' := ?_) #[true, false, false, false, false, false, false, false, false, false, false, false, false, false, false] rfl rfl (any_of HT_.out (by kernel_rfl)) (fun _ _ _ h => h) (Or.inl ⟨by rfl, ?_⟩) ?_ ?_
      rotate_left
      · intro w'
        go_simp
        with_reducible rfl
      rotate_left
      · simp only [Act.put, List.setIfInBounds_toArray, List.set_cons_zero, List.set_cons_succ, i64_w, i32_w]
        rfl
      refine pure_ (i := 1) (N := some 24) (v := ?_) (a' := ?_) #[true, true, false, false, false, false, false, false, false, false, false, false, false, false, false] rfl rfl (any_of HT_.out (by kernel_rfl)) (fun _ _ _ h => h) (Or.inl ⟨by rfl, ?_⟩) ?_ ?_
      rotate_left
      · intro w'
        go_simp
        with_reducible rfl
      rotate_left
      · simp only [Act.put, List.setIfInBounds_toArray, List.set_cons_zero, List.set_cons_succ, i64_w, i32_w]
        rfl
      refine pure_ (i := 2) (N := some 25) (v := ?_) (a' := ?_) #[true, true, true, false, false, false, false, false, false, false, false, false, false, false, false] rfl rfl (any_of HT_.out (by kernel_rfl)) (fun _ _ _ h => h) (Or.inl ⟨by rfl, ?_⟩) ?_ ?_
      rotate_left
      · intro w'
        go_simp
        with_reducible rfl
      rotate_left
      · simp only [Act.put, List.setIfInBounds_toArray, List.set_cons_zero, List.set_cons_succ, i64_w, i32_w]
        rfl
      refine pure_ (i := 3) (N := some 26) (v := ?_) (a' := ?_) #[true, true, true, true, false, false, false, false, false, false, false, false, false, false, false] rfl rfl (any_of HT_.out (by kernel_rfl)) (fun _ _ _ h => h) (Or.inl ⟨by rfl, ?_⟩) ?_ ?_
      rotate_left
      · intro w'
        go_simp
        with_reducible rfl
      rotate_left
      · simp only [Act.put, List.setIfInBounds_toArray, List.set_cons_zero, List.set_cons_succ, i64_w, i32_w]
        rfl
      refine pure_ (i := 5) (N := some 28) (v := ?_) (a' := ?_) #[true, true, true, true, false, true, false, false, false, false, false, false, false, false, false] rfl rfl (any_of HT_.out (by kernel_rfl)) (fun _ _ _ h => h) (Or.inl ⟨by rfl, ?_⟩) ?_ ?_
      rotate_left
      · intro w'
        go_simp
        with_reducible rfl
      rotate_left
      · simp only [Act.put, List.setIfInBounds_toArray, List.set_cons_zero, List.set_cons_succ, i64_w, i32_w]
        rfl
      refine pure_ (i := 6) (N := some 29) (v := ?_) (a' := ?_) #[true, true, true, true, false, true, true, false, false, false, false, false, false, false, false] rfl rfl (any_of HT_.out (by kernel_rfl)) (fun _ _ _ h => h) (Or.inl ⟨by rfl, ?_⟩) ?_ ?_
      rotate_left
      · intro w'
        go_simp
        with_reducible rfl
      rotate_left
      · simp only [Act.put, List.setIfInBounds_toArray, List.set_cons_zero, List.set_cons_succ, i64_w, i32_w]
        rfl
      refine pure_ (i := 7) (N := some 30) (v := ?_) (a' := ?_) #[true, true, true, true, false, true, true, true, false, false, false, false, false, false, false] rfl rfl (any_of HT_.out (by kernel_rfl)) (fun _ _ _ h => h) (Or.inl ⟨by rfl, ?_⟩) ?_ ?_
      rotate_left
      · intro w'
        go_simp
        with_reducible rfl
      rotate_left
      · simp only [Act.put, List.setIfInBounds_toArray, List.set_cons_zero, List.set_cons_succ, i64_w, i32_w]
        rfl
      refine take_ (i := 4) (N := some 27) (v := ?_) (a' := ?_) #[true, true, true, true, true, true, true, true, false, false, false, false, false, false, false] rfl rfl (take_ofW HT_.out HW_.out (by kernel_rfl)) (fun _ _ _ h => h) (Or.inl ⟨by rfl, ?_⟩) hHeld ?_ ?_
      rotate_left
      · rintro w' ⟨s0, s1⟩
        go_simp
        with_reducible rfl
      rotate_left
      · simp only [Act.put, List.setIfInBounds_toArray, List.set_cons_zero, List.set_cons_succ, i64_w, i32_w]
        rfl
      refine take_ (i := 8) (N := some 31) (v := ?_) (a' := ?_) #[true, true, true, true, true, true, true, true, true, false, false, false, false, false, false] rfl rfl (take_ofW HT_.out HW_.out (by kernel_rfl)) (fun _ _ _ h => h) (Or.inl ⟨by rfl, ?_⟩) hHeld ?_ ?_
      rotate_left
      · rintro w' ⟨s0, s1⟩
        go_simp
        with_reducible rfl
      rotate_left
      · simp only [Act.put, List.setIfInBounds_toArray, List.set_cons_zero, List.set_cons_succ, i64_w, i32_w]
        rfl
      refine pure_ (i := 9) (N := some 32) (v := ?_) (a' := ?_) #[true, true, true, true, true, true, true, true, true, true, false, false, false, false, false] rfl rfl (any_of HT_.out (by kernel_rfl)) (fun _ _ _ h => h) (Or.inl ⟨by rfl, ?_⟩) ?_ ?_
      rotate_left
      · intro w'
        go_simp
        with_reducible rfl
      rotate_left
      · simp only [Act.put, List.setIfInBounds_toArray, List.set_cons_zero, List.set_cons_succ, i64_w, i32_w]
        rfl
      refine pure_ (i := 10) (N := some 33) (v := ?_) (a' := ?_) #[true, true, true, true, true, true, true, true, true, true, true, false, false, false, false] rfl rfl (any_of HT_.out (by kernel_rfl)) (fun _ _ _ h => h) (Or.inl ⟨by rfl, ?_⟩) ?_ ?_
      rotate_left
      · intro w'
        go_simp
        with_reducible rfl
      rotate_left
      · simp only [Act.put, List.setIfInBounds_toArray, List.set_cons_zero, List.set_cons_succ, i64_w, i32_w]
        rfl
      refine pure_ (i := 11) (N := some 34) (v := ?_) (a' := ?_) #[true, true, true, true, true, true, true, true, true, true, true, true, false, false, false] rfl rfl (any_of HT_.out (by kernel_rfl)) (fun _ _ _ h => h) (Or.inl ⟨by rfl, ?_⟩) ?_ ?_
      rotate_left
      · intro w'
        go_simp
        with_reducible rfl
      rotate_left
      · simp only [Act.put, List.setIfInBounds_toArray, List.set_cons_zero, List.set_cons_succ, i64_w, i32_w]
        rfl
      refine pure_ (i := 12) (N := some 35) (v := ?_) (a' := ?_) #[true, true, true, true, true, true, true, true, true, true, true, true, true, false, false] rfl rfl (any_of HT_.out (by kernel_rfl)) (fun _ _ _ h => h) (Or.inl ⟨by rfl, ?_⟩) ?_ ?_
      rotate_left
      · intro w'
        go_simp
        with_reducible rfl
      rotate_left
      · simp only [Act.put, List.setIfInBounds_toArray, List.set_cons_zero, List.set_cons_succ, i64_w, i32_w]
        rfl
      refine pure_ (i := 13) (N := some 36) (v := ?_) (a' := ?_) #[true, true, true, true, true, true, true, true, true, true, true, true, true, true, false] rfl rfl (any_of HT_.out (by kernel_rfl)) (fun _ _ _ h => h) (Or.inl ⟨by rfl, ?_⟩) ?_ ?_
      rotate_left
      · intro w'
        go_simp
        with_reducible rfl
      rotate_left
      · simp only [Act.put, List.setIfInBounds_toArray, List.set_cons_zero, List.set_cons_succ, i64_w, i32_w]
        rfl
      refine last_ (i := 14) (N := none) #[true, true, true, true, true, true, true, true, true, true, true, true, true, true, true] rfl rfl (one_of HT_.out (by kernel_rfl)) (by decide) (fun K hK => ?_)
      have hs18 : w16.cell? ⟨g, 1, none⟩ = some (.slice Ao13 t208.length co13) := (blk_cell BK0.out 1).trans rfl
      have hfs18 := blk_frozen BK0.out 1
      refine skip_ (w1 := ?_) (by rfl) rfl ?_ ?_
      rotate_left
      · go_simp
        rfl
      refine hK.out _ _ ?_
      clear hK K
      refine done_ (done_of HT_.out (by kernel_rfl)) ?_
      obtain ⟨hcz19_0, hcz19_1⟩ := bc2q4 BK0.out
      have hfz19_0 := fun i_ => blk_frozen BK0.out i_
      try go_wp2
      go_ret
      exact ⟨_, by first | rfl | (simp [errW_none, errW_some] <;> rfl) | (simp only [← hji3]; first | rfl | (simp [errW_none, errW_some] <;> rfl)) | (simp [*, errW_none, errW_some] <;> rfl), by (with_reducible repeat (first | apply Kd.R_alloc | apply Kd.R_drewN | apply Kd.R_drew)); exact Kd.R_mono (Kd.R_far (Kd.R_far (Kd.R_types HO213.out BK0.out (by decide)) (fun _ hk => hk.2) _) (fun _ hk => hk.2) _) (fun _ hk => hk.1), (by refine bzq4 ?_; refine btq4 (i := 0) ?_; refine btq4 (i := 1) ?_; exact ⟨_, bpq4 BK0.out, rfl⟩), (bbq4 HB.out), (kkq4 HK.out)⟩
    · rw [if_neg c5] at H
      exact absurd H (by simp)
  · rw [if_neg c4] at H
    exact absurd H (by simp)

end Go.Proofs.Ytobipigioaoaiaa.PDetectCopies
