-- Written by ext.sh (the session's own program, over the kit's printer) out of the translation. Lean checks it.
import Derived.Test.YtlfjcelippfanaaPHistoryMeansx0
import Derived.Test.YtlfjcelippfanaaPHistoryMeansx1
namespace Go.Proofs.Ytlfjcelippfanaa.PHistoryMeans
open Go.RowKit Go.Proofs.YtlfjcelippfanaaW.PrintWords Go.Proofs.YtlfjcelippfanaaW.PrintLast Go.Proofs.YtlfjcelippfanaaW.PrintMore
attribute [local go_sem] max2_int min2_int max_two min_two max_three min_three max_four min_four   -- for this text's walks alone
set_option linter.unusedVariables false
set_option linter.unusedSimpArgs false

/-! ### slices_Reverse_int_int: function 41 -/
def slices_Reverse_int_int.l0 : Nat → List Int → Int → Int → Option (List Int)
  | 0, _, _, _ => none
  | k + 1, x0, x2, x3 => if x2 < x3 then (if 0 ≤ x3 then (if x3 < (x0.length : Int) then (if 0 ≤ x2 then (if x2 < (x0.length : Int) then (slices_Reverse_int_int.l0 k ((x0.set (x2 : Int).toNat (rd x0 x3)).set (x3 : Int).toNat (rd x0 x2)) (wrap64 (x2 + 1)) (wrap64 (x3 - 1))) else (none)) else (none)) else (none)) else (none)) else (some x0)
def slices_Reverse_int_int.f (k : Nat) (l0 : List Int) : Option (List Int) := slices_Reverse_int_int.l0 k l0 0 (wrap64 ((l0.length : Int) - 1))
theorem slices_Reverse_int_int.mono_l : ∀ k, (∀ y0 y1 y2, LeO (slices_Reverse_int_int.l0 k y0 y1 y2) (slices_Reverse_int_int.l0 (k + 1) y0 y1 y2))
  | 0 => fun _ _ _ r h => by simp [slices_Reverse_int_int.l0] at h
  | k + 1 => by
    have ih0 := slices_Reverse_int_int.mono_l k
    · intro y0 y1 y2
      unfold slices_Reverse_int_int.l0
      repeat' first
      | (with_reducible exact ih0 _ _ _)
      | (with_reducible exact LeO.refl _)
      | (with_reducible exact LeO.none _)
      | (with_reducible refine LeO.ite ?_ ?_)
      | (with_reducible refine LeO.bind ?_ (fun _ => ?_))
      | exact ih0 _ _ _
      | exact LeO.none _
      | refine LeO.ite ?_ ?_
      | refine LeO.bind ?_ (fun _ => ?_)
theorem slices_Reverse_int_int.mono : ∀ a0 k, LeO (slices_Reverse_int_int.f k a0) (slices_Reverse_int_int.f (k + 1) a0) := by
  intro a0 k
  have ih0 := slices_Reverse_int_int.mono_l k
  unfold slices_Reverse_int_int.f
  repeat' first
      | (with_reducible exact ih0 _ _ _)
      | (with_reducible exact LeO.refl _)
      | (with_reducible exact LeO.none _)
      | (with_reducible refine LeO.ite ?_ ?_)
      | (with_reducible refine LeO.bind ?_ (fun _ => ?_))
      | exact ih0 _ _ _
      | exact LeO.none _
      | refine LeO.ite ?_ ?_
      | refine LeO.bind ?_ (fun _ => ?_)
def slices_Reverse_int_int.T3 : Bool × List (List Nat × List Nat) := (true, [([], []), ([], []), ([], []), ([], []), ([], []), ([], []), ([4, 5], [4, 5]), ([6], [6]), ([], []), ([], []), ([8, 9], [8, 9]), ([10], [10]), ([0, 1, 0, 1, 4, 5, 6, 7, 11], [0, 1]), ([12, 7, 0, 1, 4, 5, 6, 7, 11], [7, 12]), ([2, 3, 0, 1, 2, 3, 4, 5, 6, 7, 8, 9, 10, 11, 12, 13], [2, 3]), ([14, 11, 13, 0, 1, 2, 3, 4, 5, 6, 7, 8, 9, 10, 11, 12, 13], [11, 14])])
def slices_Reverse_int_int.B3 : List Nat := [0, 0, 0, 0, 0, 0, 48, 112, 0, 0, 768, 1792, 4083, 8179, 16383, 32767]
theorem slices_Reverse_int_int.tab3 : rtab .any (opsOf Try.f41 3) = slices_Reverse_int_int.T3 := by kernel_rfl
theorem slices_Reverse_int_int.bits3 : waitsOk slices_Reverse_int_int.T3.2 slices_Reverse_int_int.B3 = true := by kernel_rfl
set_option maxHeartbeats 8000000 in
set_option maxRecDepth 100000 in
theorem slices_Reverse_int_int.calls (k : Nat) (P0_ : Nat → Prop) (u9000_ : Value) (l0 : List Int) (r : List Int) (w0 w : World) (hB : Below w0.heap.size w0 w) (ho0 : Kd.R (Kd.int .i64) 3 w w0.heap.size P0_ u9000_ l0) (h : slices_Reverse_int_int.f k l0 = some r) :
    Calls Try.prog 41 #[u9000_] w fun e w' => e = .returned (.tuple #[]) ∧ Kd.R (Kd.int .i64) 3 w' w0.heap.size (fun k_ => (P0_ k_ ∨ w.heap.size ≤ k_)) u9000_ r ∧ Below w0.heap.size w0 w' ∧ Kept w w' (fun k_ => P0_ k_) := by
  have HO0 := Aside0.mk (show Kd.R (Kd.int .i64) 3 w w0.heap.size (fun k_ => (P0_ k_ ∨ w.heap.size ≤ k_)) u9000_ l0 from Kd.R_mono ho0 (fun k_ hk => (.inl hk)))
  have HK := Aside0.mk (Kept.refl w (fun k_ => P0_ k_))
  have HW0 := Aside0.mk hB.size
  have HB := Aside0.mk hB
  clear hB
  have H : (slices_Reverse_int_int.l0 k l0 0 (wrap64 ((l0.length : Int) - 1))) = some r := h
  clear h
  have H' := Aside0.mk H
  clear H
  obtain ⟨Ao2, co2, eo2⟩ := Kd.R_slice HO0.out
  subst eo2
  go_enter Try.func41, Try.ntmps41
  go_wp2
  go_loopg [2, 3] k (fun kq v2 v3 w' => ∃ (x0_1 : List Int) (x2_1 : Int) (x3_1 : Int), v2 = .int .i64 x2_1 ∧ v3 = .int .i64 x3_1 ∧ Aside0 (slices_Reverse_int_int.l0 kq x0_1 x2_1 x3_1 = some r) ∧ Aside0 (kq ≤ k) ∧ Aside0 (Kd.R (Kd.int .i64) 3 w' w0.heap.size (fun k_ => (P0_ k_ ∨ w.heap.size ≤ k_)) (.slice Ao2 l0.length co2) x0_1) ∧ Aside0 (Kept w w' (fun k_ => P0_ k_)) ∧ Aside0 (Below w0.heap.size w0 w'))
  case atStart => exact ⟨(l0), (0), (wrap64 ((l0.length : Int) - 1)), (by first | rfl | (simp; done) | (simp [*]; done)), (by first | rfl | (simp; done) | (simp [*]; done)), H', ⟨Nat.le_refl _⟩, ⟨by (with_reducible repeat (first | apply Kd.R_alloc | apply Kd.R_drewN | apply Kd.R_drew)); exact HO0.out⟩, ⟨by repeat (first | (with_reducible first | exact HK.out | apply Kept.alloc | apply Kept.drewN | apply Kept.drew) | exact HK.out)⟩, ⟨by repeat (first | (with_reducible first | exact HB.out | apply below_alloc | apply pw_below_drewN | apply below_drew1) | exact HB.out)⟩⟩
  case round =>
    clear H'
    try clear p2
    obtain ⟨x0_1, x2_1, x3_1, rfl, rfl, HA, HK1, HO_0, HK, HB⟩ := hrel
    have hl0_1 := (Kd.R_reads' HO_0.out).1
    rw [hl0_1] at HO_0
    (try simp only [hl0_1])
    cases gk with
    | zero => exact absurd HA.out (by simp [slices_Reverse_int_int.l0])
    | succ k1 =>
      have H := HA.out
      clear HA
      simp only [slices_Reverse_int_int.l0] at H
      by_cases c3 : x2_1 < x3_1
      · rw [if_pos c3] at H
        have c3b0 : decide (x2_1 < x3_1) = true := decide_eq_true c3
        clear c3
        by_cases c4 : 0 ≤ x3_1
        · rw [if_pos c4] at H
          have c4b0 : decide (0 ≤ x3_1) = true := decide_eq_true c4
          clear c4
          by_cases c5 : x3_1 < (x0_1.length : Int)
          · rw [if_pos c5] at H
            have c5b0 : decide (x3_1 < (x0_1.length : Int)) = true := decide_eq_true c5
            clear c5
            by_cases c6 : 0 ≤ x2_1
            · rw [if_pos c6] at H
              have c6b0 : decide (0 ≤ x2_1) = true := decide_eq_true c6
              clear c6
              by_cases c7 : x2_1 < (x0_1.length : Int)
              · rw [if_pos c7] at H
                have c7b0 : decide (x2_1 < (x0_1.length : Int)) = true := decide_eq_true c7
                clear c7
                obtain ⟨y107, hy107⟩ : ∃ y_ : List Int, y_ = (x0_1.set (x2_1 : Int).toNat (rd x0_1 x3_1)) := ⟨_, rfl⟩
                replace H : (slices_Reverse_int_int.l0 k1 (y107.set (x3_1 : Int).toNat (rd x0_1 x2_1)) (wrap64 (x2_1 + 1)) (wrap64 (x3_1 - 1))) = some r := by first | (rw [hy107]; with_reducible exact H) | (have H2_ := (Option.bind_some _ _).symm.trans H; rw [hy107]; with_reducible exact H2_) | (have H2_ := (Option.bind_some _ _).symm.trans H; with_reducible exact H2_) | with_reducible exact H | (rw [hy107]; exact H) | exact H
                have Ny107 := Aside0.mk hy107
                clear hy107
                obtain ⟨y108, hy108⟩ : ∃ y_ : List Int, y_ = (y107.set (x3_1 : Int).toNat (rd x0_1 x2_1)) := ⟨_, rfl⟩
                replace H : (slices_Reverse_int_int.l0 k1 y108 (wrap64 (x2_1 + 1)) (wrap64 (x3_1 - 1))) = some r := by first | (rw [hy108]; with_reducible exact H) | (have H2_ := (Option.bind_some _ _).symm.trans H; rw [hy108]; with_reducible exact H2_) | (have H2_ := (Option.bind_some _ _).symm.trans H; with_reducible exact H2_) | with_reducible exact H | (rw [hy108]; exact H) | exact H
                have Ny108 := Aside0.mk hy108
                clear hy108
                have H' := Aside0.mk H
                clear H
                try go_wp2
                have n0_ := Aside0.mk (Kd.R_drew HO_0.out)
                have n1_ := Aside0.mk (Kept.drew HK.out)
                have n2_ := Aside0.mk (below_drew1 HB.out)
                clear HO_0
                clear HK
                clear HB
                have HO_0 := n0_
                have HK := n1_
                have HB := n2_
                clear n0_ n1_ n2_
                have p105 : 0 ≤ (x3_1 : Int) := of_decide_eq_true (by first | (with_reducible assumption) | assumption)
                have q105 : x3_1 < (x0_1.length : Int) := of_decide_eq_true (by first | (with_reducible assumption) | assumption)
                obtain ⟨ad105, e105, hx105_0⟩ := Kd.at_int (Kd.R_reads' HO_0.out).2.2 x3_1 p105 q105
                cases e105
                replace p105 := eq_true p105
                replace q105 := eq_true q105
                have p106 : 0 ≤ (x2_1 : Int) := of_decide_eq_true (by first | (with_reducible assumption) | assumption)
                have q106 : x2_1 < (x0_1.length : Int) := of_decide_eq_true (by first | (with_reducible assumption) | assumption)
                obtain ⟨ad106, e106, hx106_0⟩ := Kd.at_int (Kd.R_reads' HO_0.out).2.2 x2_1 p106 q106
                obtain rfl : ad105 = ad106 := (by injection e106)
                replace p106 := eq_true p106
                replace q106 := eq_true q106
                have p8 : 0 ≤ (x2_1 : Int) := of_decide_eq_true (by first | (with_reducible assumption) | assumption)
                have q8 : (x2_1 : Int) < ((x0_1.length : Int) : Int) := of_decide_eq_true (by first | (with_reducible assumption) | assumption)
                obtain ⟨go8, co8, eo8, gb8, gl8, cl8, HG8⟩ := Kd.R_form HO_0.out (by omega)
                (first | cases eo8 | (injection eo8 with ea_ en_ ec_; (first | subst ea_ | (injection ea_ with ea_; subst ea_)); subst ec_; clear en_))
                have GB8 := Aside0.mk gb8
                have GG8 := Aside0.mk HG8
                clear gb8 gl8 HG8
                have HMgo8 := Aside0.mk (show (P0_ go8 ∨ w.heap.size ≤ go8) from (HO_0.out.1 _ rfl))
                (first | simp only [add_plain] at hx105_0 | skip)
                (first | simp only [add_plain] at hx106_0 | skip)
                obtain ⟨hx8_0, hf8_0⟩ := Kd.R_celln 0 HO_0.out (x2_1 : Int) p8 q8
                replace p8 := eq_true p8
                replace q8 := eq_true q8
                have HP11 := Kd.R_putn HO_0.out (x2_1 : Int) (rd x0_1 x3_1)
                rw [← Ny107.out] at HP11
                have HQ11 := Aside0.mk HP11
                clear HP11
                have p9 : 0 ≤ (x3_1 : Int) := of_decide_eq_true (by first | (with_reducible assumption) | assumption)
                have q9 : (x3_1 : Int) < ((x0_1.length : Int) : Int) := of_decide_eq_true (by first | (with_reducible assumption) | assumption)
                obtain ⟨hx9_0, hf9_0⟩ := Kd.R_celln 0 HQ11.out (x3_1 : Int) p9 q9
                replace p9 := eq_true p9
                replace q9 := eq_true q9
                have HP12 := Kd.R_putn HQ11.out (x3_1 : Int) (rd x0_1 x2_1)
                rw [← Ny108.out] at HP12
                have HQ12 := Aside0.mk HP12
                clear HP12
                refine start_ (n := 16) (S := fun w' => w'.cell? ⟨go8, (x3_1).toNat, none⟩ = some (.int .i64 (rd x0_1 x3_1)) ∧ w'.cell? ⟨go8, (x2_1).toNat, none⟩ = some (.int .i64 (rd x0_1 x2_1))) (ds := [13, 15]) #[false, false, false, false, false, false, false, false, false, false, false, false, false, false, false, false] (by kernel_rfl) rfl rfl ⟨hx105_0, hx106_0⟩ (fun hHeld => ?_); refine with_tabW slices_Reverse_int_int.tab3 slices_Reverse_int_int.bits3 (fun HT_ HW_ => ?_)
                generalize wr.drew = w10 at HO_0 HK HB GG8 HQ11 HQ12 hf8_0 hf9_0 hx105_0 hx106_0 hx8_0 hx9_0 hHeld ⊢
                refine pure_ (i := 0) (N := some 14) (v := ?_) (a' := ?_) #[true, false, false, false, false, false, false, false, false, false, false, false, false, false, false, false] rfl rfl (any_of HT_.out (by kernel_rfl)) (fun _ _ _ h => h) (Or.inl ⟨by rfl, ?_⟩) ?_ ?_
                rotate_left
                · intro w'
                  go_simp
                  with_reducible rfl
                rotate_left
                · simp only [Act.put, List.setIfInBounds_toArray, List.set_cons_zero, List.set_cons_succ, i64_w, i32_w]
                  rfl
                refine pure_ (i := 1) (N := some 15) (v := ?_) (a' := ?_) #[true, true, false, false, false, false, false, false, false, false, false, false, false, false, false, false] rfl rfl (any_of HT_.out (by kernel_rfl)) (fun _ _ _ h => h) (Or.inl ⟨by rfl, ?_⟩) ?_ ?_
                rotate_left
                · intro w'
                  go_simp
                  with_reducible rfl
                rotate_left
                · simp only [Act.put, List.setIfInBounds_toArray, List.set_cons_zero, List.set_cons_succ, i64_w, i32_w]
                  rfl
                refine pure_ (i := 2) (N := some 16) (v := ?_) (a' := ?_) #[true, true, true, false, false, false, false, false, false, false, false, false, false, false, false, false] rfl rfl (any_of HT_.out (by kernel_rfl)) (fun _ _ _ h => h) (Or.inl ⟨by rfl, ?_⟩) ?_ ?_
                rotate_left
                · intro w'
                  go_simp
                  with_reducible rfl
                rotate_left
                · simp only [Act.put, List.setIfInBounds_toArray, List.set_cons_zero, List.set_cons_succ, i64_w, i32_w]
                  rfl
                refine pure_ (i := 3) (N := some 17) (v := ?_) (a' := ?_) #[true, true, true, true, false, false, false, false, false, false, false, false, false, false, false, false] rfl rfl (any_of HT_.out (by kernel_rfl)) (fun _ _ _ h => h) (Or.inl ⟨by rfl, ?_⟩) ?_ ?_
                rotate_left
                · intro w'
                  go_simp
                  with_reducible rfl
                rotate_left
                · simp only [Act.put, List.setIfInBounds_toArray, List.set_cons_zero, List.set_cons_succ, i64_w, i32_w]
                  rfl
                refine pure_ (i := 4) (N := some 18) (v := ?_) (a' := ?_) #[true, true, true, true, true, false, false, false, false, false, false, false, false, false, false, false] rfl rfl (any_of HT_.out (by kernel_rfl)) (fun _ _ _ h => h) (Or.inl ⟨by rfl, ?_⟩) ?_ ?_
                rotate_left
                · intro w'
                  go_simp
                  with_reducible rfl
                rotate_left
                · simp only [Act.put, List.setIfInBounds_toArray, List.set_cons_zero, List.set_cons_succ, i64_w, i32_w]
                  rfl
                refine pure_ (i := 5) (N := some 19) (v := ?_) (a' := ?_) #[true, true, true, true, true, true, false, false, false, false, false, false, false, false, false, false] rfl rfl (any_of HT_.out (by kernel_rfl)) (fun _ _ _ h => h) (Or.inl ⟨by rfl, ?_⟩) ?_ ?_
                rotate_left
                · intro w'
                  go_simp
                  with_reducible rfl
                rotate_left
                · simp only [Act.put, List.setIfInBounds_toArray, List.set_cons_zero, List.set_cons_succ, i64_w, i32_w]
                  rfl
                refine pure_ (i := 6) (N := some 20) (v := ?_) (a' := ?_) #[true, true, true, true, true, true, true, false, false, false, false, false, false, false, false, false] rfl rfl (any_of HT_.out (by kernel_rfl)) (fun _ _ _ h => h) (Or.inl ⟨by rfl, ?_⟩) ?_ ?_
                rotate_left
                · intro w'
                  go_simp
                  with_reducible rfl
                rotate_left
                · simp only [Act.put, List.setIfInBounds_toArray, List.set_cons_zero, List.set_cons_succ, i64_w, i32_w]
                  rfl
                refine pure_ (i := 8) (N := some 22) (v := ?_) (a' := ?_) #[true, true, true, true, true, true, true, false, true, false, false, false, false, false, false, false] rfl rfl (any_of HT_.out (by kernel_rfl)) (fun _ _ _ h => h) (Or.inl ⟨by rfl, ?_⟩) ?_ ?_
                rotate_left
                · intro w'
                  go_simp
                  with_reducible rfl
                rotate_left
                · simp only [Act.put, List.setIfInBounds_toArray, List.set_cons_zero, List.set_cons_succ, i64_w, i32_w]
                  rfl
                refine pure_ (i := 9) (N := some 23) (v := ?_) (a' := ?_) #[true, true, true, true, true, true, true, false, true, true, false, false, false, false, false, false] rfl rfl (any_of HT_.out (by kernel_rfl)) (fun _ _ _ h => h) (Or.inl ⟨by rfl, ?_⟩) ?_ ?_
                rotate_left
                · intro w'
                  go_simp
                  with_reducible rfl
                rotate_left
                · simp only [Act.put, List.setIfInBounds_toArray, List.set_cons_zero, List.set_cons_succ, i64_w, i32_w]
                  rfl
                refine pure_ (i := 10) (N := some 24) (v := ?_) (a' := ?_) #[true, true, true, true, true, true, true, false, true, true, true, false, false, false, false, false] rfl rfl (any_of HT_.out (by kernel_rfl)) (fun _ _ _ h => h) (Or.inl ⟨by rfl, ?_⟩) ?_ ?_
                rotate_left
                · intro w'
                  go_simp
                  with_reducible rfl
                rotate_left
                · simp only [Act.put, List.setIfInBounds_toArray, List.set_cons_zero, List.set_cons_succ, i64_w, i32_w]
                  rfl
                refine take_ (i := 7) (N := some 21) (v := ?_) (a' := ?_) #[true, true, true, true, true, true, true, true, true, true, true, false, false, false, false, false] rfl rfl (take_ofW HT_.out HW_.out (by kernel_rfl)) (fun _ _ _ h => h) (Or.inl ⟨by rfl, ?_⟩) hHeld ?_ ?_
                rotate_left
                · rintro w' ⟨s0, s1⟩
                  go_simp
                  with_reducible rfl
                rotate_left
                · simp only [Act.put, List.setIfInBounds_toArray, List.set_cons_zero, List.set_cons_succ, i64_w, i32_w]
                  rfl
                refine take_ (i := 11) (N := some 25) (v := ?_) (a' := ?_) #[true, true, true, true, true, true, true, true, true, true, true, true, false, false, false, false] rfl rfl (take_ofW HT_.out HW_.out (by kernel_rfl)) (fun _ _ _ h => h) (Or.inl ⟨by rfl, ?_⟩) hHeld ?_ ?_
                rotate_left
                · rintro w' ⟨s0, s1⟩
                  go_simp
                  with_reducible rfl
                rotate_left
                · simp only [Act.put, List.setIfInBounds_toArray, List.set_cons_zero, List.set_cons_succ, i64_w, i32_w]
                  rfl
                refine pure_ (i := 12) (N := some 26) (v := ?_) (a' := ?_) #[true, true, true, true, true, true, true, true, true, true, true, true, true, false, false, false] rfl rfl (any_of HT_.out (by kernel_rfl)) (fun _ _ _ h => h) (Or.inl ⟨by rfl, ?_⟩) ?_ ?_
                rotate_left
                · intro w'
                  go_simp
                  with_reducible rfl
                rotate_left
                · simp only [Act.put, List.setIfInBounds_toArray, List.set_cons_zero, List.set_cons_succ, i64_w, i32_w]
                  rfl
                refine last_ (i := 13) (N := none) #[true, true, true, true, true, true, true, true, true, true, true, true, true, true, false, false] rfl rfl (one_of HT_.out (by kernel_rfl)) (by decide) (fun K hK => ?_)
                refine skip_ (w1 := ?_) (by rfl) rfl ?_ ?_
                rotate_left
                · go_simp
                  rfl
                refine hK.out _ _ ?_
                clear hK K
                refine pure_ (i := 14) (N := some 27) (v := ?_) (a' := ?_) #[true, true, true, true, true, true, true, true, true, true, true, true, true, true, true, false] rfl rfl (any_of HT_.out (by kernel_rfl)) (fun _ _ _ h => h) (Or.inl ⟨by rfl, ?_⟩) ?_ ?_
                rotate_left
                · intro w'
                  go_simp
                  with_reducible rfl
                rotate_left
                · simp only [Act.put, List.setIfInBounds_toArray, List.set_cons_zero, List.set_cons_succ, i64_w, i32_w]
                  rfl
                refine last_ (i := 15) (N := none) #[true, true, true, true, true, true, true, true, true, true, true, true, true, true, true, true] rfl rfl (one_of HT_.out (by kernel_rfl)) (by decide) (fun K hK => ?_)
                refine skip_ (w1 := ?_) (by rfl) rfl ?_ ?_
                rotate_left
                · go_simp
                  rfl
                refine hK.out _ _ ?_
                clear hK K
                refine done_ (done_of HT_.out (by kernel_rfl)) ?_
                try go_wp2
                (try simp only [← hl0_1])
                go_roundg k1
                case measure => have := HK1.out; omega
                case rel => exact ⟨(y108), (wrap64 (x2_1 + 1)), (wrap64 (x3_1 - 1)), (by first | rfl | (simp; done) | (simp [*]; done)), (by first | rfl | (simp; done) | (simp [*]; done)), H', ⟨by have := HK1.out; omega⟩, ⟨by (try simp only [hl0_1]); (with_reducible repeat (first | apply Kd.R_alloc | apply Kd.R_drewN | apply Kd.R_drew)); exact HQ12.out⟩, ⟨by repeat (first | (with_reducible first | exact HK.out | apply Kept.alloc | apply Kept.drewN | apply Kept.drew | refine Kept.setCell ?_ HMgo8.out _ | refine Kept.setCell ?_ HMgo8.out _) | exact HK.out)⟩, ⟨by repeat (first | (with_reducible first | exact HB.out | apply below_alloc | apply pw_below_drewN | apply below_drew1 | refine below_set ?_ GB8.out | refine below_set ?_ GB8.out) | exact HB.out)⟩⟩
              · rw [if_neg c7] at H
                exact absurd H (by simp)
            · rw [if_neg c6] at H
              exact absurd H (by simp)
          · rw [if_neg c5] at H
            exact absurd H (by simp)
        · rw [if_neg c4] at H
          exact absurd H (by simp)
      · rw [if_neg c3] at H
        have c3b0 : decide (x2_1 < x3_1) = false := decide_eq_false c3
        clear c3
        obtain rfl := Option.some.inj H
        go_wp2
        first | go_end0 | ((try simp only [Exit.inBlock, Exit.then]); refine bodyPost_ret (results_none rfl _ _ _) rfl ?_)
        exact ⟨by first | rfl | (simp [errW_none, errW_some] <;> rfl) | (simp [*, errW_none, errW_some] <;> rfl), (by first | exact (by (with_reducible repeat (first | apply Kd.R_alloc | apply Kd.R_drewN | apply Kd.R_drew)); exact HO_0.out) | (simp only [hl0_1]; exact (by (with_reducible repeat (first | apply Kd.R_alloc | apply Kd.R_drewN | apply Kd.R_drew)); exact HO_0.out))), by repeat (first | (with_reducible first | exact HB.out | apply below_alloc | apply pw_below_drewN | apply below_drew1) | exact HB.out), by repeat (first | (with_reducible first | exact HK.out | apply Kept.alloc | apply Kept.drewN | apply Kept.drew) | exact HK.out)⟩

-- NOT PRINTED: function 39 (slices_rotateLeft_int)

-- NOT PRINTED: function 34 (slices_rotateRight_int)

/-! ### slices_Insert_int_int: function 28 (told by hand) -/
def slices_Insert_int_int.ren : Go.Shelf.Ren := ⟨fun | 21 => 28 | 27 => 33 | 28 => 34 | 35 => 39 | 39 => 41 | n => n, fun | 22 => 25 | n => n, fun | n => n⟩
theorem slices_Insert_int_int.lays : Go.Proofs.Lays2.n21 Try.prog slices_Insert_int_int.ren := {
  mixed := by kernel_rfl
  f21 := Try.func28.trans (congrArg some (by kernel_rfl))
  f27 := Try.func33.trans (congrArg some (by kernel_rfl))
  f28 := Try.func34.trans (congrArg some (by kernel_rfl))
  f35 := Try.func39.trans (congrArg some (by kernel_rfl))
  f39 := Try.func41.trans (congrArg some (by kernel_rfl))
  t0 := Try.underlying0
  a0 := Try.isAgg0
  z0 := Try.sizeOf0
  v0 := Try.zeroValue0
  t3 := Try.underlying3
  a3 := Try.isAgg3
  z3 := Try.sizeOf3
  v3 := Try.zeroValue3
  t4 := Try.underlying4
  a4 := Try.isAgg4
  z4 := Try.sizeOf4
  v4 := Try.zeroValue4
  t22 := Try.underlying25
  a22 := Try.isAgg25
  z22 := Try.sizeOf25
  v22 := Try.zeroValue25
  i3 := by kernel_rfl }
/-- one number ahead of all -/
def slices_Insert_int_int.f (l0 : List Int) (i : Int) (l2 : List Int) : Option (List Int) := if i = 0 ∧ l2.length = 1 ∧ l0.length < 17592186044416 then some (l2 ++ l0) else none
theorem slices_Insert_int_int.row {W : World} {base b n cap : Nat} {cur : Array Value} {xs : List Int} {ok : Nat → Prop} (hb : base ≤ b) (hh : W.heap[b]? = some (.cells cur 3 (0, 0))) (hn : xs.length = n) (hnc : n ≤ cap) (hcm : cap ≤ maxLen) (hcs : cur.size = cap)
    (ht : cur.toList.take n = xs.map (Value.int .i64)) (hok : ok b) : Kd.R (Kd.int .i64) 3 W base ok (.slice (some ⟨b, 0, none⟩) n cap) xs := by
  subst hn
  refine Kd.R_of_own (enc := Value.int .i64) (h1 := fun _ => rfl) ⟨by simp [encs], .inr ⟨b, cap, cur, rfl, hb, hh, hnc, hcm, by omega, by simpa [encs] using ht⟩⟩ (fun k hk => ?_)
  have : b = k := by simpa [Value.ownBlock] using hk
  exact this ▸ hok
theorem slices_Insert_int_int.far {W W1 : World} {b : Nat} (h1 : W1.os = W.os) (h2 : W1.tape = W.tape) (h3 : W1.output = W.output) (h4 : W1.heap.size = W.heap.size) (h5 : ∀ k, k ≠ b → W1.heap[k]? = W.heap[k]?) : W.grownBy W1 (some b) :=
  ⟨h1, h2, h3, by omega, fun k _ hk => h5 k (fun e => hk (by rw [e]))⟩
theorem slices_Insert_int_int.one (xs : List Int) : ∀ v ∈ xs.map (Value.int .i64), v.oneCell' = true := by
  intro v hv
  obtain ⟨x, _, rfl⟩ := List.mem_map.1 hv
  rfl
/-- where what is handed back is new -/
theorem slices_Insert_int_int.fresh {P0 P2 : Nat → Prop} {w0 w w' : World} {cap : Nat} {cur : Array Value} {xs : List Int} (hB : Below w0.heap.size w0 w) (hw : Below w.heap.size w w') (hh : w'.heap[w.heap.size]? = some (.cells cur 3 (0, 0))) (hnc : xs.length ≤ cap) (hcm : cap ≤ maxLen) (hcs : cur.size = cap)
    (ht : cur.toList.take xs.length = xs.map (Value.int .i64)) :
    Kd.R (Kd.int .i64) 3 w' w0.heap.size (fun k_ => (P0 k_ ∨ P2 k_) ∨ w.heap.size ≤ k_) (.slice (some ⟨w.heap.size, 0, none⟩) xs.length cap) xs ∧ Below w0.heap.size w0 w' ∧ Kept w w' (fun k_ => P0 k_ ∨ P2 k_) :=
  ⟨slices_Insert_int_int.row hB.size hh rfl hnc hcm hcs ht (.inr (Nat.le_refl _)), hB.trans (hw.mono hB.size), Kept.of_below hw _⟩
/-- where it is what was handed in -/
theorem slices_Insert_int_int.same {P0 P2 : Nat → Prop} {w0 w w' : World} {b cap : Nat} {cur : Array Value} {xs : List Int} (hB : Below w0.heap.size w0 w) (hg : w.grownBy w' (some b)) (hb : w0.heap.size ≤ b) (hP : P0 b) (hh : w'.heap[b]? = some (.cells cur 3 (0, 0))) (hnc : xs.length ≤ cap) (hcm : cap ≤ maxLen) (hcs : cur.size = cap)
    (ht : cur.toList.take xs.length = xs.map (Value.int .i64)) :
    Kd.R (Kd.int .i64) 3 w' w0.heap.size (fun k_ => (P0 k_ ∨ P2 k_) ∨ w.heap.size ≤ k_) (.slice (some ⟨b, 0, none⟩) xs.length cap) xs ∧ Below w0.heap.size w0 w' ∧ Kept w w' (fun k_ => P0 k_ ∨ P2 k_) :=
  ⟨slices_Insert_int_int.row hb hh rfl hnc hcm hcs ht (.inl (.inl hP)), pw_below_grown hB (some b) hB.size hg (fun k e => by injection e with e; rw [← e]; exact hb), Kept.of_grown hg (Kept.refl w _) (fun k e => by injection e with e; rw [← e]; exact .inl (.inl hP))⟩
set_option maxHeartbeats 4000000 in
theorem slices_Insert_int_int.calls (P0 : Nat → Prop) (v0 : Value) (l0 : List Int) (i : Int) (P2 : Nat → Prop) (v2 : Value) (l2 : List Int) (r : List Int) (w0 w : World) (hB : Below w0.heap.size w0 w)
    (ho0 : Kd.R (Kd.int .i64) 3 w w0.heap.size P0 v0 l0) (hp0 : ∀ k_, P0 k_ → ¬ P2 k_) (ho2 : Kd.R (Kd.int .i64) 3 w w0.heap.size P2 v2 l2) (hp2 : ∀ k_, P2 k_ → ¬ P0 k_) (h : slices_Insert_int_int.f l0 i l2 = some r) :
    Calls Try.prog 28 #[v0, .int .i64 i, v2] w fun e w' => ∃ v1_ : Value, e = .returned v1_ ∧ Kd.R (Kd.int .i64) 3 w' w0.heap.size (fun k_ => (P0 k_ ∨ P2 k_) ∨ w.heap.size ≤ k_) v1_ r ∧ Below w0.heap.size w0 w' ∧ Kept w w' (fun k_ => P0 k_ ∨ P2 k_) := by
  unfold slices_Insert_int_int.f at h
  split at h
  · rename_i hh
    obtain ⟨rfl, hl2, hlim⟩ := hh
    obtain rfl := Option.some.inj h
    clear h
    obtain ⟨x, rfl⟩ := List.length_eq_one_iff.1 hl2
    obtain ⟨vb, vc, rfl, hvb, hvl, cells2, hc2⟩ := Kd.R_form ho2 (by simp)
    have hPv : P2 vb := ho2.1 vb rfl
    have hvs : ∀ (j : Nat) v, ([x].map (Value.int .i64))[j]? = some v → w.cell? ⟨vb, 0 + j, none⟩ = some v := by
      intro j v hj
      have h3 := (Kd.R_celln (enc := Value.int .i64) (h1 := fun _ => rfl) 0 ho2 0 (by omega) (by simp)).1
      cases j with
      | zero =>
        obtain rfl : Value.int .i64 x = v := by simpa using hj
        simpa [rdOf] using h3
      | succ j => simp at hj
    have hshv : w.shape? vb = some (3, cells2.size) := by simp [World.shape?, hc2]
    obtain ⟨hok0, inner, ⟨hil, ho⟩, hrp⟩ := ho0
    rcases ho with ⟨rfl, hz⟩ | ⟨b, cap, cur, rfl, hbb, hbh, hnc, hcm, hcs, htk⟩
    · -- the nil slice
      obtain rfl := List.eq_nil_of_length_eq_zero hz
      have hmx : 1 ≤ maxLen := by decide
      refine (Any2.slices_Insert_int_end_grow slices_Insert_int_int.lays none 0 0 vb 0 1 vc [] ([x].map (Value.int .i64)) w (by omega) (by omega) (by omega) (by omega) rfl rfl (fun _ => rfl) (fun _ he => by cases he) hvs (slices_Insert_int_int.one _)).mono ?_
      rintro e w' ⟨rfl, rfl⟩
      have hge := grownCap_ge w (0 + 1) 0 (slices_Insert_int_int.ren.t 3)
      have hle := grownCap_le_maxLen w (0 + 1) 0 (slices_Insert_int_int.ren.t 3) hmx
      generalize grownCap w (0 + 1) 0 (slices_Insert_int_int.ren.t 3) = gc at hge hle ⊢
      exact ⟨_, rfl, slices_Insert_int_int.fresh (xs := [x]) hB (below_alloc (below_drew (Below.refl _ _)) _) (heap_alloc_new w.drew _) hge hle (by
        simp [Builtin.zeroCells, Value.cells]; omega) (by simp)⟩
    · have hszk : (Kd.int .i64).sz = 1 := rfl
      rw [hszk, Nat.mul_one] at hcs htk hil
      have hin : inner = l0.map (Value.int .i64) := by
        apply List.ext_getElem?
        intro j
        by_cases hj : j < l0.length
        · have h5 := hrp.2 j _ (List.getElem?_eq_getElem hj)
          rw [hszk, Nat.mul_one] at h5
          have h6 : (inner.drop j).take 1 = [Value.int .i64 l0[j]] := h5
          rw [List.getElem?_map, List.getElem?_eq_getElem hj, Option.map_some]
          have h7 := congrArg (fun l => l[0]?) h6
          simpa [List.getElem?_take, List.getElem?_drop] using h7
        · rw [List.getElem?_eq_none (by omega), List.getElem?_eq_none (by rw [List.length_map]; omega)]
      subst hin
      have hP0 : P0 b := hok0 b rfl
      have hne : vb ≠ b := fun e => hp0 b hP0 (e ▸ hPv)
      have hcm' : cap ≤ 9223372036854775807 := by simpa [maxLen] using hcm
      have hsp : ∀ j, j < cap → (w.cell? ⟨b, j, none⟩).isSome = true := fun j hj => by
        rw [blk_cell hbh j, Array.getElem?_eq_getElem (by omega)]; rfl
      have hfz : ∀ j, w.frozen? ⟨b, j, none⟩ = false := fun j => blk_frozen hbh j
      have hcs0 : ∀ (j : Nat) v, (l0.map (Value.int .i64))[j]? = some v → w.cell? ⟨b, 0 + j, none⟩ = some v := fun j v hj => by
        rw [← htk, List.getElem?_take] at hj
        split at hj
        · rw [Nat.zero_add, blk_cell hbh j, ← Array.getElem?_toList]; exact hj
        · cases hj
      have hmx : l0.length + 1 ≤ maxLen := by simp only [maxLen]; omega
      have hl1 : (l0.map (Value.int .i64)).length = l0.length := List.length_map _
      by_cases hn0 : l0.length = 0
      · obtain rfl := List.eq_nil_of_length_eq_zero hn0
        by_cases hroom : 1 ≤ cap
        · refine (Any2.slices_Insert_int_end_room slices_Insert_int_int.lays b 0 0 cap vb 0 1 vc ([x].map (Value.int .i64)) w (by omega) (by omega) hcm' rfl (fun j hj => by rw [Nat.zero_add]; exact hsp j (by omega)) (fun j hj => hfz _) hvs (slices_Insert_int_int.one _)).mono ?_
          rintro e w' ⟨rfl, rfl⟩
          obtain ⟨cur', h3, h4, h5⟩ := setCells_row ([x].map (Value.int .i64)) (0 + 0) w cur hbh (by simp; omega)
          obtain ⟨s1, s2, s3, s4⟩ := setCells_same b ([x].map (Value.int .i64)) (0 + 0) w
          exact ⟨_, rfl, slices_Insert_int_int.same (xs := [x]) hB (slices_Insert_int_int.far s1 s2 s3 s4 (fun k hk => setCells_far _ _ k hk)) hbb hP0 h3 hroom hcm (by rw [h4]; exact hcs) (by rw [h5]; simp)⟩
        · refine (Any2.slices_Insert_int_end_grow slices_Insert_int_int.lays (some ⟨b, 0, none⟩) 0 cap vb 0 1 vc [] ([x].map (Value.int .i64)) w (by omega) (by omega) (by omega) (by omega) rfl rfl (fun _ => rfl) (fun _ _ j v hj => by simp at hj) hvs (slices_Insert_int_int.one _)).mono ?_
          rintro e w' ⟨rfl, rfl⟩
          have hge := grownCap_ge w (0 + 1) cap (slices_Insert_int_int.ren.t 3)
          have hle := grownCap_le_maxLen w (0 + 1) cap (slices_Insert_int_int.ren.t 3) hmx
          generalize grownCap w (0 + 1) cap (slices_Insert_int_int.ren.t 3) = gc at hge hle ⊢
          exact ⟨_, rfl, slices_Insert_int_int.fresh (xs := [x]) hB (below_alloc (below_drew (Below.refl _ _)) _) (heap_alloc_new w.drew _) hge hle (by
            simp [Builtin.zeroCells, Value.cells]; omega) (by simp)⟩
      · by_cases hroom : l0.length + 1 ≤ cap
        · refine (Any2.slices_Insert_int_shift slices_Insert_int_int.lays b 0 l0.length cap 0 vb 0 1 vc (l0.map (Value.int .i64)) ([x].map (Value.int .i64)) w (by omega) (by omega) hroom hcm' hne hl1 rfl hcs0 (fun j hj => by rw [Nat.zero_add]; exact hsp j (by omega)) (fun j hj => hfz _) hvs (slices_Insert_int_int.one _) (slices_Insert_int_int.one _) 3 3 cells2.size cur.size hshv (by simp [World.shape?, hbh]) (by omega) (blk_frozen hc2 _) (blk_frozen hc2 _)).mono ?_
          rintro e w' ⟨rfl, rfl⟩
          have hbh' : w.drew.heap[b]? = some (.cells cur 3 (0, 0)) := hbh
          obtain ⟨cur1, h3, h4, h5⟩ := setCells_row ((l0.map (Value.int .i64)).drop 0) (0 + (0 + 1)) w.drew cur hbh' (by simp; omega)
          obtain ⟨s1, s2, s3, s4⟩ := setCells_same b ((l0.map (Value.int .i64)).drop 0) (0 + (0 + 1)) w.drew
          have f1 := fun k hk => setCells_far (g := b) ((l0.map (Value.int .i64)).drop 0) (0 + (0 + 1)) (w := w.drew) k hk
          generalize w.drew.setCells b (0 + (0 + 1)) ((l0.map (Value.int .i64)).drop 0) = W1 at h3 s1 s2 s3 s4 f1 ⊢
          obtain ⟨cur2, q3, q4, q5⟩ := setCells_row ([x].map (Value.int .i64)) (0 + 0) W1 cur1 h3 (by simp; omega)
          obtain ⟨t1, t2, t3, t4⟩ := setCells_same b ([x].map (Value.int .i64)) (0 + 0) W1
          refine ⟨_, rfl, slices_Insert_int_int.same (xs := [x] ++ l0) hB (slices_Insert_int_int.far (t1.trans s1) (t2.trans s2) (t3.trans s3) (t4.trans s4) (fun k hk => (setCells_far _ _ k hk).trans (f1 k hk))) hbb hP0 q3 (by simpa using hroom) hcm (by rw [q4, h4]; exact hcs) ?_⟩
          obtain ⟨y, ys, hy⟩ : ∃ y ys, cur.toList = y :: ys := by
            cases hc : cur.toList with
            | nil => rw [← Array.length_toList, hc] at hcs; simp at hcs; omega
            | cons y ys => exact ⟨y, ys, rfl⟩
          rw [q5, h5, hy]
          simp [hl1]
        · refine (Any2.slices_Insert_int_grow slices_Insert_int_int.lays b 0 l0.length cap 0 vb 0 1 vc (l0.map (Value.int .i64)) ([x].map (Value.int .i64)) w (by omega) (by omega) hnc (by omega) (by omega) hl1 rfl hcs0 hvs (slices_Insert_int_int.one _) (slices_Insert_int_int.one _)).mono ?_
          rintro e w' ⟨rfl, rfl⟩
          have hge := grownCap_ge w (l0.length + 1) cap (slices_Insert_int_int.ren.t 3)
          have hle := grownCap_le_maxLen w (l0.length + 1) cap (slices_Insert_int_int.ren.t 3) hmx
          generalize grownCap w (l0.length + 1) cap (slices_Insert_int_int.ren.t 3) = gc at hge hle ⊢
          generalize hcur0 : ((l0.map (Value.int .i64)).take 0).toArray ++ Builtin.zeroCells (Value.int .i64 0).cells (l0.length + 1 - 0) ++ Builtin.zeroCells (Value.int .i64 0).cells (gc - (l0.length + 1)) = cur0
          have hsz0 : cur0.size = gc := by
            rw [← hcur0]
            simp [Builtin.zeroCells, Value.cells]; omega
          clear hcur0
          have hb0 : Below w.heap.size w (w.alloc (.cells cur0 (slices_Insert_int_int.ren.t 3))).drew := below_drew (below_alloc (Below.refl _ _) _)
          have hh0 : (w.alloc (.cells cur0 (slices_Insert_int_int.ren.t 3))).drew.heap[w.heap.size]? = some (.cells cur0 3 (0, 0)) := heap_alloc_new w _
          generalize (w.alloc (.cells cur0 (slices_Insert_int_int.ren.t 3))).drew = W0 at hb0 hh0 ⊢
          obtain ⟨cur1, h3, h4, h5⟩ := setCells_row ([x].map (Value.int .i64)) 0 W0 cur0 hh0 (by simp; omega)
          obtain ⟨s1, s2, s3, s4⟩ := setCells_same w.heap.size ([x].map (Value.int .i64)) 0 W0
          have f1 := fun k hk => setCells_far (g := w.heap.size) ([x].map (Value.int .i64)) 0 (w := W0) k hk
          generalize W0.setCells w.heap.size 0 ([x].map (Value.int .i64)) = W1 at h3 s1 s2 s3 s4 f1 ⊢
          have hb1 : Below w.heap.size w W1.drew := below_drew (pw_below_grown hb0 (some w.heap.size) hb0.size (slices_Insert_int_int.far s1 s2 s3 s4 f1) (fun k e => by injection e with e; omega))
          have h3' : W1.drew.heap[w.heap.size]? = some (.cells cur1 3 (0, 0)) := h3
          generalize W1.drew = W2 at hb1 h3' ⊢
          obtain ⟨cur2, q3, q4, q5⟩ := setCells_row ((l0.map (Value.int .i64)).drop 0) (0 + 1) W2 cur1 h3' (by simp; omega)
          obtain ⟨t1, t2, t3, t4⟩ := setCells_same w.heap.size ((l0.map (Value.int .i64)).drop 0) (0 + 1) W2
          have hb2 := pw_below_grown hb1 (some w.heap.size) hb1.size (slices_Insert_int_int.far t1 t2 t3 t4 (fun k hk => setCells_far _ _ k hk)) (fun k e => by injection e with e; omega)
          refine ⟨_, rfl, slices_Insert_int_int.fresh (xs := [x] ++ l0) hB hb2 q3 hge hle (by rw [q4, h4]; exact hsz0) ?_⟩
          rw [q5, h5]
          simp [hl1]
  · cases h

/-! ### history_weights: function 37 -/
def history_weights.f  : Option (Int × Int × Int × Int × Int × Int × Int × Int) := some (5, 5, 5, 5, 4, 3, 2, 1)
set_option maxHeartbeats 8000000 in
set_option maxRecDepth 100000 in
theorem history_weights.calls  (r1 : Int) (r2 : Int) (r3 : Int) (r4 : Int) (r5 : Int) (r6 : Int) (r7 : Int) (r8 : Int) (w : World) (h : history_weights.f  = some (r1, r2, r3, r4, r5, r6, r7, r8)) :
    Calls Try.prog 37 #[] w fun e w' => e = .returned (.agg #[.int .i64 r1, .int .i64 r2, .int .i64 r3, .int .i64 r4, .int .i64 r5, .int .i64 r6, .int .i64 r7, .int .i64 r8]) ∧ Below w.heap.size w w' := by
  have hu63 := Try.underlying63
  have HB := Aside0.mk (Below.refl w.heap.size w)
  have H : (some (5, 5, 5, 5, 4, 3, 2, 1)) = some (r1, r2, r3, r4, r5, r6, r7, r8) := h
  clear h
  simp only [Option.some.injEq, Prod.mk.injEq] at H
  obtain ⟨rfl, rfl, rfl, rfl, rfl, rfl, rfl, rfl⟩ := H
  go_enter Try.func37, Try.ntmps37
  go_wp2_with (first | ((with_reducible refine gate_dst (N := 0) rfl ?_); refine box_event ?hg (N := 0) ?hd (cs := #[.int .i64 0, .int .i64 0, .int .i64 0, .int .i64 0, .int .i64 0, .int .i64 0, .int .i64 0, .int .i64 0]) (t := 63) ?hr ?_; (case hd => rfl); (case hg => rfl); (case hr => first | (go_simp; done) | (go_simp; rfl)); intro gb113 hg w1 hbox hb; have n0_ := Aside0.mk (below_step (by repeat (first | (with_reducible first | exact HB.out | apply below_alloc | apply pw_below_drewN | apply below_drew1) | exact HB.out)) hb); have n1_ := Aside0.mk (hbox); have n2_ := Aside0.mk ((by rw [hg]; exact (below_size (by repeat (first | (with_reducible first | exact HB.out | apply below_alloc | apply pw_below_drewN | apply below_drew1) | exact HB.out))) : w.heap.size ≤ gb113)); have n3_ := Aside0.mk ((by rw [hg]; exact (below_size (by repeat (first | (with_reducible first | exact HB.out | apply below_alloc | apply pw_below_drewN | apply below_drew1) | exact HB.out))) : w.heap.size ≤ gb113)); clear HB; have HB := n0_; have BK113 := n1_; have GW113 := n2_; have GE113 := n3_; clear n0_ n1_ n2_ n3_; clear hb hbox hg; have hcz2_0 : w1.cell? ⟨gb113, 0, none⟩ = some (.int .i64 0) := (blk_cell BK113.out 0).trans rfl; have hcz2_1 : w1.cell? ⟨gb113, 1, none⟩ = some (.int .i64 0) := (blk_cell BK113.out 1).trans rfl; have hcz2_2 : w1.cell? ⟨gb113, 2, none⟩ = some (.int .i64 0) := (blk_cell BK113.out 2).trans rfl; have hcz2_3 : w1.cell? ⟨gb113, 3, none⟩ = some (.int .i64 0) := (blk_cell BK113.out 3).trans rfl; have hcz2_4 : w1.cell? ⟨gb113, 4, none⟩ = some (.int .i64 0) := (blk_cell BK113.out 4).trans rfl; have hcz2_5 : w1.cell? ⟨gb113, 5, none⟩ = some (.int .i64 0) := (blk_cell BK113.out 5).trans rfl; have hcz2_6 : w1.cell? ⟨gb113, 6, none⟩ = some (.int .i64 0) := (blk_cell BK113.out 6).trans rfl; have hcz2_7 : w1.cell? ⟨gb113, 7, none⟩ = some (.int .i64 0) := (blk_cell BK113.out 7).trans rfl; have hfz2_0 := blk_frozen BK113.out 0; have hfz2_1 := blk_frozen BK113.out 1; have hfz2_2 := blk_frozen BK113.out 2; have hfz2_3 := blk_frozen BK113.out 3; have hfz2_4 := blk_frozen BK113.out 4; have hfz2_5 := blk_frozen BK113.out 5; have hfz2_6 := blk_frozen BK113.out 6; have hfz2_7 := blk_frozen BK113.out 7))
  refine bodyPost_ret (results_cell_row rfl _ _ gb113 63 #[.int .i64 5, .int .i64 5, .int .i64 5, .int .i64 5, .int .i64 4, .int .i64 3, .int .i64 2, .int .i64 1] (0, 0) _ rfl (by (with_reducible repeat (first | refine blk_drewN ?_ _ | refine blk_drew ?_ | refine blk_alloc ?_ _)); refine blk_put (cs := #[.int .i64 5, .int .i64 5, .int .i64 5, .int .i64 5, .int .i64 4, .int .i64 3, .int .i64 2, .int .i64 0]) ?_ 7 _ rfl; (with_reducible repeat (first | refine blk_drewN ?_ _ | refine blk_drew ?_ | refine blk_alloc ?_ _)); refine blk_put (cs := #[.int .i64 5, .int .i64 5, .int .i64 5, .int .i64 5, .int .i64 4, .int .i64 3, .int .i64 0, .int .i64 0]) ?_ 6 _ rfl; (with_reducible repeat (first | refine blk_drewN ?_ _ | refine blk_drew ?_ | refine blk_alloc ?_ _)); refine blk_put (cs := #[.int .i64 5, .int .i64 5, .int .i64 5, .int .i64 5, .int .i64 4, .int .i64 0, .int .i64 0, .int .i64 0]) ?_ 5 _ rfl; (with_reducible repeat (first | refine blk_drewN ?_ _ | refine blk_drew ?_ | refine blk_alloc ?_ _)); refine blk_put (cs := #[.int .i64 5, .int .i64 5, .int .i64 5, .int .i64 5, .int .i64 0, .int .i64 0, .int .i64 0, .int .i64 0]) ?_ 4 _ rfl; (with_reducible repeat (first | refine blk_drewN ?_ _ | refine blk_drew ?_ | refine blk_alloc ?_ _)); refine blk_put (cs := #[.int .i64 5, .int .i64 5, .int .i64 5, .int .i64 0, .int .i64 0, .int .i64 0, .int .i64 0, .int .i64 0]) ?_ 3 _ rfl; (with_reducible repeat (first | refine blk_drewN ?_ _ | refine blk_drew ?_ | refine blk_alloc ?_ _)); refine blk_put (cs := #[.int .i64 5, .int .i64 5, .int .i64 0, .int .i64 0, .int .i64 0, .int .i64 0, .int .i64 0, .int .i64 0]) ?_ 2 _ rfl; (with_reducible repeat (first | refine blk_drewN ?_ _ | refine blk_drew ?_ | refine blk_alloc ?_ _)); refine blk_put (cs := #[.int .i64 5, .int .i64 0, .int .i64 0, .int .i64 0, .int .i64 0, .int .i64 0, .int .i64 0, .int .i64 0]) ?_ 1 _ rfl; (with_reducible repeat (first | refine blk_drewN ?_ _ | refine blk_drew ?_ | refine blk_alloc ?_ _)); refine blk_put (cs := #[.int .i64 0, .int .i64 0, .int .i64 0, .int .i64 0, .int .i64 0, .int .i64 0, .int .i64 0, .int .i64 0]) ?_ 0 _ rfl; (with_reducible repeat (first | refine blk_drewN ?_ _ | refine blk_drew ?_ | refine blk_alloc ?_ _)); exact BK113.out) Try.underlying63 rfl (by kernel_rfl)) rfl ?_
  exact ⟨by first | rfl | (simp [errW_none, errW_some] <;> rfl) | (simp [*, errW_none, errW_some] <;> rfl), by repeat (first | (with_reducible first | exact HB.out | apply below_alloc | apply pw_below_drewN | apply below_drew1 | refine below_set ?_ GE113.out) | exact HB.out)⟩

/-! ### fix_Ratio: function 38 -/
def fix_Ratio.f (k : Nat) (a0 : Int) (a1 : Int) : Option (Int) := (fix_quotient.f k a0 a1).bind fun t114 => (some t114)
theorem fix_Ratio.mono : ∀ a0 a1 k, LeO (fix_Ratio.f k a0 a1) (fix_Ratio.f (k + 1) a0 a1) := by
  intro a0 a1 k
  unfold fix_Ratio.f
  repeat' first
      | (with_reducible exact fix_quotient.mono _ _ _)
      | (with_reducible exact LeO.refl _)
      | (with_reducible exact LeO.none _)
      | (with_reducible refine LeO.ite ?_ ?_)
      | (with_reducible refine LeO.bind ?_ (fun _ => ?_))
      | exact fix_quotient.mono _ _ _
      | exact LeO.none _
      | refine LeO.ite ?_ ?_
      | refine LeO.bind ?_ (fun _ => ?_)
set_option maxHeartbeats 8000000 in
set_option maxRecDepth 100000 in
theorem fix_Ratio.calls (k : Nat) (a0 : Int) (a1 : Int) (r : Int) (w : World) (h : fix_Ratio.f k a0 a1 = some r) :
    Calls Try.prog 38 #[.int .u64 a0, .int .u64 a1] w fun e w' => e = .returned (.int .u64 r) ∧ Drawn0 w w' := by
  have H : ((fix_quotient.f k a0 a1).bind fun t114 => (some t114)) = some r := h
  clear h
  replace H := Option.bind_eq_some_iff.mp H
  obtain ⟨t114, A30, H⟩ := H
  replace H : (some t114) = some r := H
  have A3 := Aside0.mk A30
  clear A30
  obtain rfl := Option.some.inj H
  go_enter Try.func38, Try.ntmps38
  go_wp2_with (first | ((with_reducible refine gate_callee (f := 25) rfl ?_); refine goesL_ (some 7) rfl rfl Try.func25 (by kernel_rfl) rfl #[.int .u64 a0, .int .u64 a1] rfl (by (try simp only [List.map_toArray, List.map_cons, List.map_nil]); first | done | rfl | (simp only [List.length_drop, List.length_take]; rfl)) ?_; (with_reducible refine (fix_quotient.calls k a0 a1 t114 _ A3.out).mono ?_); rintro e w' ⟨rfl, ⟨nd, rfl⟩⟩; refine ⟨_, rfl, ?_⟩))
  go_ret
  exact ⟨by first | rfl | (simp; done) | (simp [*]; done), by repeat (first | exact Drawn0.refl _ | apply Drawn0.step)⟩

/-! ### history_sum: function 32 (told by hand) -/
/-- the weights, the newest interval's first -/
def history_sum.wt (k : Nat) : Int := [5, 5, 5, 5, 4, 3, 2, 1].getD k 0
/-- interval k's weight -/
def history_sum.wk (t : Int) (k : Nat) : Int := if k = 0 then wrap64 (history_sum.wt k * t) else history_sum.wt k
/-- the sums up to interval k -/
def history_sum.acc (l : List Int) (t : Int) : Nat → Int × Int
  | 0 => (0, 0)
  | k + 1 => (wrap64 ((history_sum.acc l t k).1 + wrap64 (history_sum.wk t k * rd l (k : Int))), wrap64 ((history_sum.acc l t k).2 + history_sum.wk t k))
def history_sum.f (k : Nat) (l0 : List Int) (a1 : Int) : Option Int := fix_Ratio.f k (IntKind.u64.wrap (history_sum.acc l0 a1 (min 8 l0.length)).1) (IntKind.u64.wrap (history_sum.acc l0 a1 (min 8 l0.length)).2)
theorem history_sum.mono : ∀ a0 a1 k, LeO (history_sum.f k a0 a1) (history_sum.f (k + 1) a0 a1) := fun _ _ k => fix_Ratio.mono _ _ k
theorem history_sum.ix (k : Nat) (hk : k < 8) (W : World) : (Instr.index 63 (.agg #[.int .i64 5, .int .i64 5, .int .i64 5, .int .i64 5, .int .i64 4, .int .i64 3, .int .i64 2, .int .i64 1]) (.int .i64 (k : Int))).run Try.prog W = .ok (.int .i64 (history_sum.wt k)) W := by
  match k, hk with
  | 0, _ => rfl
  | 1, _ => rfl
  | 2, _ => rfl
  | 3, _ => rfl
  | 4, _ => rfl
  | 5, _ => rfl
  | 6, _ => rfl
  | 7, _ => rfl
set_option maxHeartbeats 4000000 in
set_option maxRecDepth 100000 in
theorem history_sum.calls (k : Nat) (A0 : Option Addr) (c0 : Nat) (l0 : List Int) (a1 : Int) (r : Int) (w : World) (hr0 : Kd.C (Kd.int .i64) w A0 l0.length l0) (hc0 : l0.length ≤ c0) (h : history_sum.f k l0 a1 = some r) :
    Calls Try.prog 32 #[.slice A0 l0.length c0, .int .i64 a1] w fun e w' => e = .returned (.int .u64 r) ∧ Below w.heap.size w w' := by
  have HR := Aside0.mk hr0
  have HH := Aside0.mk h
  have hm := hr0.2.1
  clear hr0 h
  go_enter Try.func32, Try.ntmps32
  go_wp2_with (go_at_call 37; refine (history_weights.calls 5 5 5 5 4 3 2 1 _ rfl).mono ?_; rintro e w1 ⟨rfl, hb1⟩)
  go_loopg [5, 6, 7, 8, 10] 8 (fun gg s5 s6 _ _ s10 wr => ∃ (kk : Nat) (tt aa : Int), kk ≤ 8 ∧ 8 - kk ≤ gg ∧ kk ≤ l0.length ∧ s5 = .int .i64 tt ∧ s6 = .int .i64 aa ∧ s10 = .int .i64 kk ∧ Aside0 (history_sum.acc l0 a1 kk = (tt, aa)) ∧ Aside0 (Below w.heap.size w wr))
  case atStart => exact ⟨0, 0, 0, by omega, by omega, by omega, rfl, rfl, rfl, ⟨rfl⟩, ⟨hb1⟩⟩
  case round =>
    obtain ⟨kk, tt, aa, hk8, hgg, hkl, rfl, rfl, rfl, AC, BW⟩ := hrel
    have hend : min 8 l0.length = kk → ∀ W, Below w.heap.size w W → Calls Try.prog 38 #[.int .u64 (IntKind.u64.wrap tt), .int .u64 (IntKind.u64.wrap aa)] W fun e w' => e = .returned (.int .u64 r) ∧ Below w.heap.size w w' := by
      intro hmin W hW
      refine (fix_Ratio.calls k _ _ r W ?_).mono ?_
      · have := HH.out
        unfold history_sum.f at this
        rw [hmin, AC.out] at this
        exact this
      · rintro e w' ⟨he, hd⟩
        exact ⟨he, hW.trans (hd.below.mono hW.size)⟩
    have HE := Aside0.mk hend
    clear hend
    by_cases h8 : kk < 8
    · have h8z : (kk : Int) < 8 := by omega
      have hix := history_sum.ix kk h8
      by_cases hlt : kk < l0.length
      · have hltz : (kk : Int) < (l0.length : Int) := by omega
        have hgez : ¬ ((kk : Int) ≥ (l0.length : Int)) := by omega
        obtain ⟨ad, rfl, hc⟩ := HR.out.2.2 (by omega)
        obtain ⟨c, _, hK, hcc⟩ := hc kk _ (List.getElem?_eq_getElem hlt)
        have hK' : c = [Value.int .i64 l0[kk]] := hK
        subst hK'
        have hx := hcc 0 _ rfl
        rw [show (Kd.int .i64).sz = 1 from rfl, Nat.mul_one, Nat.add_zero, show l0[kk] = rd l0 (kk : Int) from by simp [rd, List.getD_eq_getElem?_getD, List.getElem?_eq_getElem hlt]] at hx
        replace hx := (BW.out.cell (World.block_lt_of_cell? w _ hx)).trans hx
        clear hc hcc hK
        have hacc : history_sum.acc l0 a1 (kk + 1) = (wrap64 (tt + wrap64 (history_sum.wk a1 kk * rd l0 (kk : Int))), wrap64 (aa + history_sum.wk a1 kk)) := by
          show (wrap64 ((history_sum.acc l0 a1 kk).1 + _), wrap64 ((history_sum.acc l0 a1 kk).2 + _)) = _
          rw [AC.out]
        have HA := Aside0.mk hacc
        clear hacc
        generalize rd l0 (kk : Int) = y at hx HA
        by_cases h0 : kk = 0
        · have h0z : ((kk : Int) == 0) = true := by simp [h0]
          have hw : history_sum.wk a1 kk = wrap64 (history_sum.wt kk * a1) := by unfold history_sum.wk; rw [if_pos h0]
          rw [hw] at HA
          clear hw h0
          generalize history_sum.wt kk = u at hix HA
          go_wp2
          go_roundg (8 - (kk + 1))
          case measure => omega
          case rel => exact ⟨kk + 1, _, _, by omega, by omega, by omega, rfl, rfl, by go_num, HA, BW⟩
        · have h0z : ((kk : Int) == 0) = false := beq_eq_false_iff_ne.2 (by omega)
          have hw : history_sum.wk a1 kk = history_sum.wt kk := by unfold history_sum.wk; rw [if_neg h0]
          rw [hw] at HA
          clear hw
          generalize history_sum.wt kk = u at hix HA
          go_wp2
          go_roundg (8 - (kk + 1))
          case measure => omega
          case rel => exact ⟨kk + 1, _, _, by omega, by omega, by omega, rfl, rfl, by go_num, HA, BW⟩
      · obtain rfl : kk = l0.length := by omega
        have hgez : (l0.length : Int) ≥ (l0.length : Int) := by omega
        generalize history_sum.wt l0.length = u at hix
        go_wp2_with (go_at_call 38; refine (HE.out (by omega) _ BW.out).mono ?_; rintro e w' ⟨rfl, hb'⟩)
        go_ret
        exact ⟨rfl, hb'⟩
    · obtain rfl : kk = 8 := by omega
      go_wp2_with (go_at_call 38; refine (HE.out (by omega) _ BW.out).mono ?_; rintro e w' ⟨rfl, hb'⟩)
      go_ret
      exact ⟨rfl, hb'⟩

end Go.Proofs.Ytlfjcelippfanaa.PHistoryMeans
