-- Written by ext.sh (the session's own program, over the kit's printer) out of the translation. Lean checks it.
import Derived.Test.YtkaglddebpmcmaaPBucketCopiesx0
import Derived.Test.YtkaglddebpmcmaaPBucketCopiesx1
import Derived.Test.YtkaglddebpmcmaaPBucketCopiesx2
namespace Go.Proofs.Ytkaglddebpmcmaa.PBucketCopies
open Go.RowKit Go.Proofs.YtkaglddebpmcmaaW.PrintWords Go.Proofs.YtkaglddebpmcmaaW.PrintLast Go.Proofs.YtkaglddebpmcmaaW.PrintMore
attribute [local go_sem] max2_int min2_int max_two min_two max_three min_three max_four min_four   -- for this text's walks alone
set_option linter.unusedVariables false
set_option linter.unusedSimpArgs false

/-! ### terracelaw20_BucketCopies: function 5 -/
mutual
def terracelaw20_BucketCopies.j0 : Nat → Int → List (S33) → List (S33) → Bool → Option (Bool)
  | 0, _, _, _, _ => none
  | k + 1, x0, x1, x2, x28 => if x28 = true then ((terracelaw20_awake.f k).bind fun t177 => (some t177)) else (if bucket_New.ok x0 = true then ((bucket_New.f x0).bind fun bt178 => (if bt178.2.2.2 = 0 then (terracelaw20_BucketCopies.j1 k x1 x2 false bt178.1 bt178.2.1 bt178.2.2.1) else (terracelaw20_BucketCopies.j1 k x1 x2 true bt178.1 bt178.2.1 bt178.2.2.1))) else ((bucket_New_no.f x0).bind fun t229 => (if t229 = 0 then (terracelaw20_BucketCopies.j3 k true) else (terracelaw20_BucketCopies.j3 k true))))
def terracelaw20_BucketCopies.j1 : Nat → List (S33) → List (S33) → Bool → Int → Int → Int → Option (Bool)
  | 0, _, _, _, _, _, _ => none
  | k + 1, x1, x2, x40, x182000, x182001, x182002 => if x40 = true then (some false) else ((terracelaw20_BucketCopies_1.f k x182000 x182001 x182002 x1).bind fun bt183 => ((bucket_Bucket_Copy.f bt183.1 bt183.2.1 bt183.2.2).bind fun bt186 => ((bucket_Bucket_Tokens.f bt183.1 bt183.2.1 bt183.2.2).bind fun bt190 => ((bucket_Bucket_Spent.f bt190.2.1 bt190.2.2.1 bt190.2.2.2).bind fun bt194 => ((terracelaw20_BucketCopies_1.f k bt186.1 bt186.2.1 bt186.2.2 x2).bind fun bt198 => ((bucket_Bucket_Tokens.f bt194.2.1 bt194.2.2.1 bt194.2.2.2).bind fun bt201 => (if bt201.1 = bt190.1 then ((bucket_Bucket_Spent.f bt201.2.1 bt201.2.2.1 bt201.2.2.2).bind fun bt205 => (terracelaw20_BucketCopies.j2 k x2 (bt205.1 != bt194.1) bt205.2.1 bt205.2.2.1 bt205.2.2.2 bt198.1 bt198.2.1 bt198.2.2)) else (terracelaw20_BucketCopies.j2 k x2 true bt201.2.1 bt201.2.2.1 bt201.2.2.2 bt198.1 bt198.2.1 bt198.2.2))))))))
def terracelaw20_BucketCopies.j2 : Nat → List (S33) → Bool → Int → Int → Int → Int → Int → Int → Option (Bool)
  | 0, _, _, _, _, _, _, _, _ => none
  | k + 1, x2, x66, x182000, x182001, x182002, x190000, x190001, x190002 => if x66 = true then (some false) else ((terracelaw20_BucketCopies_1.f k x182000 x182001 x182002 x2).bind fun bt209 => ((bucket_Bucket_Tokens.f bt209.1 bt209.2.1 bt209.2.2).bind fun bt212 => ((bucket_Bucket_Tokens.f x190000 x190001 x190002).bind fun bt216 => (if bt212.1 = bt216.1 then ((bucket_Bucket_Spent.f bt212.2.1 bt212.2.2.1 bt212.2.2.2).bind fun bt220 => ((bucket_Bucket_Spent.f bt216.2.1 bt216.2.2.1 bt216.2.2.2).bind fun bt224 => (if bt220.1 = bt224.1 then ((terracelaw20_awake.f k).bind fun t228 => (some t228)) else (some false)))) else (some false)))))
def terracelaw20_BucketCopies.j3 : Nat → Bool → Option (Bool)
  | 0, _ => none
  | k + 1, x40 => if x40 = true then (some false) else (none)
end
def terracelaw20_BucketCopies.f (k : Nat) (a0 : Int) (l1 : List (S33)) (l2 : List (S33)) : Option (Bool) := (terracelaw20_small.f k l1).bind fun t175 => (if t175 = true then ((terracelaw20_small.f k l2).bind fun t176 => (if t176 = true then (if a0 < 1 then (terracelaw20_BucketCopies.j0 k a0 l1 l2 true) else (terracelaw20_BucketCopies.j0 k a0 l1 l2 (decide (a0 > 320)))) else (terracelaw20_BucketCopies.j0 k a0 l1 l2 true))) else (terracelaw20_BucketCopies.j0 k a0 l1 l2 true))
theorem terracelaw20_BucketCopies.mono_l : ∀ k, (∀ y0 y1 y2 y3, LeO (terracelaw20_BucketCopies.j0 k y0 y1 y2 y3) (terracelaw20_BucketCopies.j0 (k + 1) y0 y1 y2 y3)) ∧ (∀ y0 y1 y2 y3 y4 y5, LeO (terracelaw20_BucketCopies.j1 k y0 y1 y2 y3 y4 y5) (terracelaw20_BucketCopies.j1 (k + 1) y0 y1 y2 y3 y4 y5)) ∧ (∀ y0 y1 y2 y3 y4 y5 y6 y7, LeO (terracelaw20_BucketCopies.j2 k y0 y1 y2 y3 y4 y5 y6 y7) (terracelaw20_BucketCopies.j2 (k + 1) y0 y1 y2 y3 y4 y5 y6 y7)) ∧ (∀ y0, LeO (terracelaw20_BucketCopies.j3 k y0) (terracelaw20_BucketCopies.j3 (k + 1) y0))
  | 0 => ⟨fun _ _ _ _ r h => by simp [terracelaw20_BucketCopies.j0] at h, fun _ _ _ _ _ _ r h => by simp [terracelaw20_BucketCopies.j1] at h, fun _ _ _ _ _ _ _ _ r h => by simp [terracelaw20_BucketCopies.j2] at h, fun _ r h => by simp [terracelaw20_BucketCopies.j3] at h⟩
  | k + 1 => by
    obtain ⟨ih0, ih1, ih2, ih3⟩ := terracelaw20_BucketCopies.mono_l k
    refine ⟨?_, ?_, ?_, ?_⟩
    · intro y0 y1 y2 y3
      unfold terracelaw20_BucketCopies.j0
      repeat' first
      | (with_reducible exact ih0 _ _ _ _)
      | (with_reducible exact ih1 _ _ _ _ _ _)
      | (with_reducible exact ih2 _ _ _ _ _ _ _ _)
      | (with_reducible exact ih3 _)
      | (with_reducible exact terracelaw20_BucketCopies_1.mono _ _ _ _ _)
      | (with_reducible exact terracelaw20_awake.mono _)
      | (with_reducible exact terracelaw20_small.mono _ _)
      | (with_reducible exact LeO.refl _)
      | (with_reducible exact LeO.none _)
      | (with_reducible refine LeO.ite ?_ ?_)
      | (with_reducible refine LeO.bind ?_ (fun _ => ?_))
      | exact ih0 _ _ _ _
      | exact ih1 _ _ _ _ _ _
      | exact ih2 _ _ _ _ _ _ _ _
      | exact ih3 _
      | exact terracelaw20_BucketCopies_1.mono _ _ _ _ _
      | exact terracelaw20_awake.mono _
      | exact terracelaw20_small.mono _ _
      | exact LeO.none _
      | refine LeO.ite ?_ ?_
      | refine LeO.bind ?_ (fun _ => ?_)
    · intro y0 y1 y2 y3 y4 y5
      unfold terracelaw20_BucketCopies.j1
      repeat' first
      | (with_reducible exact ih0 _ _ _ _)
      | (with_reducible exact ih1 _ _ _ _ _ _)
      | (with_reducible exact ih2 _ _ _ _ _ _ _ _)
      | (with_reducible exact ih3 _)
      | (with_reducible exact terracelaw20_BucketCopies_1.mono _ _ _ _ _)
      | (with_reducible exact terracelaw20_awake.mono _)
      | (with_reducible exact terracelaw20_small.mono _ _)
      | (with_reducible exact LeO.refl _)
      | (with_reducible exact LeO.none _)
      | (with_reducible refine LeO.ite ?_ ?_)
      | (with_reducible refine LeO.bind ?_ (fun _ => ?_))
      | exact ih0 _ _ _ _
      | exact ih1 _ _ _ _ _ _
      | exact ih2 _ _ _ _ _ _ _ _
      | exact ih3 _
      | exact terracelaw20_BucketCopies_1.mono _ _ _ _ _
      | exact terracelaw20_awake.mono _
      | exact terracelaw20_small.mono _ _
      | exact LeO.none _
      | refine LeO.ite ?_ ?_
      | refine LeO.bind ?_ (fun _ => ?_)
    · intro y0 y1 y2 y3 y4 y5 y6 y7
      unfold terracelaw20_BucketCopies.j2
      repeat' first
      | (with_reducible exact ih0 _ _ _ _)
      | (with_reducible exact ih1 _ _ _ _ _ _)
      | (with_reducible exact ih2 _ _ _ _ _ _ _ _)
      | (with_reducible exact ih3 _)
      | (with_reducible exact terracelaw20_BucketCopies_1.mono _ _ _ _ _)
      | (with_reducible exact terracelaw20_awake.mono _)
      | (with_reducible exact terracelaw20_small.mono _ _)
      | (with_reducible exact LeO.refl _)
      | (with_reducible exact LeO.none _)
      | (with_reducible refine LeO.ite ?_ ?_)
      | (with_reducible refine LeO.bind ?_ (fun _ => ?_))
      | exact ih0 _ _ _ _
      | exact ih1 _ _ _ _ _ _
      | exact ih2 _ _ _ _ _ _ _ _
      | exact ih3 _
      | exact terracelaw20_BucketCopies_1.mono _ _ _ _ _
      | exact terracelaw20_awake.mono _
      | exact terracelaw20_small.mono _ _
      | exact LeO.none _
      | refine LeO.ite ?_ ?_
      | refine LeO.bind ?_ (fun _ => ?_)
    · intro y0
      unfold terracelaw20_BucketCopies.j3
      repeat' first
      | (with_reducible exact ih0 _ _ _ _)
      | (with_reducible exact ih1 _ _ _ _ _ _)
      | (with_reducible exact ih2 _ _ _ _ _ _ _ _)
      | (with_reducible exact ih3 _)
      | (with_reducible exact terracelaw20_BucketCopies_1.mono _ _ _ _ _)
      | (with_reducible exact terracelaw20_awake.mono _)
      | (with_reducible exact terracelaw20_small.mono _ _)
      | (with_reducible exact LeO.refl _)
      | (with_reducible exact LeO.none _)
      | (with_reducible refine LeO.ite ?_ ?_)
      | (with_reducible refine LeO.bind ?_ (fun _ => ?_))
      | exact ih0 _ _ _ _
      | exact ih1 _ _ _ _ _ _
      | exact ih2 _ _ _ _ _ _ _ _
      | exact ih3 _
      | exact terracelaw20_BucketCopies_1.mono _ _ _ _ _
      | exact terracelaw20_awake.mono _
      | exact terracelaw20_small.mono _ _
      | exact LeO.none _
      | refine LeO.ite ?_ ?_
      | refine LeO.bind ?_ (fun _ => ?_)
theorem terracelaw20_BucketCopies.mono : ∀ a0 a1 a2 k, LeO (terracelaw20_BucketCopies.f k a0 a1 a2) (terracelaw20_BucketCopies.f (k + 1) a0 a1 a2) := by
  intro a0 a1 a2 k
  obtain ⟨ih0, ih1, ih2, ih3⟩ := terracelaw20_BucketCopies.mono_l k
  unfold terracelaw20_BucketCopies.f
  repeat' first
      | (with_reducible exact ih0 _ _ _ _)
      | (with_reducible exact ih1 _ _ _ _ _ _)
      | (with_reducible exact ih2 _ _ _ _ _ _ _ _)
      | (with_reducible exact ih3 _)
      | (with_reducible exact terracelaw20_BucketCopies_1.mono _ _ _ _ _)
      | (with_reducible exact terracelaw20_awake.mono _)
      | (with_reducible exact terracelaw20_small.mono _ _)
      | (with_reducible exact LeO.refl _)
      | (with_reducible exact LeO.none _)
      | (with_reducible refine LeO.ite ?_ ?_)
      | (with_reducible refine LeO.bind ?_ (fun _ => ?_))
      | exact ih0 _ _ _ _
      | exact ih1 _ _ _ _ _ _
      | exact ih2 _ _ _ _ _ _ _ _
      | exact ih3 _
      | exact terracelaw20_BucketCopies_1.mono _ _ _ _ _
      | exact terracelaw20_awake.mono _
      | exact terracelaw20_small.mono _ _
      | exact LeO.none _
      | refine LeO.ite ?_ ?_
      | refine LeO.bind ?_ (fun _ => ?_)
set_option maxHeartbeats 8000000 in
set_option maxRecDepth 100000 in
theorem terracelaw20_BucketCopies.calls (k : Nat) (a0 : Int) (A1 : Option Addr) (c1 : Nat) (l1 : List (S33)) (A2 : Option Addr) (c2 : Nat) (l2 : List (S33)) (r : Bool) (w : World) (hr1 : Kd.C k33 w A1 l1.length l1) (hc1 : l1.length ≤ c1) (hr2 : Kd.C k33 w A2 l2.length l2) (hc2 : l2.length ≤ c2) (h : terracelaw20_BucketCopies.f k a0 l1 l2 = some r) :
    Calls Try.prog 5 #[.int .i64 a0, .slice A1 l1.length c1, .slice A2 l2.length c2] w fun e w' => e = .returned (.bool r) ∧ Below w.heap.size w w' := by
  have hup25 := Try.underlying25
  have HR1 := Aside0.mk hr1
  have HC1 := Aside0.mk hc1
  clear hr1 hc1
  have HR2 := Aside0.mk hr2
  have HC2 := Aside0.mk hc2
  clear hr2 hc2
  have HB := Aside0.mk (Below.refl w.heap.size w)
  have H : ((terracelaw20_small.f k l1).bind fun t175 => (if t175 = true then ((terracelaw20_small.f k l2).bind fun t176 => (if t176 = true then (if a0 < 1 then (terracelaw20_BucketCopies.j0 k a0 l1 l2 true) else (terracelaw20_BucketCopies.j0 k a0 l1 l2 (decide (a0 > 320)))) else (terracelaw20_BucketCopies.j0 k a0 l1 l2 true))) else (terracelaw20_BucketCopies.j0 k a0 l1 l2 true))) = some r := h
  clear h
  have HC4 := Aside0.mk H
  clear H
  go_enter Try.func5, Try.ntmps5
  go_upto_region 1 with (fail)
  go_cut [28] (fun v28 wc => ∃ (kq : Nat) (x28_3 : Bool), v28 = .bool x28_3 ∧ Aside0 (terracelaw20_BucketCopies.j0 kq a0 l1 l2 x28_3 = some r) ∧ Aside0 (kq ≤ k) ∧ Aside0 (Below w.heap.size w wc))
  case first =>
    have H := HC4.out
    clear HC4
    replace H := Option.bind_eq_some_iff.mp H
    obtain ⟨t175, A50, H⟩ := H
    replace H : (if t175 = true then ((terracelaw20_small.f k l2).bind fun t176 => (if t176 = true then (if a0 < 1 then (terracelaw20_BucketCopies.j0 k a0 l1 l2 true) else (terracelaw20_BucketCopies.j0 k a0 l1 l2 (decide (a0 > 320)))) else (terracelaw20_BucketCopies.j0 k a0 l1 l2 true))) else (terracelaw20_BucketCopies.j0 k a0 l1 l2 true)) = some r := H
    have A5 := Aside0.mk A50
    clear A50
    by_cases c6 : t175 = true
    · subst c6
      have H1 : ((terracelaw20_small.f k l2).bind fun t176 => (if t176 = true then (if a0 < 1 then (terracelaw20_BucketCopies.j0 k a0 l1 l2 true) else (terracelaw20_BucketCopies.j0 k a0 l1 l2 (decide (a0 > 320)))) else (terracelaw20_BucketCopies.j0 k a0 l1 l2 true))) = some r := by rw [if_pos rfl] at H; exact H
      clear H
      have H := H1
      clear H1
      replace H := Option.bind_eq_some_iff.mp H
      obtain ⟨t176, A70, H⟩ := H
      replace H : (if t176 = true then (if a0 < 1 then (terracelaw20_BucketCopies.j0 k a0 l1 l2 true) else (terracelaw20_BucketCopies.j0 k a0 l1 l2 (decide (a0 > 320)))) else (terracelaw20_BucketCopies.j0 k a0 l1 l2 true)) = some r := H
      have A7 := Aside0.mk A70
      clear A70
      by_cases c8 : t176 = true
      · subst c8
        have H1 : (if a0 < 1 then (terracelaw20_BucketCopies.j0 k a0 l1 l2 true) else (terracelaw20_BucketCopies.j0 k a0 l1 l2 (decide (a0 > 320)))) = some r := by rw [if_pos rfl] at H; exact H
        clear H
        have H := H1
        clear H1
        by_cases c9 : a0 < 1
        · rw [if_pos c9] at H
          have c9b0 : decide (a0 < 1) = true := decide_eq_true c9
          clear c9
          (first | rw [c9b0] | (simp only [i64_w, i32_w]; rw [c9b0]) | skip)
          have H' := Aside0.mk H
          clear H
          go_wp2_with (first | ((with_reducible refine gate_callee (f := 8) rfl ?_); refine goesL_ (some 14) rfl rfl Try.func8 (by kernel_rfl) rfl #[.slice A1 l1.length c1] rfl (by (try simp only [List.map_toArray, List.map_cons, List.map_nil]); first | done | rfl | (simp only [List.length_drop, List.length_take]; rfl)) ?_; (with_reducible refine (terracelaw20_small.calls k _ _ l1 true _ ?side1 ?side2 A5.out).mono ?_); (case side1 => repeat (first | exact (Kd.C_below HR1.out HB.out) | (with_reducible refine Kd.C_alloc ?_ _) | (with_reducible refine Kd.C_drewN ?_ _) | (with_reducible refine Kd.C_drew ?_))); (case side2 => exact HC1.out); rintro e w10 ⟨rfl, hb⟩; refine ⟨_, rfl, ?_⟩; have n0_ := Aside0.mk (below_step (by repeat (first | (with_reducible first | exact HB.out | apply below_alloc | apply pw_below_drewN | apply below_drew1) | exact HB.out)) hb); clear HB; have HB := n0_; clear n0_; (try clear hb); (try clear hb2); (try clear hk); (try clear hi)) | (go_at_call 8; (with_reducible refine (terracelaw20_small.calls k _ _ l2 true _ ?side1 ?side2 A7.out).mono ?_); (case side1 => repeat (first | exact (Kd.C_below HR2.out HB.out) | (with_reducible refine Kd.C_alloc ?_ _) | (with_reducible refine Kd.C_drewN ?_ _) | (with_reducible refine Kd.C_drew ?_))); (case side2 => exact HC2.out); rintro e w11 ⟨rfl, hb⟩; have n0_ := Aside0.mk (below_step (by repeat (first | (with_reducible first | exact HB.out | apply below_alloc | apply pw_below_drewN | apply below_drew1) | exact HB.out)) hb); clear HB; have HB := n0_; clear n0_; (try clear hb); (try clear hb2); (try clear hk); (try clear hi)))
          go_meet
          case rel => exact ⟨_, (true), (by first | rfl | (simp; done) | (simp [*]; done)), H', ⟨by first | omega | exact Nat.le_refl _⟩, ⟨by repeat (first | (with_reducible first | exact HB.out | apply below_alloc | apply pw_below_drewN | apply below_drew1) | exact HB.out)⟩⟩
        · rw [if_neg c9] at H
          have c9b0 : decide (a0 < 1) = false := decide_eq_false c9
          clear c9
          (first | rw [c9b0] | (simp only [i64_w, i32_w]; rw [c9b0]) | skip)
          have H' := Aside0.mk H
          clear H
          go_wp2_with (first | ((with_reducible refine gate_callee (f := 8) rfl ?_); refine goesL_ (some 14) rfl rfl Try.func8 (by kernel_rfl) rfl #[.slice A1 l1.length c1] rfl (by (try simp only [List.map_toArray, List.map_cons, List.map_nil]); first | done | rfl | (simp only [List.length_drop, List.length_take]; rfl)) ?_; (with_reducible refine (terracelaw20_small.calls k _ _ l1 true _ ?side1 ?side2 A5.out).mono ?_); (case side1 => repeat (first | exact (Kd.C_below HR1.out HB.out) | (with_reducible refine Kd.C_alloc ?_ _) | (with_reducible refine Kd.C_drewN ?_ _) | (with_reducible refine Kd.C_drew ?_))); (case side2 => exact HC1.out); rintro e w12 ⟨rfl, hb⟩; refine ⟨_, rfl, ?_⟩; have n0_ := Aside0.mk (below_step (by repeat (first | (with_reducible first | exact HB.out | apply below_alloc | apply pw_below_drewN | apply below_drew1) | exact HB.out)) hb); clear HB; have HB := n0_; clear n0_; (try clear hb); (try clear hb2); (try clear hk); (try clear hi)) | (go_at_call 8; (with_reducible refine (terracelaw20_small.calls k _ _ l2 true _ ?side1 ?side2 A7.out).mono ?_); (case side1 => repeat (first | exact (Kd.C_below HR2.out HB.out) | (with_reducible refine Kd.C_alloc ?_ _) | (with_reducible refine Kd.C_drewN ?_ _) | (with_reducible refine Kd.C_drew ?_))); (case side2 => exact HC2.out); rintro e w13 ⟨rfl, hb⟩; have n0_ := Aside0.mk (below_step (by repeat (first | (with_reducible first | exact HB.out | apply below_alloc | apply pw_below_drewN | apply below_drew1) | exact HB.out)) hb); clear HB; have HB := n0_; clear n0_; (try clear hb); (try clear hb2); (try clear hk); (try clear hi)))
          go_meet
          case rel => exact ⟨_, (decide (a0 > 320)), (by first | rfl | (simp; done) | (simp [*]; done)), H', ⟨by first | omega | exact Nat.le_refl _⟩, ⟨by repeat (first | (with_reducible first | exact HB.out | apply below_alloc | apply pw_below_drewN | apply below_drew1) | exact HB.out)⟩⟩
      · replace c8 := Bool.eq_false_iff.mpr c8
        subst c8
        have H1 : (terracelaw20_BucketCopies.j0 k a0 l1 l2 true) = some r := by rw [if_neg (show ¬ (false = true) by decide)] at H; exact H
        clear H
        have H := H1
        clear H1
        have H' := Aside0.mk H
        clear H
        go_wp2_with (first | ((with_reducible refine gate_callee (f := 8) rfl ?_); refine goesL_ (some 14) rfl rfl Try.func8 (by kernel_rfl) rfl #[.slice A1 l1.length c1] rfl (by (try simp only [List.map_toArray, List.map_cons, List.map_nil]); first | done | rfl | (simp only [List.length_drop, List.length_take]; rfl)) ?_; (with_reducible refine (terracelaw20_small.calls k _ _ l1 true _ ?side1 ?side2 A5.out).mono ?_); (case side1 => repeat (first | exact (Kd.C_below HR1.out HB.out) | (with_reducible refine Kd.C_alloc ?_ _) | (with_reducible refine Kd.C_drewN ?_ _) | (with_reducible refine Kd.C_drew ?_))); (case side2 => exact HC1.out); rintro e w14 ⟨rfl, hb⟩; refine ⟨_, rfl, ?_⟩; have n0_ := Aside0.mk (below_step (by repeat (first | (with_reducible first | exact HB.out | apply below_alloc | apply pw_below_drewN | apply below_drew1) | exact HB.out)) hb); clear HB; have HB := n0_; clear n0_; (try clear hb); (try clear hb2); (try clear hk); (try clear hi)) | (go_at_call 8; (with_reducible refine (terracelaw20_small.calls k _ _ l2 false _ ?side1 ?side2 A7.out).mono ?_); (case side1 => repeat (first | exact (Kd.C_below HR2.out HB.out) | (with_reducible refine Kd.C_alloc ?_ _) | (with_reducible refine Kd.C_drewN ?_ _) | (with_reducible refine Kd.C_drew ?_))); (case side2 => exact HC2.out); rintro e w15 ⟨rfl, hb⟩; have n0_ := Aside0.mk (below_step (by repeat (first | (with_reducible first | exact HB.out | apply below_alloc | apply pw_below_drewN | apply below_drew1) | exact HB.out)) hb); clear HB; have HB := n0_; clear n0_; (try clear hb); (try clear hb2); (try clear hk); (try clear hi)))
        go_meet
        case rel => exact ⟨_, (true), (by first | rfl | (simp; done) | (simp [*]; done)), H', ⟨by first | omega | exact Nat.le_refl _⟩, ⟨by repeat (first | (with_reducible first | exact HB.out | apply below_alloc | apply pw_below_drewN | apply below_drew1) | exact HB.out)⟩⟩
    · replace c6 := Bool.eq_false_iff.mpr c6
      subst c6
      have H1 : (terracelaw20_BucketCopies.j0 k a0 l1 l2 true) = some r := by rw [if_neg (show ¬ (false = true) by decide)] at H; exact H
      clear H
      have H := H1
      clear H1
      have H' := Aside0.mk H
      clear H
      go_wp2_with (first | ((with_reducible refine gate_callee (f := 8) rfl ?_); refine goesL_ (some 14) rfl rfl Try.func8 (by kernel_rfl) rfl #[.slice A1 l1.length c1] rfl (by (try simp only [List.map_toArray, List.map_cons, List.map_nil]); first | done | rfl | (simp only [List.length_drop, List.length_take]; rfl)) ?_; (with_reducible refine (terracelaw20_small.calls k _ _ l1 false _ ?side1 ?side2 A5.out).mono ?_); (case side1 => repeat (first | exact (Kd.C_below HR1.out HB.out) | (with_reducible refine Kd.C_alloc ?_ _) | (with_reducible refine Kd.C_drewN ?_ _) | (with_reducible refine Kd.C_drew ?_))); (case side2 => exact HC1.out); rintro e w16 ⟨rfl, hb⟩; refine ⟨_, rfl, ?_⟩; have n0_ := Aside0.mk (below_step (by repeat (first | (with_reducible first | exact HB.out | apply below_alloc | apply pw_below_drewN | apply below_drew1) | exact HB.out)) hb); clear HB; have HB := n0_; clear n0_; (try clear hb); (try clear hb2); (try clear hk); (try clear hi)))
      go_meet
      case rel => exact ⟨_, (true), (by first | rfl | (simp; done) | (simp [*]; done)), H', ⟨by first | omega | exact Nat.le_refl _⟩, ⟨by repeat (first | (with_reducible first | exact HB.out | apply below_alloc | apply pw_below_drewN | apply below_drew1) | exact HB.out)⟩⟩
  case rest =>
    clear HC4
    try clear c1
    try clear c2
    try clear p2
    try clear c5
    try clear c6
    try clear c8
    try clear c9
    try clear c9b0
    obtain ⟨kq, x28_3, rfl, HA, HJ3, HB⟩ := hcut
    cases kq with
    | zero => exact absurd HA.out (by simp [terracelaw20_BucketCopies.j0])
    | succ kj3 =>
      have H := HA.out
      clear HA
      simp only [terracelaw20_BucketCopies.j0] at H
      by_cases c17 : x28_3 = true
      · subst c17
        have H1 : ((terracelaw20_awake.f kj3).bind fun t177 => (some t177)) = some r := by rw [if_pos rfl] at H; exact H
        clear H
        have H := H1
        clear H1
        replace H := Option.bind_eq_some_iff.mp H
        obtain ⟨t177, A180, H⟩ := H
        replace H : (some t177) = some r := H
        have A18 := Aside0.mk A180
        clear A180
        obtain rfl := Option.some.inj H
        go_wp2_with (first | ((with_reducible refine gate_callee (f := 9) rfl ?_); refine goesL_ (some 29) rfl rfl Try.func9 (by kernel_rfl) rfl #[] rfl (by (try simp only [List.map_toArray, List.map_cons, List.map_nil]); first | done | rfl | (simp only [List.length_drop, List.length_take]; rfl)) ?_; (with_reducible refine (terracelaw20_awake.calls kj3  t177 _ A18.out).mono ?_); rintro e w19 ⟨rfl, hb⟩; refine ⟨_, rfl, ?_⟩; have n0_ := Aside0.mk (below_step (by repeat (first | (with_reducible first | exact HB.out | apply below_alloc | apply pw_below_drewN | apply below_drew1) | exact HB.out)) hb); clear HB; have HB := n0_; clear n0_; (try clear hb); (try clear hb2); (try clear hk); (try clear hi)))
        go_ret
        exact ⟨by first | rfl | (simp [errW_none, errW_some] <;> rfl) | (simp [*, errW_none, errW_some] <;> rfl), by repeat (first | (with_reducible first | exact HB.out | apply below_alloc | apply pw_below_drewN | apply below_drew1) | exact HB.out)⟩
      · replace c17 := Bool.eq_false_iff.mpr c17
        subst c17
        have H1 : (if bucket_New.ok a0 = true then ((bucket_New.f a0).bind fun bt178 => (if bt178.2.2.2 = 0 then (terracelaw20_BucketCopies.j1 kj3 l1 l2 false bt178.1 bt178.2.1 bt178.2.2.1) else (terracelaw20_BucketCopies.j1 kj3 l1 l2 true bt178.1 bt178.2.1 bt178.2.2.1))) else ((bucket_New_no.f a0).bind fun t229 => (if t229 = 0 then (terracelaw20_BucketCopies.j3 kj3 true) else (terracelaw20_BucketCopies.j3 kj3 true)))) = some r := by rw [if_neg (show ¬ (false = true) by decide)] at H; exact H
        clear H
        have H := H1
        clear H1
        by_cases c20 : bucket_New.ok a0 = true
        · rw [if_pos c20] at H
          have c20b0 : bucket_New.ok a0 = true := c20
          clear c20
          replace H := Option.bind_eq_some_iff.mp H
          obtain ⟨⟨t178, t179, t180, t182⟩, A210, H⟩ := H
          replace H : (if t182 = 0 then (terracelaw20_BucketCopies.j1 kj3 l1 l2 false t178 t179 t180) else (terracelaw20_BucketCopies.j1 kj3 l1 l2 true t178 t179 t180)) = some r := H
          have A21 := Aside0.mk A210
          clear A210
          have HC22 := Aside0.mk H
          clear H
          go_upto_region 4 with (first | ((with_reducible refine gate_callee (f := 10) rfl ?_); refine goesL_ (some 32) rfl rfl Try.func10 (by kernel_rfl) rfl #[.int .i64 a0] rfl (by (try simp only [List.map_toArray, List.map_cons, List.map_nil]); first | done | rfl | (simp only [List.length_drop, List.length_take]; rfl)) ?_; (with_reducible refine (bucket_New.calls a0 t178 t179 t180 t182 _ A21.out).mono ?_); rintro e w23 ⟨g181, rfl, hi0, hb2⟩; refine ⟨_, rfl, ?_⟩; have hi : IsS62 w w23 g181 t178 t179 t180 := ⟨hi0.1, Nat.le_trans (below_size (by repeat (first | (with_reducible first | exact HB.out | apply below_alloc | apply pw_below_drewN | apply below_drew1) | exact HB.out))) hi0.2⟩; have hb := below_step (by repeat (first | (with_reducible first | exact HB.out | apply below_alloc | apply pw_below_drewN | apply below_drew1) | exact HB.out)) hb2; have n0_ := Aside0.mk (hb); have n1_ := Aside0.mk (hi); clear HB; have HB := n0_; have HI181 := n1_; clear n0_ n1_; (try clear hb); (try clear hb2); (try clear hk); (try clear hi)))
          (try simp only [Act.put, List.setIfInBounds_toArray, List.set_cons_zero, List.set_cons_succ])
          go_cut [40] (fun v40 wc => ∃ (kq : Nat) (x40_21 : Bool), v40 = .bool x40_21 ∧ Aside0 (terracelaw20_BucketCopies.j1 kq l1 l2 x40_21 t178 t179 t180 = some r) ∧ Aside0 (kq ≤ kj3) ∧ Aside0 (IsS62 w wc g181 t178 t179 t180) ∧ Aside0 (Below w.heap.size w wc))
          case first =>
            have H := HC22.out
            clear HC22
            by_cases c24 : t182 = 0
            · rw [if_pos c24] at H
              have c24b0 : (t182 == 0) = true := beq_iff_eq.mpr c24
              have c24b1 : (t182 != 0) = false := bne_eq_false_iff_eq.mpr c24
              clear c24
              (first | rw [c24b0] | (simp only [i64_w, i32_w]; rw [c24b0]) | skip)
              have H' := Aside0.mk H
              clear H
              go_wp2
              go_meet
              case rel => exact ⟨_, (false), (by first | rfl | (simp; done) | (simp [*]; done)), H', ⟨by have := HJ3.out; first | omega | exact Nat.le_refl _⟩, ⟨by repeat (first | (with_reducible first | exact HI181.out | apply IsS62.alloc | apply IsS62.drewN | apply IsS62.drew | apply IsS62.set_0 | apply IsS62.set_1 | apply IsS62.set_2) | exact HI181.out)⟩, ⟨by repeat (first | (with_reducible first | exact HB.out | apply below_alloc | apply pw_below_drewN | apply below_drew1 | refine below_set ?_ (IsS62.ge HI181.out)) | exact HB.out)⟩⟩
            · rw [if_neg c24] at H
              have c24b0 : (t182 == 0) = false := beq_eq_false_iff_ne.mpr c24
              have c24b1 : (t182 != 0) = true := bne_iff_ne.mpr c24
              (first | rw [c24b0] | (simp only [i64_w, i32_w]; rw [c24b0]) | skip)
              have H' := Aside0.mk H
              clear H
              go_wp2
              go_meet
              case rel => exact ⟨_, (true), (by first | rfl | (simp; done) | (simp [*]; done)), H', ⟨by have := HJ3.out; first | omega | exact Nat.le_refl _⟩, ⟨by repeat (first | (with_reducible first | exact HI181.out | apply IsS62.alloc | apply IsS62.drewN | apply IsS62.drew | apply IsS62.set_0 | apply IsS62.set_1 | apply IsS62.set_2) | exact HI181.out)⟩, ⟨by repeat (first | (with_reducible first | exact HB.out | apply below_alloc | apply pw_below_drewN | apply below_drew1 | refine below_set ?_ (IsS62.ge HI181.out)) | exact HB.out)⟩⟩
          case rest =>
            clear HC22
            try clear c1
            try clear c2
            try clear p2
            try clear c5
            try clear c6
            try clear c8
            try clear c9
            try clear c9b0
            try clear c10
            try clear c17
            try clear c20
            try clear c20b0
            try clear c24
            try clear c24b0
            try clear c24b1
            try clear p2
            obtain ⟨kq, x40_21, rfl, HA, HJ21, HI181, HB⟩ := hcut
            cases kq with
            | zero => exact absurd HA.out (by simp [terracelaw20_BucketCopies.j1])
            | succ kj21 =>
              have H := HA.out
              clear HA
              simp only [terracelaw20_BucketCopies.j1] at H
              by_cases c25 : x40_21 = true
              · subst c25
                have H1 : (some false) = some r := by rw [if_pos rfl] at H; exact H
                clear H
                have H := H1
                clear H1
                obtain rfl := Option.some.inj H
                go_wp2
                go_ret
                exact ⟨by first | rfl | (simp [errW_none, errW_some] <;> rfl) | (simp [*, errW_none, errW_some] <;> rfl), by repeat (first | (with_reducible first | exact HB.out | apply below_alloc | apply pw_below_drewN | apply below_drew1 | refine below_set ?_ (IsS62.ge HI181.out)) | exact HB.out)⟩
              · replace c25 := Bool.eq_false_iff.mpr c25
                subst c25
                have H1 : ((terracelaw20_BucketCopies_1.f kj21 t178 t179 t180 l1).bind fun bt183 => ((bucket_Bucket_Copy.f bt183.1 bt183.2.1 bt183.2.2).bind fun bt186 => ((bucket_Bucket_Tokens.f bt183.1 bt183.2.1 bt183.2.2).bind fun bt190 => ((bucket_Bucket_Spent.f bt190.2.1 bt190.2.2.1 bt190.2.2.2).bind fun bt194 => ((terracelaw20_BucketCopies_1.f kj21 bt186.1 bt186.2.1 bt186.2.2 l2).bind fun bt198 => ((bucket_Bucket_Tokens.f bt194.2.1 bt194.2.2.1 bt194.2.2.2).bind fun bt201 => (if bt201.1 = bt190.1 then ((bucket_Bucket_Spent.f bt201.2.1 bt201.2.2.1 bt201.2.2.2).bind fun bt205 => (terracelaw20_BucketCopies.j2 kj21 l2 (bt205.1 != bt194.1) bt205.2.1 bt205.2.2.1 bt205.2.2.2 bt198.1 bt198.2.1 bt198.2.2)) else (terracelaw20_BucketCopies.j2 kj21 l2 true bt201.2.1 bt201.2.2.1 bt201.2.2.2 bt198.1 bt198.2.1 bt198.2.2)))))))) = some r := by rw [if_neg (show ¬ (false = true) by decide)] at H; exact H
                clear H
                have H := H1
                clear H1
                replace H := Option.bind_eq_some_iff.mp H
                obtain ⟨⟨t183, t184, t185⟩, A260, H⟩ := H
                replace H : ((bucket_Bucket_Copy.f t183 t184 t185).bind fun bt186 => ((bucket_Bucket_Tokens.f t183 t184 t185).bind fun bt190 => ((bucket_Bucket_Spent.f bt190.2.1 bt190.2.2.1 bt190.2.2.2).bind fun bt194 => ((terracelaw20_BucketCopies_1.f kj21 bt186.1 bt186.2.1 bt186.2.2 l2).bind fun bt198 => ((bucket_Bucket_Tokens.f bt194.2.1 bt194.2.2.1 bt194.2.2.2).bind fun bt201 => (if bt201.1 = bt190.1 then ((bucket_Bucket_Spent.f bt201.2.1 bt201.2.2.1 bt201.2.2.2).bind fun bt205 => (terracelaw20_BucketCopies.j2 kj21 l2 (bt205.1 != bt194.1) bt205.2.1 bt205.2.2.1 bt205.2.2.2 bt198.1 bt198.2.1 bt198.2.2)) else (terracelaw20_BucketCopies.j2 kj21 l2 true bt201.2.1 bt201.2.2.1 bt201.2.2.2 bt198.1 bt198.2.1 bt198.2.2))))))) = some r := H
                have A26 := Aside0.mk A260
                clear A260
                replace H := Option.bind_eq_some_iff.mp H
                obtain ⟨⟨t186, t187, t188⟩, A270, H⟩ := H
                replace H : ((bucket_Bucket_Tokens.f t183 t184 t185).bind fun bt190 => ((bucket_Bucket_Spent.f bt190.2.1 bt190.2.2.1 bt190.2.2.2).bind fun bt194 => ((terracelaw20_BucketCopies_1.f kj21 t186 t187 t188 l2).bind fun bt198 => ((bucket_Bucket_Tokens.f bt194.2.1 bt194.2.2.1 bt194.2.2.2).bind fun bt201 => (if bt201.1 = bt190.1 then ((bucket_Bucket_Spent.f bt201.2.1 bt201.2.2.1 bt201.2.2.2).bind fun bt205 => (terracelaw20_BucketCopies.j2 kj21 l2 (bt205.1 != bt194.1) bt205.2.1 bt205.2.2.1 bt205.2.2.2 bt198.1 bt198.2.1 bt198.2.2)) else (terracelaw20_BucketCopies.j2 kj21 l2 true bt201.2.1 bt201.2.2.1 bt201.2.2.2 bt198.1 bt198.2.1 bt198.2.2)))))) = some r := H
                have A27 := Aside0.mk A270
                clear A270
                replace H := Option.bind_eq_some_iff.mp H
                obtain ⟨⟨t190, t191, t192, t193⟩, A280, H⟩ := H
                replace H : ((bucket_Bucket_Spent.f t191 t192 t193).bind fun bt194 => ((terracelaw20_BucketCopies_1.f kj21 t186 t187 t188 l2).bind fun bt198 => ((bucket_Bucket_Tokens.f bt194.2.1 bt194.2.2.1 bt194.2.2.2).bind fun bt201 => (if bt201.1 = t190 then ((bucket_Bucket_Spent.f bt201.2.1 bt201.2.2.1 bt201.2.2.2).bind fun bt205 => (terracelaw20_BucketCopies.j2 kj21 l2 (bt205.1 != bt194.1) bt205.2.1 bt205.2.2.1 bt205.2.2.2 bt198.1 bt198.2.1 bt198.2.2)) else (terracelaw20_BucketCopies.j2 kj21 l2 true bt201.2.1 bt201.2.2.1 bt201.2.2.2 bt198.1 bt198.2.1 bt198.2.2))))) = some r := H
                have A28 := Aside0.mk A280
                clear A280
                replace H := Option.bind_eq_some_iff.mp H
                obtain ⟨⟨t194, t195, t196, t197⟩, A290, H⟩ := H
                replace H : ((terracelaw20_BucketCopies_1.f kj21 t186 t187 t188 l2).bind fun bt198 => ((bucket_Bucket_Tokens.f t195 t196 t197).bind fun bt201 => (if bt201.1 = t190 then ((bucket_Bucket_Spent.f bt201.2.1 bt201.2.2.1 bt201.2.2.2).bind fun bt205 => (terracelaw20_BucketCopies.j2 kj21 l2 (bt205.1 != t194) bt205.2.1 bt205.2.2.1 bt205.2.2.2 bt198.1 bt198.2.1 bt198.2.2)) else (terracelaw20_BucketCopies.j2 kj21 l2 true bt201.2.1 bt201.2.2.1 bt201.2.2.2 bt198.1 bt198.2.1 bt198.2.2)))) = some r := H
                have A29 := Aside0.mk A290
                clear A290
                replace H := Option.bind_eq_some_iff.mp H
                obtain ⟨⟨t198, t199, t200⟩, A300, H⟩ := H
                replace H : ((bucket_Bucket_Tokens.f t195 t196 t197).bind fun bt201 => (if bt201.1 = t190 then ((bucket_Bucket_Spent.f bt201.2.1 bt201.2.2.1 bt201.2.2.2).bind fun bt205 => (terracelaw20_BucketCopies.j2 kj21 l2 (bt205.1 != t194) bt205.2.1 bt205.2.2.1 bt205.2.2.2 t198 t199 t200)) else (terracelaw20_BucketCopies.j2 kj21 l2 true bt201.2.1 bt201.2.2.1 bt201.2.2.2 t198 t199 t200))) = some r := H
                have A30 := Aside0.mk A300
                clear A300
                have HC31 := Aside0.mk H
                clear H
                go_upto_region 13 with (first | (go_at_call 21; (with_reducible refine (terracelaw20_BucketCopies_1.calls kj21 g181 t178 t179 t180 _ _ l1 t183 t184 t185 w _ ?side1 ?side2 ?side3 ?side4 A26.out).mono ?_); (case side1 => repeat (first | (with_reducible first | exact HI181.out | apply IsS62.alloc | apply IsS62.drewN | apply IsS62.drew | apply IsS62.set_0 | apply IsS62.set_1 | apply IsS62.set_2) | exact HI181.out)); (case side2 => repeat (first | (with_reducible first | exact HB.out | apply below_alloc | apply pw_below_drewN | apply below_drew1 | refine below_set ?_ (IsS62.ge HI181.out)) | exact HB.out)); (case side3 => exact Kd.C_foot_came k33_heap HR1.out (by repeat (first | (with_reducible first | exact HB.out | apply below_alloc | apply pw_below_drewN | apply below_drew1 | refine below_set ?_ (IsS62.ge HI181.out)) | exact HB.out)) (IsS62.ge HI181.out)); (case side4 => exact HC1.out); rintro e w32 ⟨rfl, hi, hb, hk⟩; have n0_ := Aside0.mk (hb); have n1_ := Aside0.mk (hi); clear HB; clear HI181; have HB := n0_; have HI181 := n1_; clear n0_ n1_; (try clear hb); (try clear hb2); (try clear hk); (try clear hi)) | ((with_reducible refine gate_callee (f := 22) rfl ?_); refine goesL_ (some 46) rfl rfl Try.func22 (by kernel_rfl) rfl #[.pointer (some ⟨g181, 0, none⟩)] rfl (by (try simp only [List.map_toArray, List.map_cons, List.map_nil]); first | done | rfl | (simp only [List.length_drop, List.length_take]; rfl)) ?_; (with_reducible refine (bucket_Bucket_Copy.calls g181 t183 t184 t185 t186 t187 t188 w _ ?side1 A27.out).mono ?_); (case side1 => repeat (first | (with_reducible first | exact HI181.out | apply IsS62.alloc | apply IsS62.drewN | apply IsS62.drew | apply IsS62.set_0 | apply IsS62.set_1 | apply IsS62.set_2) | exact HI181.out)); rintro e w33 ⟨g189, rfl, hi0, hb2⟩; refine ⟨_, rfl, ?_⟩; have hi : IsS62 w w33 g189 t186 t187 t188 := ⟨hi0.1, Nat.le_trans (below_size (by repeat (first | (with_reducible first | exact HB.out | apply below_alloc | apply pw_below_drewN | apply below_drew1 | refine below_set ?_ (IsS62.ge HI181.out)) | exact HB.out))) hi0.2⟩; have hb := below_step (by repeat (first | (with_reducible first | exact HB.out | apply below_alloc | apply pw_below_drewN | apply below_drew1 | refine below_set ?_ (IsS62.ge HI181.out)) | exact HB.out)) hb2; have n0_ := Aside0.mk (IsS62.below (by repeat (first | (with_reducible first | exact HI181.out | apply IsS62.alloc | apply IsS62.drewN | apply IsS62.drew | apply IsS62.set_0 | apply IsS62.set_1 | apply IsS62.set_2) | exact HI181.out)) hb2); have n1_ := Aside0.mk (hb); have n2_ := Aside0.mk (hi); have n3_ := Aside0.mk ((Nat.ne_of_gt (Nat.lt_of_lt_of_le (IsS62.lt (show IsS62 w _ g181 t183 t184 t185 from by repeat (first | (with_reducible first | exact HI181.out | apply IsS62.alloc | apply IsS62.drewN | apply IsS62.drew | apply IsS62.set_0 | apply IsS62.set_1 | apply IsS62.set_2) | exact HI181.out))) hi0.2) : g189 ≠ g181)); have n4_ := Aside0.mk ((Nat.ne_of_lt (Nat.lt_of_lt_of_le (IsS62.lt (show IsS62 w _ g181 t183 t184 t185 from by repeat (first | (with_reducible first | exact HI181.out | apply IsS62.alloc | apply IsS62.drewN | apply IsS62.drew | apply IsS62.set_0 | apply IsS62.set_1 | apply IsS62.set_2) | exact HI181.out))) hi0.2) : g181 ≠ g189)); clear HI181; clear HB; have HI181 := n0_; have HB := n1_; have HI189 := n2_; have NB189_181 := n3_; have NB181_189 := n4_; clear n0_ n1_ n2_ n3_ n4_; (try clear hb); (try clear hb2); (try clear hk); (try clear hi)) | ((with_reducible refine gate_callee (f := 16) rfl ?_); refine goesL_ (some 50) rfl rfl Try.func16 (by kernel_rfl) rfl #[.pointer (some ⟨g181, 0, none⟩)] rfl (by (try simp only [List.map_toArray, List.map_cons, List.map_nil]); first | done | rfl | (simp only [List.length_drop, List.length_take]; rfl)) ?_; (with_reducible refine (bucket_Bucket_Tokens.calls g181 t183 t184 t185 t190 t191 t192 t193 w _ ?side1 ?side2 A28.out).mono ?_); (case side1 => repeat (first | (with_reducible first | exact HI181.out | apply IsS62.alloc | apply IsS62.drewN | apply IsS62.drew | apply IsS62.set_0 | apply IsS62.set_1 | apply IsS62.set_2) | exact HI181.out)); (case side2 => repeat (first | (with_reducible first | exact HB.out | apply below_alloc | apply pw_below_drewN | apply below_drew1 | refine below_set ?_ (IsS62.ge HI181.out) | refine below_set ?_ (IsS62.ge HI189.out)) | exact HB.out)); rintro e w34 ⟨rfl, hi, hb, hk⟩; refine ⟨_, rfl, ?_⟩; have n0_ := Aside0.mk ((show IsS62 w _ g189 t186 t187 t188 from ⟨KeepBut.blk hk (show IsS62 w _ g189 t186 t187 t188 from by repeat (first | (with_reducible first | exact HI189.out | apply IsS62.alloc | apply IsS62.drewN | apply IsS62.drew | apply IsS62.set_0 | apply IsS62.set_1 | apply IsS62.set_2) | exact HI189.out)).1 NB189_181.out (by simp), (show IsS62 w _ g189 t186 t187 t188 from by repeat (first | (with_reducible first | exact HI189.out | apply IsS62.alloc | apply IsS62.drewN | apply IsS62.drew | apply IsS62.set_0 | apply IsS62.set_1 | apply IsS62.set_2) | exact HI189.out)).2⟩)); have n1_ := Aside0.mk (hb); have n2_ := Aside0.mk (hi); clear HI189; clear HB; clear HI181; have HI189 := n0_; have HB := n1_; have HI181 := n2_; clear n0_ n1_ n2_; (try clear hb); (try clear hb2); (try clear hk); (try clear hi)) | ((with_reducible refine gate_callee (f := 19) rfl ?_); refine goesL_ (some 52) rfl rfl Try.func19 (by kernel_rfl) rfl #[.pointer (some ⟨g181, 0, none⟩)] rfl (by (try simp only [List.map_toArray, List.map_cons, List.map_nil]); first | done | rfl | (simp only [List.length_drop, List.length_take]; rfl)) ?_; (with_reducible refine (bucket_Bucket_Spent.calls g181 t191 t192 t193 t194 t195 t196 t197 w _ ?side1 ?side2 A29.out).mono ?_); (case side1 => repeat (first | (with_reducible first | exact HI181.out | apply IsS62.alloc | apply IsS62.drewN | apply IsS62.drew | apply IsS62.set_0 | apply IsS62.set_1 | apply IsS62.set_2) | exact HI181.out)); (case side2 => repeat (first | (with_reducible first | exact HB.out | apply below_alloc | apply pw_below_drewN | apply below_drew1 | refine below_set ?_ (IsS62.ge HI181.out) | refine below_set ?_ (IsS62.ge HI189.out)) | exact HB.out)); rintro e w35 ⟨rfl, hi, hb, hk⟩; refine ⟨_, rfl, ?_⟩; have n0_ := Aside0.mk ((show IsS62 w _ g189 t186 t187 t188 from ⟨KeepBut.blk hk (show IsS62 w _ g189 t186 t187 t188 from by repeat (first | (with_reducible first | exact HI189.out | apply IsS62.alloc | apply IsS62.drewN | apply IsS62.drew | apply IsS62.set_0 | apply IsS62.set_1 | apply IsS62.set_2) | exact HI189.out)).1 NB189_181.out (by simp), (show IsS62 w _ g189 t186 t187 t188 from by repeat (first | (with_reducible first | exact HI189.out | apply IsS62.alloc | apply IsS62.drewN | apply IsS62.drew | apply IsS62.set_0 | apply IsS62.set_1 | apply IsS62.set_2) | exact HI189.out)).2⟩)); have n1_ := Aside0.mk (hb); have n2_ := Aside0.mk (hi); clear HI189; clear HB; clear HI181; have HI189 := n0_; have HB := n1_; have HI181 := n2_; clear n0_ n1_ n2_; (try clear hb); (try clear hb2); (try clear hk); (try clear hi)) | (go_at_call 21; (with_reducible refine (terracelaw20_BucketCopies_1.calls kj21 g189 t186 t187 t188 _ _ l2 t198 t199 t200 w _ ?side1 ?side2 ?side3 ?side4 A30.out).mono ?_); (case side1 => repeat (first | (with_reducible first | exact HI189.out | apply IsS62.alloc | apply IsS62.drewN | apply IsS62.drew | apply IsS62.set_0 | apply IsS62.set_1 | apply IsS62.set_2) | exact HI189.out)); (case side2 => repeat (first | (with_reducible first | exact HB.out | apply below_alloc | apply pw_below_drewN | apply below_drew1 | refine below_set ?_ (IsS62.ge HI181.out) | refine below_set ?_ (IsS62.ge HI189.out)) | exact HB.out)); (case side3 => exact Kd.C_foot_came k33_heap HR2.out (by repeat (first | (with_reducible first | exact HB.out | apply below_alloc | apply pw_below_drewN | apply below_drew1 | refine below_set ?_ (IsS62.ge HI181.out) | refine below_set ?_ (IsS62.ge HI189.out)) | exact HB.out)) (IsS62.ge HI189.out)); (case side4 => exact HC2.out); rintro e w36 ⟨rfl, hi, hb, hk⟩; have n0_ := Aside0.mk ((show IsS62 w _ g181 t195 t196 t197 from ⟨KeepBut.blk hk (show IsS62 w _ g181 t195 t196 t197 from by repeat (first | (with_reducible first | exact HI181.out | apply IsS62.alloc | apply IsS62.drewN | apply IsS62.drew | apply IsS62.set_0 | apply IsS62.set_1 | apply IsS62.set_2) | exact HI181.out)).1 NB181_189.out (by simp), (show IsS62 w _ g181 t195 t196 t197 from by repeat (first | (with_reducible first | exact HI181.out | apply IsS62.alloc | apply IsS62.drewN | apply IsS62.drew | apply IsS62.set_0 | apply IsS62.set_1 | apply IsS62.set_2) | exact HI181.out)).2⟩)); have n1_ := Aside0.mk (hb); have n2_ := Aside0.mk (hi); clear HI181; clear HB; clear HI189; have HI181 := n0_; have HB := n1_; have HI189 := n2_; clear n0_ n1_ n2_; (try clear hb); (try clear hb2); (try clear hk); (try clear hi)))
                (try simp only [Act.put, List.setIfInBounds_toArray, List.set_cons_zero, List.set_cons_succ])
                go_cut [66] (fun v66 wc => ∃ (kq : Nat) (x66_30 : Bool) (x182000_30 : Int) (x182001_30 : Int) (x182002_30 : Int), v66 = .bool x66_30 ∧ Aside0 (terracelaw20_BucketCopies.j2 kq l2 x66_30 x182000_30 x182001_30 x182002_30 t198 t199 t200 = some r) ∧ Aside0 (kq ≤ kj21) ∧ Aside0 (IsS62 w wc g181 x182000_30 x182001_30 x182002_30) ∧ Aside0 (IsS62 w wc g189 t198 t199 t200) ∧ Aside0 (Below w.heap.size w wc))
                case first =>
                  have H := HC31.out
                  clear HC31
                  replace H := Option.bind_eq_some_iff.mp H
                  obtain ⟨⟨t201, t202, t203, t204⟩, A370, H⟩ := H
                  replace H : (if t201 = t190 then ((bucket_Bucket_Spent.f t202 t203 t204).bind fun bt205 => (terracelaw20_BucketCopies.j2 kj21 l2 (bt205.1 != t194) bt205.2.1 bt205.2.2.1 bt205.2.2.2 t198 t199 t200)) else (terracelaw20_BucketCopies.j2 kj21 l2 true t202 t203 t204 t198 t199 t200)) = some r := H
                  have A37 := Aside0.mk A370
                  clear A370
                  by_cases c38 : t201 = t190
                  · rw [if_pos c38] at H
                    have c38b0 : (t201 == t190) = true := beq_iff_eq.mpr c38
                    have c38b1 : (t201 != t190) = false := bne_eq_false_iff_eq.mpr c38
                    clear c38
                    (first | rw [c38b0] | (simp only [i64_w, i32_w]; rw [c38b0]) | skip)
                    replace H := Option.bind_eq_some_iff.mp H
                    obtain ⟨⟨t205, t206, t207, t208⟩, A390, H⟩ := H
                    replace H : (terracelaw20_BucketCopies.j2 kj21 l2 (t205 != t194) t206 t207 t208 t198 t199 t200) = some r := H
                    have A39 := Aside0.mk A390
                    clear A390
                    have H' := Aside0.mk H
                    clear H
                    go_wp2_with (first | ((with_reducible refine gate_callee (f := 16) rfl ?_); refine goesL_ (some 58) rfl rfl Try.func16 (by kernel_rfl) rfl #[.pointer (some ⟨g181, 0, none⟩)] rfl (by (try simp only [List.map_toArray, List.map_cons, List.map_nil]); first | done | rfl | (simp only [List.length_drop, List.length_take]; rfl)) ?_; (with_reducible refine (bucket_Bucket_Tokens.calls g181 t195 t196 t197 t201 t202 t203 t204 w _ ?side1 ?side2 A37.out).mono ?_); (case side1 => repeat (first | (with_reducible first | exact HI181.out | apply IsS62.alloc | apply IsS62.drewN | apply IsS62.drew | apply IsS62.set_0 | apply IsS62.set_1 | apply IsS62.set_2) | exact HI181.out)); (case side2 => repeat (first | (with_reducible first | exact HB.out | apply below_alloc | apply pw_below_drewN | apply below_drew1 | refine below_set ?_ (IsS62.ge HI181.out) | refine below_set ?_ (IsS62.ge HI189.out)) | exact HB.out)); rintro e w40 ⟨rfl, hi, hb, hk⟩; refine ⟨_, rfl, ?_⟩; have n0_ := Aside0.mk ((show IsS62 w _ g189 t198 t199 t200 from ⟨KeepBut.blk hk (show IsS62 w _ g189 t198 t199 t200 from by repeat (first | (with_reducible first | exact HI189.out | apply IsS62.alloc | apply IsS62.drewN | apply IsS62.drew | apply IsS62.set_0 | apply IsS62.set_1 | apply IsS62.set_2) | exact HI189.out)).1 NB189_181.out (by simp), (show IsS62 w _ g189 t198 t199 t200 from by repeat (first | (with_reducible first | exact HI189.out | apply IsS62.alloc | apply IsS62.drewN | apply IsS62.drew | apply IsS62.set_0 | apply IsS62.set_1 | apply IsS62.set_2) | exact HI189.out)).2⟩)); have n1_ := Aside0.mk (hb); have n2_ := Aside0.mk (hi); clear HI189; clear HB; clear HI181; have HI189 := n0_; have HB := n1_; have HI181 := n2_; clear n0_ n1_ n2_; (try clear hb); (try clear hb2); (try clear hk); (try clear hi)) | (go_at_call 19; (with_reducible refine (bucket_Bucket_Spent.calls g181 t202 t203 t204 t205 t206 t207 t208 w _ ?side1 ?side2 A39.out).mono ?_); (case side1 => repeat (first | (with_reducible first | exact HI181.out | apply IsS62.alloc | apply IsS62.drewN | apply IsS62.drew | apply IsS62.set_0 | apply IsS62.set_1 | apply IsS62.set_2) | exact HI181.out)); (case side2 => repeat (first | (with_reducible first | exact HB.out | apply below_alloc | apply pw_below_drewN | apply below_drew1 | refine below_set ?_ (IsS62.ge HI181.out) | refine below_set ?_ (IsS62.ge HI189.out)) | exact HB.out)); rintro e w41 ⟨rfl, hi, hb, hk⟩; have n0_ := Aside0.mk ((show IsS62 w _ g189 t198 t199 t200 from ⟨KeepBut.blk hk (show IsS62 w _ g189 t198 t199 t200 from by repeat (first | (with_reducible first | exact HI189.out | apply IsS62.alloc | apply IsS62.drewN | apply IsS62.drew | apply IsS62.set_0 | apply IsS62.set_1 | apply IsS62.set_2) | exact HI189.out)).1 NB189_181.out (by simp), (show IsS62 w _ g189 t198 t199 t200 from by repeat (first | (with_reducible first | exact HI189.out | apply IsS62.alloc | apply IsS62.drewN | apply IsS62.drew | apply IsS62.set_0 | apply IsS62.set_1 | apply IsS62.set_2) | exact HI189.out)).2⟩)); have n1_ := Aside0.mk (hb); have n2_ := Aside0.mk (hi); clear HI189; clear HB; clear HI181; have HI189 := n0_; have HB := n1_; have HI181 := n2_; clear n0_ n1_ n2_; (try clear hb); (try clear hb2); (try clear hk); (try clear hi)))
                    go_meet
                    case rel => exact ⟨_, ((t205 != t194)), (t206), (t207), (t208), (by first | rfl | (simp; done) | (simp [*]; done)), H', ⟨by have := HJ3.out; have := HJ21.out; first | omega | exact Nat.le_refl _⟩, ⟨by repeat (first | (with_reducible first | exact HI181.out | apply IsS62.alloc | apply IsS62.drewN | apply IsS62.drew | apply IsS62.set_0 | apply IsS62.set_1 | apply IsS62.set_2) | exact HI181.out)⟩, ⟨by repeat (first | (with_reducible first | exact HI189.out | apply IsS62.alloc | apply IsS62.drewN | apply IsS62.drew | apply IsS62.set_0 | apply IsS62.set_1 | apply IsS62.set_2) | exact HI189.out)⟩, ⟨by repeat (first | (with_reducible first | exact HB.out | apply below_alloc | apply pw_below_drewN | apply below_drew1 | refine below_set ?_ (IsS62.ge HI181.out) | refine below_set ?_ (IsS62.ge HI189.out)) | exact HB.out)⟩⟩
                  · rw [if_neg c38] at H
                    have c38b0 : (t201 == t190) = false := beq_eq_false_iff_ne.mpr c38
                    have c38b1 : (t201 != t190) = true := bne_iff_ne.mpr c38
                    (first | rw [c38b0] | (simp only [i64_w, i32_w]; rw [c38b0]) | skip)
                    have H' := Aside0.mk H
                    clear H
                    go_wp2_with (first | ((with_reducible refine gate_callee (f := 16) rfl ?_); refine goesL_ (some 58) rfl rfl Try.func16 (by kernel_rfl) rfl #[.pointer (some ⟨g181, 0, none⟩)] rfl (by (try simp only [List.map_toArray, List.map_cons, List.map_nil]); first | done | rfl | (simp only [List.length_drop, List.length_take]; rfl)) ?_; (with_reducible refine (bucket_Bucket_Tokens.calls g181 t195 t196 t197 t201 t202 t203 t204 w _ ?side1 ?side2 A37.out).mono ?_); (case side1 => repeat (first | (with_reducible first | exact HI181.out | apply IsS62.alloc | apply IsS62.drewN | apply IsS62.drew | apply IsS62.set_0 | apply IsS62.set_1 | apply IsS62.set_2) | exact HI181.out)); (case side2 => repeat (first | (with_reducible first | exact HB.out | apply below_alloc | apply pw_below_drewN | apply below_drew1 | refine below_set ?_ (IsS62.ge HI181.out) | refine below_set ?_ (IsS62.ge HI189.out)) | exact HB.out)); rintro e w42 ⟨rfl, hi, hb, hk⟩; refine ⟨_, rfl, ?_⟩; have n0_ := Aside0.mk ((show IsS62 w _ g189 t198 t199 t200 from ⟨KeepBut.blk hk (show IsS62 w _ g189 t198 t199 t200 from by repeat (first | (with_reducible first | exact HI189.out | apply IsS62.alloc | apply IsS62.drewN | apply IsS62.drew | apply IsS62.set_0 | apply IsS62.set_1 | apply IsS62.set_2) | exact HI189.out)).1 NB189_181.out (by simp), (show IsS62 w _ g189 t198 t199 t200 from by repeat (first | (with_reducible first | exact HI189.out | apply IsS62.alloc | apply IsS62.drewN | apply IsS62.drew | apply IsS62.set_0 | apply IsS62.set_1 | apply IsS62.set_2) | exact HI189.out)).2⟩)); have n1_ := Aside0.mk (hb); have n2_ := Aside0.mk (hi); clear HI189; clear HB; clear HI181; have HI189 := n0_; have HB := n1_; have HI181 := n2_; clear n0_ n1_ n2_; (try clear hb); (try clear hb2); (try clear hk); (try clear hi)))
                    go_meet
                    case rel => exact ⟨_, (true), (t202), (t203), (t204), (by first | rfl | (simp; done) | (simp [*]; done)), H', ⟨by have := HJ3.out; have := HJ21.out; first | omega | exact Nat.le_refl _⟩, ⟨by repeat (first | (with_reducible first | exact HI181.out | apply IsS62.alloc | apply IsS62.drewN | apply IsS62.drew | apply IsS62.set_0 | apply IsS62.set_1 | apply IsS62.set_2) | exact HI181.out)⟩, ⟨by repeat (first | (with_reducible first | exact HI189.out | apply IsS62.alloc | apply IsS62.drewN | apply IsS62.drew | apply IsS62.set_0 | apply IsS62.set_1 | apply IsS62.set_2) | exact HI189.out)⟩, ⟨by repeat (first | (with_reducible first | exact HB.out | apply below_alloc | apply pw_below_drewN | apply below_drew1 | refine below_set ?_ (IsS62.ge HI181.out) | refine below_set ?_ (IsS62.ge HI189.out)) | exact HB.out)⟩⟩
                case rest =>
                  clear HC31
                  try clear c1
                  try clear c2
                  try clear p2
                  try clear c3
                  try clear c5
                  try clear c6
                  try clear c8
                  try clear c9
                  try clear c9b0
                  try clear c10
                  try clear c16
                  try clear c17
                  try clear c19
                  try clear c20
                  try clear c20b0
                  try clear c22
                  try clear c24
                  try clear c24b0
                  try clear c24b1
                  try clear c25
                  try clear c38
                  try clear c38b0
                  try clear c38b1
                  try clear p2
                  obtain ⟨kq, x66_30, x182000_30, x182001_30, x182002_30, rfl, HA, HJ30, HI181, HI189, HB⟩ := hcut
                  cases kq with
                  | zero => exact absurd HA.out (by simp [terracelaw20_BucketCopies.j2])
                  | succ kj30 =>
                    have H := HA.out
                    clear HA
                    simp only [terracelaw20_BucketCopies.j2] at H
                    by_cases c43 : x66_30 = true
                    · subst c43
                      have H1 : (some false) = some r := by rw [if_pos rfl] at H; exact H
                      clear H
                      have H := H1
                      clear H1
                      obtain rfl := Option.some.inj H
                      go_wp2
                      go_ret
                      exact ⟨by first | rfl | (simp [errW_none, errW_some] <;> rfl) | (simp [*, errW_none, errW_some] <;> rfl), by repeat (first | (with_reducible first | exact HB.out | apply below_alloc | apply pw_below_drewN | apply below_drew1 | refine below_set ?_ (IsS62.ge HI181.out) | refine below_set ?_ (IsS62.ge HI189.out)) | exact HB.out)⟩
                    · replace c43 := Bool.eq_false_iff.mpr c43
                      subst c43
                      have H1 : ((terracelaw20_BucketCopies_1.f kj30 x182000_30 x182001_30 x182002_30 l2).bind fun bt209 => ((bucket_Bucket_Tokens.f bt209.1 bt209.2.1 bt209.2.2).bind fun bt212 => ((bucket_Bucket_Tokens.f t198 t199 t200).bind fun bt216 => (if bt212.1 = bt216.1 then ((bucket_Bucket_Spent.f bt212.2.1 bt212.2.2.1 bt212.2.2.2).bind fun bt220 => ((bucket_Bucket_Spent.f bt216.2.1 bt216.2.2.1 bt216.2.2.2).bind fun bt224 => (if bt220.1 = bt224.1 then ((terracelaw20_awake.f kj30).bind fun t228 => (some t228)) else (some false)))) else (some false))))) = some r := by rw [if_neg (show ¬ (false = true) by decide)] at H; exact H
                      clear H
                      have H := H1
                      clear H1
                      replace H := Option.bind_eq_some_iff.mp H
                      obtain ⟨⟨t209, t210, t211⟩, A440, H⟩ := H
                      replace H : ((bucket_Bucket_Tokens.f t209 t210 t211).bind fun bt212 => ((bucket_Bucket_Tokens.f t198 t199 t200).bind fun bt216 => (if bt212.1 = bt216.1 then ((bucket_Bucket_Spent.f bt212.2.1 bt212.2.2.1 bt212.2.2.2).bind fun bt220 => ((bucket_Bucket_Spent.f bt216.2.1 bt216.2.2.1 bt216.2.2.2).bind fun bt224 => (if bt220.1 = bt224.1 then ((terracelaw20_awake.f kj30).bind fun t228 => (some t228)) else (some false)))) else (some false)))) = some r := H
                      have A44 := Aside0.mk A440
                      clear A440
                      replace H := Option.bind_eq_some_iff.mp H
                      obtain ⟨⟨t212, t213, t214, t215⟩, A450, H⟩ := H
                      replace H : ((bucket_Bucket_Tokens.f t198 t199 t200).bind fun bt216 => (if t212 = bt216.1 then ((bucket_Bucket_Spent.f t213 t214 t215).bind fun bt220 => ((bucket_Bucket_Spent.f bt216.2.1 bt216.2.2.1 bt216.2.2.2).bind fun bt224 => (if bt220.1 = bt224.1 then ((terracelaw20_awake.f kj30).bind fun t228 => (some t228)) else (some false)))) else (some false))) = some r := H
                      have A45 := Aside0.mk A450
                      clear A450
                      replace H := Option.bind_eq_some_iff.mp H
                      obtain ⟨⟨t216, t217, t218, t219⟩, A460, H⟩ := H
                      replace H : (if t212 = t216 then ((bucket_Bucket_Spent.f t213 t214 t215).bind fun bt220 => ((bucket_Bucket_Spent.f t217 t218 t219).bind fun bt224 => (if bt220.1 = bt224.1 then ((terracelaw20_awake.f kj30).bind fun t228 => (some t228)) else (some false)))) else (some false)) = some r := H
                      have A46 := Aside0.mk A460
                      clear A460
                      by_cases c47 : t212 = t216
                      · rw [if_pos c47] at H
                        have c47b0 : (t212 == t216) = true := beq_iff_eq.mpr c47
                        have c47b1 : (t212 != t216) = false := bne_eq_false_iff_eq.mpr c47
                        clear c47
                        replace H := Option.bind_eq_some_iff.mp H
                        obtain ⟨⟨t220, t221, t222, t223⟩, A480, H⟩ := H
                        replace H : ((bucket_Bucket_Spent.f t217 t218 t219).bind fun bt224 => (if t220 = bt224.1 then ((terracelaw20_awake.f kj30).bind fun t228 => (some t228)) else (some false))) = some r := H
                        have A48 := Aside0.mk A480
                        clear A480
                        replace H := Option.bind_eq_some_iff.mp H
                        obtain ⟨⟨t224, t225, t226, t227⟩, A490, H⟩ := H
                        replace H : (if t220 = t224 then ((terracelaw20_awake.f kj30).bind fun t228 => (some t228)) else (some false)) = some r := H
                        have A49 := Aside0.mk A490
                        clear A490
                        by_cases c50 : t220 = t224
                        · rw [if_pos c50] at H
                          have c50b0 : (t220 == t224) = true := beq_iff_eq.mpr c50
                          have c50b1 : (t220 != t224) = false := bne_eq_false_iff_eq.mpr c50
                          clear c50
                          replace H := Option.bind_eq_some_iff.mp H
                          obtain ⟨t228, A510, H⟩ := H
                          replace H : (some t228) = some r := H
                          have A51 := Aside0.mk A510
                          clear A510
                          obtain rfl := Option.some.inj H
                          go_wp2_with (first | (go_at_call 21; (with_reducible refine (terracelaw20_BucketCopies_1.calls kj30 g181 x182000_30 x182001_30 x182002_30 _ _ l2 t209 t210 t211 w _ ?side1 ?side2 ?side3 ?side4 A44.out).mono ?_); (case side1 => repeat (first | (with_reducible first | exact HI181.out | apply IsS62.alloc | apply IsS62.drewN | apply IsS62.drew | apply IsS62.set_0 | apply IsS62.set_1 | apply IsS62.set_2) | exact HI181.out)); (case side2 => repeat (first | (with_reducible first | exact HB.out | apply below_alloc | apply pw_below_drewN | apply below_drew1 | refine below_set ?_ (IsS62.ge HI181.out) | refine below_set ?_ (IsS62.ge HI189.out)) | exact HB.out)); (case side3 => exact Kd.C_foot_came k33_heap HR2.out (by repeat (first | (with_reducible first | exact HB.out | apply below_alloc | apply pw_below_drewN | apply below_drew1 | refine below_set ?_ (IsS62.ge HI181.out) | refine below_set ?_ (IsS62.ge HI189.out)) | exact HB.out)) (IsS62.ge HI181.out)); (case side4 => exact HC2.out); rintro e w52 ⟨rfl, hi, hb, hk⟩; have n0_ := Aside0.mk ((show IsS62 w _ g189 t198 t199 t200 from ⟨KeepBut.blk hk (show IsS62 w _ g189 t198 t199 t200 from by repeat (first | (with_reducible first | exact HI189.out | apply IsS62.alloc | apply IsS62.drewN | apply IsS62.drew | apply IsS62.set_0 | apply IsS62.set_1 | apply IsS62.set_2) | exact HI189.out)).1 NB189_181.out (by simp), (show IsS62 w _ g189 t198 t199 t200 from by repeat (first | (with_reducible first | exact HI189.out | apply IsS62.alloc | apply IsS62.drewN | apply IsS62.drew | apply IsS62.set_0 | apply IsS62.set_1 | apply IsS62.set_2) | exact HI189.out)).2⟩)); have n1_ := Aside0.mk (hb); have n2_ := Aside0.mk (hi); clear HI189; clear HB; clear HI181; have HI189 := n0_; have HB := n1_; have HI181 := n2_; clear n0_ n1_ n2_; (try clear hb); (try clear hb2); (try clear hk); (try clear hi)) | ((with_reducible refine gate_callee (f := 16) rfl ?_); refine goesL_ (some 72) rfl rfl Try.func16 (by kernel_rfl) rfl #[.pointer (some ⟨g181, 0, none⟩)] rfl (by (try simp only [List.map_toArray, List.map_cons, List.map_nil]); first | done | rfl | (simp only [List.length_drop, List.length_take]; rfl)) ?_; (with_reducible refine (bucket_Bucket_Tokens.calls g181 t209 t210 t211 t212 t213 t214 t215 w _ ?side1 ?side2 A45.out).mono ?_); (case side1 => repeat (first | (with_reducible first | exact HI181.out | apply IsS62.alloc | apply IsS62.drewN | apply IsS62.drew | apply IsS62.set_0 | apply IsS62.set_1 | apply IsS62.set_2) | exact HI181.out)); (case side2 => repeat (first | (with_reducible first | exact HB.out | apply below_alloc | apply pw_below_drewN | apply below_drew1 | refine below_set ?_ (IsS62.ge HI181.out) | refine below_set ?_ (IsS62.ge HI189.out)) | exact HB.out)); rintro e w53 ⟨rfl, hi, hb, hk⟩; refine ⟨_, rfl, ?_⟩; have n0_ := Aside0.mk ((show IsS62 w _ g189 t198 t199 t200 from ⟨KeepBut.blk hk (show IsS62 w _ g189 t198 t199 t200 from by repeat (first | (with_reducible first | exact HI189.out | apply IsS62.alloc | apply IsS62.drewN | apply IsS62.drew | apply IsS62.set_0 | apply IsS62.set_1 | apply IsS62.set_2) | exact HI189.out)).1 NB189_181.out (by simp), (show IsS62 w _ g189 t198 t199 t200 from by repeat (first | (with_reducible first | exact HI189.out | apply IsS62.alloc | apply IsS62.drewN | apply IsS62.drew | apply IsS62.set_0 | apply IsS62.set_1 | apply IsS62.set_2) | exact HI189.out)).2⟩)); have n1_ := Aside0.mk (hb); have n2_ := Aside0.mk (hi); clear HI189; clear HB; clear HI181; have HI189 := n0_; have HB := n1_; have HI181 := n2_; clear n0_ n1_ n2_; (try clear hb); (try clear hb2); (try clear hk); (try clear hi)) | ((with_reducible refine gate_callee (f := 16) rfl ?_); refine goesL_ (some 74) rfl rfl Try.func16 (by kernel_rfl) rfl #[.pointer (some ⟨g189, 0, none⟩)] rfl (by (try simp only [List.map_toArray, List.map_cons, List.map_nil]); first | done | rfl | (simp only [List.length_drop, List.length_take]; rfl)) ?_; (with_reducible refine (bucket_Bucket_Tokens.calls g189 t198 t199 t200 t216 t217 t218 t219 w _ ?side1 ?side2 A46.out).mono ?_); (case side1 => repeat (first | (with_reducible first | exact HI189.out | apply IsS62.alloc | apply IsS62.drewN | apply IsS62.drew | apply IsS62.set_0 | apply IsS62.set_1 | apply IsS62.set_2) | exact HI189.out)); (case side2 => repeat (first | (with_reducible first | exact HB.out | apply below_alloc | apply pw_below_drewN | apply below_drew1 | refine below_set ?_ (IsS62.ge HI181.out) | refine below_set ?_ (IsS62.ge HI189.out)) | exact HB.out)); rintro e w54 ⟨rfl, hi, hb, hk⟩; refine ⟨_, rfl, ?_⟩; have n0_ := Aside0.mk ((show IsS62 w _ g181 t213 t214 t215 from ⟨KeepBut.blk hk (show IsS62 w _ g181 t213 t214 t215 from by repeat (first | (with_reducible first | exact HI181.out | apply IsS62.alloc | apply IsS62.drewN | apply IsS62.drew | apply IsS62.set_0 | apply IsS62.set_1 | apply IsS62.set_2) | exact HI181.out)).1 NB181_189.out (by simp), (show IsS62 w _ g181 t213 t214 t215 from by repeat (first | (with_reducible first | exact HI181.out | apply IsS62.alloc | apply IsS62.drewN | apply IsS62.drew | apply IsS62.set_0 | apply IsS62.set_1 | apply IsS62.set_2) | exact HI181.out)).2⟩)); have n1_ := Aside0.mk (hb); have n2_ := Aside0.mk (hi); clear HI181; clear HB; clear HI189; have HI181 := n0_; have HB := n1_; have HI189 := n2_; clear n0_ n1_ n2_; (try clear hb); (try clear hb2); (try clear hk); (try clear hi)) | (go_at_call 19; (with_reducible refine (bucket_Bucket_Spent.calls g181 t213 t214 t215 t220 t221 t222 t223 w _ ?side1 ?side2 A48.out).mono ?_); (case side1 => repeat (first | (with_reducible first | exact HI181.out | apply IsS62.alloc | apply IsS62.drewN | apply IsS62.drew | apply IsS62.set_0 | apply IsS62.set_1 | apply IsS62.set_2) | exact HI181.out)); (case side2 => repeat (first | (with_reducible first | exact HB.out | apply below_alloc | apply pw_below_drewN | apply below_drew1 | refine below_set ?_ (IsS62.ge HI181.out) | refine below_set ?_ (IsS62.ge HI189.out)) | exact HB.out)); rintro e w55 ⟨rfl, hi, hb, hk⟩; have n0_ := Aside0.mk ((show IsS62 w _ g189 t217 t218 t219 from ⟨KeepBut.blk hk (show IsS62 w _ g189 t217 t218 t219 from by repeat (first | (with_reducible first | exact HI189.out | apply IsS62.alloc | apply IsS62.drewN | apply IsS62.drew | apply IsS62.set_0 | apply IsS62.set_1 | apply IsS62.set_2) | exact HI189.out)).1 NB189_181.out (by simp), (show IsS62 w _ g189 t217 t218 t219 from by repeat (first | (with_reducible first | exact HI189.out | apply IsS62.alloc | apply IsS62.drewN | apply IsS62.drew | apply IsS62.set_0 | apply IsS62.set_1 | apply IsS62.set_2) | exact HI189.out)).2⟩)); have n1_ := Aside0.mk (hb); have n2_ := Aside0.mk (hi); clear HI189; clear HB; clear HI181; have HI189 := n0_; have HB := n1_; have HI181 := n2_; clear n0_ n1_ n2_; (try clear hb); (try clear hb2); (try clear hk); (try clear hi)) | (go_at_call 19; (with_reducible refine (bucket_Bucket_Spent.calls g189 t217 t218 t219 t224 t225 t226 t227 w _ ?side1 ?side2 A49.out).mono ?_); (case side1 => repeat (first | (with_reducible first | exact HI189.out | apply IsS62.alloc | apply IsS62.drewN | apply IsS62.drew | apply IsS62.set_0 | apply IsS62.set_1 | apply IsS62.set_2) | exact HI189.out)); (case side2 => repeat (first | (with_reducible first | exact HB.out | apply below_alloc | apply pw_below_drewN | apply below_drew1 | refine below_set ?_ (IsS62.ge HI181.out) | refine below_set ?_ (IsS62.ge HI189.out)) | exact HB.out)); rintro e w56 ⟨rfl, hi, hb, hk⟩; have n0_ := Aside0.mk ((show IsS62 w _ g181 t221 t222 t223 from ⟨KeepBut.blk hk (show IsS62 w _ g181 t221 t222 t223 from by repeat (first | (with_reducible first | exact HI181.out | apply IsS62.alloc | apply IsS62.drewN | apply IsS62.drew | apply IsS62.set_0 | apply IsS62.set_1 | apply IsS62.set_2) | exact HI181.out)).1 NB181_189.out (by simp), (show IsS62 w _ g181 t221 t222 t223 from by repeat (first | (with_reducible first | exact HI181.out | apply IsS62.alloc | apply IsS62.drewN | apply IsS62.drew | apply IsS62.set_0 | apply IsS62.set_1 | apply IsS62.set_2) | exact HI181.out)).2⟩)); have n1_ := Aside0.mk (hb); have n2_ := Aside0.mk (hi); clear HI181; clear HB; clear HI189; have HI181 := n0_; have HB := n1_; have HI189 := n2_; clear n0_ n1_ n2_; (try clear hb); (try clear hb2); (try clear hk); (try clear hi)) | (go_at_call 9; (with_reducible refine (terracelaw20_awake.calls kj30  t228 _ A51.out).mono ?_); rintro e w57 ⟨rfl, hb⟩; have n0_ := Aside0.mk (IsS62.below (by repeat (first | (with_reducible first | exact HI181.out | apply IsS62.alloc | apply IsS62.drewN | apply IsS62.drew | apply IsS62.set_0 | apply IsS62.set_1 | apply IsS62.set_2) | exact HI181.out)) hb); have n1_ := Aside0.mk (IsS62.below (by repeat (first | (with_reducible first | exact HI189.out | apply IsS62.alloc | apply IsS62.drewN | apply IsS62.drew | apply IsS62.set_0 | apply IsS62.set_1 | apply IsS62.set_2) | exact HI189.out)) hb); have n2_ := Aside0.mk (below_step (by repeat (first | (with_reducible first | exact HB.out | apply below_alloc | apply pw_below_drewN | apply below_drew1 | refine below_set ?_ (IsS62.ge HI181.out) | refine below_set ?_ (IsS62.ge HI189.out)) | exact HB.out)) hb); clear HI181; clear HI189; clear HB; have HI181 := n0_; have HI189 := n1_; have HB := n2_; clear n0_ n1_ n2_; (try clear hb); (try clear hb2); (try clear hk); (try clear hi)))
                          go_ret
                          exact ⟨by first | rfl | (simp [errW_none, errW_some] <;> rfl) | (simp [*, errW_none, errW_some] <;> rfl), by repeat (first | (with_reducible first | exact HB.out | apply below_alloc | apply pw_below_drewN | apply below_drew1 | refine below_set ?_ (IsS62.ge HI181.out) | refine below_set ?_ (IsS62.ge HI189.out)) | exact HB.out)⟩
                        · rw [if_neg c50] at H
                          have c50b0 : (t220 == t224) = false := beq_eq_false_iff_ne.mpr c50
                          have c50b1 : (t220 != t224) = true := bne_iff_ne.mpr c50
                          obtain rfl := Option.some.inj H
                          go_wp2_with (first | (go_at_call 21; (with_reducible refine (terracelaw20_BucketCopies_1.calls kj30 g181 x182000_30 x182001_30 x182002_30 _ _ l2 t209 t210 t211 w _ ?side1 ?side2 ?side3 ?side4 A44.out).mono ?_); (case side1 => repeat (first | (with_reducible first | exact HI181.out | apply IsS62.alloc | apply IsS62.drewN | apply IsS62.drew | apply IsS62.set_0 | apply IsS62.set_1 | apply IsS62.set_2) | exact HI181.out)); (case side2 => repeat (first | (with_reducible first | exact HB.out | apply below_alloc | apply pw_below_drewN | apply below_drew1 | refine below_set ?_ (IsS62.ge HI181.out) | refine below_set ?_ (IsS62.ge HI189.out)) | exact HB.out)); (case side3 => exact Kd.C_foot_came k33_heap HR2.out (by repeat (first | (with_reducible first | exact HB.out | apply below_alloc | apply pw_below_drewN | apply below_drew1 | refine below_set ?_ (IsS62.ge HI181.out) | refine below_set ?_ (IsS62.ge HI189.out)) | exact HB.out)) (IsS62.ge HI181.out)); (case side4 => exact HC2.out); rintro e w58 ⟨rfl, hi, hb, hk⟩; have n0_ := Aside0.mk ((show IsS62 w _ g189 t198 t199 t200 from ⟨KeepBut.blk hk (show IsS62 w _ g189 t198 t199 t200 from by repeat (first | (with_reducible first | exact HI189.out | apply IsS62.alloc | apply IsS62.drewN | apply IsS62.drew | apply IsS62.set_0 | apply IsS62.set_1 | apply IsS62.set_2) | exact HI189.out)).1 NB189_181.out (by simp), (show IsS62 w _ g189 t198 t199 t200 from by repeat (first | (with_reducible first | exact HI189.out | apply IsS62.alloc | apply IsS62.drewN | apply IsS62.drew | apply IsS62.set_0 | apply IsS62.set_1 | apply IsS62.set_2) | exact HI189.out)).2⟩)); have n1_ := Aside0.mk (hb); have n2_ := Aside0.mk (hi); clear HI189; clear HB; clear HI181; have HI189 := n0_; have HB := n1_; have HI181 := n2_; clear n0_ n1_ n2_; (try clear hb); (try clear hb2); (try clear hk); (try clear hi)) | ((with_reducible refine gate_callee (f := 16) rfl ?_); refine goesL_ (some 72) rfl rfl Try.func16 (by kernel_rfl) rfl #[.pointer (some ⟨g181, 0, none⟩)] rfl (by (try simp only [List.map_toArray, List.map_cons, List.map_nil]); first | done | rfl | (simp only [List.length_drop, List.length_take]; rfl)) ?_; (with_reducible refine (bucket_Bucket_Tokens.calls g181 t209 t210 t211 t212 t213 t214 t215 w _ ?side1 ?side2 A45.out).mono ?_); (case side1 => repeat (first | (with_reducible first | exact HI181.out | apply IsS62.alloc | apply IsS62.drewN | apply IsS62.drew | apply IsS62.set_0 | apply IsS62.set_1 | apply IsS62.set_2) | exact HI181.out)); (case side2 => repeat (first | (with_reducible first | exact HB.out | apply below_alloc | apply pw_below_drewN | apply below_drew1 | refine below_set ?_ (IsS62.ge HI181.out) | refine below_set ?_ (IsS62.ge HI189.out)) | exact HB.out)); rintro e w59 ⟨rfl, hi, hb, hk⟩; refine ⟨_, rfl, ?_⟩; have n0_ := Aside0.mk ((show IsS62 w _ g189 t198 t199 t200 from ⟨KeepBut.blk hk (show IsS62 w _ g189 t198 t199 t200 from by repeat (first | (with_reducible first | exact HI189.out | apply IsS62.alloc | apply IsS62.drewN | apply IsS62.drew | apply IsS62.set_0 | apply IsS62.set_1 | apply IsS62.set_2) | exact HI189.out)).1 NB189_181.out (by simp), (show IsS62 w _ g189 t198 t199 t200 from by repeat (first | (with_reducible first | exact HI189.out | apply IsS62.alloc | apply IsS62.drewN | apply IsS62.drew | apply IsS62.set_0 | apply IsS62.set_1 | apply IsS62.set_2) | exact HI189.out)).2⟩)); have n1_ := Aside0.mk (hb); have n2_ := Aside0.mk (hi); clear HI189; clear HB; clear HI181; have HI189 := n0_; have HB := n1_; have HI181 := n2_; clear n0_ n1_ n2_; (try clear hb); (try clear hb2); (try clear hk); (try clear hi)) | ((with_reducible refine gate_callee (f := 16) rfl ?_); refine goesL_ (some 74) rfl rfl Try.func16 (by kernel_rfl) rfl #[.pointer (some ⟨g189, 0, none⟩)] rfl (by (try simp only [List.map_toArray, List.map_cons, List.map_nil]); first | done | rfl | (simp only [List.length_drop, List.length_take]; rfl)) ?_; (with_reducible refine (bucket_Bucket_Tokens.calls g189 t198 t199 t200 t216 t217 t218 t219 w _ ?side1 ?side2 A46.out).mono ?_); (case side1 => repeat (first | (with_reducible first | exact HI189.out | apply IsS62.alloc | apply IsS62.drewN | apply IsS62.drew | apply IsS62.set_0 | apply IsS62.set_1 | apply IsS62.set_2) | exact HI189.out)); (case side2 => repeat (first | (with_reducible first | exact HB.out | apply below_alloc | apply pw_below_drewN | apply below_drew1 | refine below_set ?_ (IsS62.ge HI181.out) | refine below_set ?_ (IsS62.ge HI189.out)) | exact HB.out)); rintro e w60 ⟨rfl, hi, hb, hk⟩; refine ⟨_, rfl, ?_⟩; have n0_ := Aside0.mk ((show IsS62 w _ g181 t213 t214 t215 from ⟨KeepBut.blk hk (show IsS62 w _ g181 t213 t214 t215 from by repeat (first | (with_reducible first | exact HI181.out | apply IsS62.alloc | apply IsS62.drewN | apply IsS62.drew | apply IsS62.set_0 | apply IsS62.set_1 | apply IsS62.set_2) | exact HI181.out)).1 NB181_189.out (by simp), (show IsS62 w _ g181 t213 t214 t215 from by repeat (first | (with_reducible first | exact HI181.out | apply IsS62.alloc | apply IsS62.drewN | apply IsS62.drew | apply IsS62.set_0 | apply IsS62.set_1 | apply IsS62.set_2) | exact HI181.out)).2⟩)); have n1_ := Aside0.mk (hb); have n2_ := Aside0.mk (hi); clear HI181; clear HB; clear HI189; have HI181 := n0_; have HB := n1_; have HI189 := n2_; clear n0_ n1_ n2_; (try clear hb); (try clear hb2); (try clear hk); (try clear hi)) | (go_at_call 19; (with_reducible refine (bucket_Bucket_Spent.calls g181 t213 t214 t215 t220 t221 t222 t223 w _ ?side1 ?side2 A48.out).mono ?_); (case side1 => repeat (first | (with_reducible first | exact HI181.out | apply IsS62.alloc | apply IsS62.drewN | apply IsS62.drew | apply IsS62.set_0 | apply IsS62.set_1 | apply IsS62.set_2) | exact HI181.out)); (case side2 => repeat (first | (with_reducible first | exact HB.out | apply below_alloc | apply pw_below_drewN | apply below_drew1 | refine below_set ?_ (IsS62.ge HI181.out) | refine below_set ?_ (IsS62.ge HI189.out)) | exact HB.out)); rintro e w61 ⟨rfl, hi, hb, hk⟩; have n0_ := Aside0.mk ((show IsS62 w _ g189 t217 t218 t219 from ⟨KeepBut.blk hk (show IsS62 w _ g189 t217 t218 t219 from by repeat (first | (with_reducible first | exact HI189.out | apply IsS62.alloc | apply IsS62.drewN | apply IsS62.drew | apply IsS62.set_0 | apply IsS62.set_1 | apply IsS62.set_2) | exact HI189.out)).1 NB189_181.out (by simp), (show IsS62 w _ g189 t217 t218 t219 from by repeat (first | (with_reducible first | exact HI189.out | apply IsS62.alloc | apply IsS62.drewN | apply IsS62.drew | apply IsS62.set_0 | apply IsS62.set_1 | apply IsS62.set_2) | exact HI189.out)).2⟩)); have n1_ := Aside0.mk (hb); have n2_ := Aside0.mk (hi); clear HI189; clear HB; clear HI181; have HI189 := n0_; have HB := n1_; have HI181 := n2_; clear n0_ n1_ n2_; (try clear hb); (try clear hb2); (try clear hk); (try clear hi)) | (go_at_call 19; (with_reducible refine (bucket_Bucket_Spent.calls g189 t217 t218 t219 t224 t225 t226 t227 w _ ?side1 ?side2 A49.out).mono ?_); (case side1 => repeat (first | (with_reducible first | exact HI189.out | apply IsS62.alloc | apply IsS62.drewN | apply IsS62.drew | apply IsS62.set_0 | apply IsS62.set_1 | apply IsS62.set_2) | exact HI189.out)); (case side2 => repeat (first | (with_reducible first | exact HB.out | apply below_alloc | apply pw_below_drewN | apply below_drew1 | refine below_set ?_ (IsS62.ge HI181.out) | refine below_set ?_ (IsS62.ge HI189.out)) | exact HB.out)); rintro e w62 ⟨rfl, hi, hb, hk⟩; have n0_ := Aside0.mk ((show IsS62 w _ g181 t221 t222 t223 from ⟨KeepBut.blk hk (show IsS62 w _ g181 t221 t222 t223 from by repeat (first | (with_reducible first | exact HI181.out | apply IsS62.alloc | apply IsS62.drewN | apply IsS62.drew | apply IsS62.set_0 | apply IsS62.set_1 | apply IsS62.set_2) | exact HI181.out)).1 NB181_189.out (by simp), (show IsS62 w _ g181 t221 t222 t223 from by repeat (first | (with_reducible first | exact HI181.out | apply IsS62.alloc | apply IsS62.drewN | apply IsS62.drew | apply IsS62.set_0 | apply IsS62.set_1 | apply IsS62.set_2) | exact HI181.out)).2⟩)); have n1_ := Aside0.mk (hb); have n2_ := Aside0.mk (hi); clear HI181; clear HB; clear HI189; have HI181 := n0_; have HB := n1_; have HI189 := n2_; clear n0_ n1_ n2_; (try clear hb); (try clear hb2); (try clear hk); (try clear hi)))
                          go_ret
                          exact ⟨by first | rfl | (simp [errW_none, errW_some] <;> rfl) | (simp [*, errW_none, errW_some] <;> rfl), by repeat (first | (with_reducible first | exact HB.out | apply below_alloc | apply pw_below_drewN | apply below_drew1 | refine below_set ?_ (IsS62.ge HI181.out) | refine below_set ?_ (IsS62.ge HI189.out)) | exact HB.out)⟩
                      · rw [if_neg c47] at H
                        have c47b0 : (t212 == t216) = false := beq_eq_false_iff_ne.mpr c47
                        have c47b1 : (t212 != t216) = true := bne_iff_ne.mpr c47
                        obtain rfl := Option.some.inj H
                        go_wp2_with (first | (go_at_call 21; (with_reducible refine (terracelaw20_BucketCopies_1.calls kj30 g181 x182000_30 x182001_30 x182002_30 _ _ l2 t209 t210 t211 w _ ?side1 ?side2 ?side3 ?side4 A44.out).mono ?_); (case side1 => repeat (first | (with_reducible first | exact HI181.out | apply IsS62.alloc | apply IsS62.drewN | apply IsS62.drew | apply IsS62.set_0 | apply IsS62.set_1 | apply IsS62.set_2) | exact HI181.out)); (case side2 => repeat (first | (with_reducible first | exact HB.out | apply below_alloc | apply pw_below_drewN | apply below_drew1 | refine below_set ?_ (IsS62.ge HI181.out) | refine below_set ?_ (IsS62.ge HI189.out)) | exact HB.out)); (case side3 => exact Kd.C_foot_came k33_heap HR2.out (by repeat (first | (with_reducible first | exact HB.out | apply below_alloc | apply pw_below_drewN | apply below_drew1 | refine below_set ?_ (IsS62.ge HI181.out) | refine below_set ?_ (IsS62.ge HI189.out)) | exact HB.out)) (IsS62.ge HI181.out)); (case side4 => exact HC2.out); rintro e w63 ⟨rfl, hi, hb, hk⟩; have n0_ := Aside0.mk ((show IsS62 w _ g189 t198 t199 t200 from ⟨KeepBut.blk hk (show IsS62 w _ g189 t198 t199 t200 from by repeat (first | (with_reducible first | exact HI189.out | apply IsS62.alloc | apply IsS62.drewN | apply IsS62.drew | apply IsS62.set_0 | apply IsS62.set_1 | apply IsS62.set_2) | exact HI189.out)).1 NB189_181.out (by simp), (show IsS62 w _ g189 t198 t199 t200 from by repeat (first | (with_reducible first | exact HI189.out | apply IsS62.alloc | apply IsS62.drewN | apply IsS62.drew | apply IsS62.set_0 | apply IsS62.set_1 | apply IsS62.set_2) | exact HI189.out)).2⟩)); have n1_ := Aside0.mk (hb); have n2_ := Aside0.mk (hi); clear HI189; clear HB; clear HI181; have HI189 := n0_; have HB := n1_; have HI181 := n2_; clear n0_ n1_ n2_; (try clear hb); (try clear hb2); (try clear hk); (try clear hi)) | ((with_reducible refine gate_callee (f := 16) rfl ?_); refine goesL_ (some 72) rfl rfl Try.func16 (by kernel_rfl) rfl #[.pointer (some ⟨g181, 0, none⟩)] rfl (by (try simp only [List.map_toArray, List.map_cons, List.map_nil]); first | done | rfl | (simp only [List.length_drop, List.length_take]; rfl)) ?_; (with_reducible refine (bucket_Bucket_Tokens.calls g181 t209 t210 t211 t212 t213 t214 t215 w _ ?side1 ?side2 A45.out).mono ?_); (case side1 => repeat (first | (with_reducible first | exact HI181.out | apply IsS62.alloc | apply IsS62.drewN | apply IsS62.drew | apply IsS62.set_0 | apply IsS62.set_1 | apply IsS62.set_2) | exact HI181.out)); (case side2 => repeat (first | (with_reducible first | exact HB.out | apply below_alloc | apply pw_below_drewN | apply below_drew1 | refine below_set ?_ (IsS62.ge HI181.out) | refine below_set ?_ (IsS62.ge HI189.out)) | exact HB.out)); rintro e w64 ⟨rfl, hi, hb, hk⟩; refine ⟨_, rfl, ?_⟩; have n0_ := Aside0.mk ((show IsS62 w _ g189 t198 t199 t200 from ⟨KeepBut.blk hk (show IsS62 w _ g189 t198 t199 t200 from by repeat (first | (with_reducible first | exact HI189.out | apply IsS62.alloc | apply IsS62.drewN | apply IsS62.drew | apply IsS62.set_0 | apply IsS62.set_1 | apply IsS62.set_2) | exact HI189.out)).1 NB189_181.out (by simp), (show IsS62 w _ g189 t198 t199 t200 from by repeat (first | (with_reducible first | exact HI189.out | apply IsS62.alloc | apply IsS62.drewN | apply IsS62.drew | apply IsS62.set_0 | apply IsS62.set_1 | apply IsS62.set_2) | exact HI189.out)).2⟩)); have n1_ := Aside0.mk (hb); have n2_ := Aside0.mk (hi); clear HI189; clear HB; clear HI181; have HI189 := n0_; have HB := n1_; have HI181 := n2_; clear n0_ n1_ n2_; (try clear hb); (try clear hb2); (try clear hk); (try clear hi)) | ((with_reducible refine gate_callee (f := 16) rfl ?_); refine goesL_ (some 74) rfl rfl Try.func16 (by kernel_rfl) rfl #[.pointer (some ⟨g189, 0, none⟩)] rfl (by (try simp only [List.map_toArray, List.map_cons, List.map_nil]); first | done | rfl | (simp only [List.length_drop, List.length_take]; rfl)) ?_; (with_reducible refine (bucket_Bucket_Tokens.calls g189 t198 t199 t200 t216 t217 t218 t219 w _ ?side1 ?side2 A46.out).mono ?_); (case side1 => repeat (first | (with_reducible first | exact HI189.out | apply IsS62.alloc | apply IsS62.drewN | apply IsS62.drew | apply IsS62.set_0 | apply IsS62.set_1 | apply IsS62.set_2) | exact HI189.out)); (case side2 => repeat (first | (with_reducible first | exact HB.out | apply below_alloc | apply pw_below_drewN | apply below_drew1 | refine below_set ?_ (IsS62.ge HI181.out) | refine below_set ?_ (IsS62.ge HI189.out)) | exact HB.out)); rintro e w65 ⟨rfl, hi, hb, hk⟩; refine ⟨_, rfl, ?_⟩; have n0_ := Aside0.mk ((show IsS62 w _ g181 t213 t214 t215 from ⟨KeepBut.blk hk (show IsS62 w _ g181 t213 t214 t215 from by repeat (first | (with_reducible first | exact HI181.out | apply IsS62.alloc | apply IsS62.drewN | apply IsS62.drew | apply IsS62.set_0 | apply IsS62.set_1 | apply IsS62.set_2) | exact HI181.out)).1 NB181_189.out (by simp), (show IsS62 w _ g181 t213 t214 t215 from by repeat (first | (with_reducible first | exact HI181.out | apply IsS62.alloc | apply IsS62.drewN | apply IsS62.drew | apply IsS62.set_0 | apply IsS62.set_1 | apply IsS62.set_2) | exact HI181.out)).2⟩)); have n1_ := Aside0.mk (hb); have n2_ := Aside0.mk (hi); clear HI181; clear HB; clear HI189; have HI181 := n0_; have HB := n1_; have HI189 := n2_; clear n0_ n1_ n2_; (try clear hb); (try clear hb2); (try clear hk); (try clear hi)))
                        go_ret
                        exact ⟨by first | rfl | (simp [errW_none, errW_some] <;> rfl) | (simp [*, errW_none, errW_some] <;> rfl), by repeat (first | (with_reducible first | exact HB.out | apply below_alloc | apply pw_below_drewN | apply below_drew1 | refine below_set ?_ (IsS62.ge HI181.out) | refine below_set ?_ (IsS62.ge HI189.out)) | exact HB.out)⟩
        · rw [if_neg c20] at H
          have c20b0 : bucket_New.ok a0 = false := by simpa using c20
          clear c20
          replace H := Option.bind_eq_some_iff.mp H
          obtain ⟨t229, A660, H⟩ := H
          replace H : (if t229 = 0 then (terracelaw20_BucketCopies.j3 kj3 true) else (terracelaw20_BucketCopies.j3 kj3 true)) = some r := H
          have A66 := Aside0.mk A660
          clear A660
          have HC67 := Aside0.mk H
          clear H
          go_upto_region 4 with (first | ((with_reducible refine gate_callee (f := 10) rfl ?_); refine goesL_ (some 32) rfl rfl Try.func10 (by kernel_rfl) rfl #[.int .i64 a0] rfl (by (try simp only [List.map_toArray, List.map_cons, List.map_nil]); first | done | rfl | (simp only [List.length_drop, List.length_take]; rfl)) ?_; (with_reducible refine (bucket_New_no.calls a0 t229 _ A66.out).mono ?_); rintro e w68 ⟨rfl, hb⟩; refine ⟨_, rfl, ?_⟩; have n0_ := Aside0.mk (below_step (by repeat (first | (with_reducible first | exact HB.out | apply below_alloc | apply pw_below_drewN | apply below_drew1) | exact HB.out)) hb); clear HB; have HB := n0_; clear n0_; (try clear hb); (try clear hb2); (try clear hk); (try clear hi)))
          (try simp only [Act.put, List.setIfInBounds_toArray, List.set_cons_zero, List.set_cons_succ])
          go_cut [40] (fun v40 wc => ∃ (kq : Nat) (x40_66 : Bool), v40 = .bool x40_66 ∧ Aside0 (terracelaw20_BucketCopies.j3 kq x40_66 = some r) ∧ Aside0 (kq ≤ kj3) ∧ Aside0 (Below w.heap.size w wc))
          case first =>
            have H := HC67.out
            clear HC67
            by_cases c69 : t229 = 0
            · rw [if_pos c69] at H
              have c69b0 : (t229 == 0) = true := beq_iff_eq.mpr c69
              have c69b1 : (t229 != 0) = false := bne_eq_false_iff_eq.mpr c69
              clear c69
              (first | rw [c69b0] | (simp only [i64_w, i32_w]; rw [c69b0]) | skip)
              have H' := Aside0.mk H
              clear H
              go_wp2
              go_meet
              case rel => exact ⟨_, (true), (by first | rfl | (simp; done) | (simp [*]; done)), H', ⟨by have := HJ3.out; first | omega | exact Nat.le_refl _⟩, ⟨by repeat (first | (with_reducible first | exact HB.out | apply below_alloc | apply pw_below_drewN | apply below_drew1) | exact HB.out)⟩⟩
            · rw [if_neg c69] at H
              have c69b0 : (t229 == 0) = false := beq_eq_false_iff_ne.mpr c69
              have c69b1 : (t229 != 0) = true := bne_iff_ne.mpr c69
              (first | rw [c69b0] | (simp only [i64_w, i32_w]; rw [c69b0]) | skip)
              have H' := Aside0.mk H
              clear H
              go_wp2
              go_meet
              case rel => exact ⟨_, (true), (by first | rfl | (simp; done) | (simp [*]; done)), H', ⟨by have := HJ3.out; first | omega | exact Nat.le_refl _⟩, ⟨by repeat (first | (with_reducible first | exact HB.out | apply below_alloc | apply pw_below_drewN | apply below_drew1) | exact HB.out)⟩⟩
          case rest =>
            clear HC67
            try clear c1
            try clear c2
            try clear p2
            try clear c3
            try clear c4
            try clear c5
            try clear c6
            try clear c8
            try clear c9
            try clear c9b0
            try clear c10
            try clear c16
            try clear c17
            try clear c19
            try clear c20
            try clear c20b0
            try clear c22
            try clear c24
            try clear c24b0
            try clear c24b1
            try clear c25
            try clear c38
            try clear c38b0
            try clear c38b1
            try clear c43
            try clear c47
            try clear c47b0
            try clear c47b1
            try clear c50
            try clear c50b0
            try clear c50b1
            try clear c69
            try clear c69b0
            try clear c69b1
            try clear p2
            obtain ⟨kq, x40_66, rfl, HA, HJ66, HB⟩ := hcut
            cases kq with
            | zero => exact absurd HA.out (by simp [terracelaw20_BucketCopies.j3])
            | succ kj66 =>
              have H := HA.out
              clear HA
              simp only [terracelaw20_BucketCopies.j3] at H
              by_cases c70 : x40_66 = true
              · subst c70
                have H1 : (some false) = some r := by rw [if_pos rfl] at H; exact H
                clear H
                have H := H1
                clear H1
                obtain rfl := Option.some.inj H
                go_wp2
                go_ret
                exact ⟨by first | rfl | (simp [errW_none, errW_some] <;> rfl) | (simp [*, errW_none, errW_some] <;> rfl), by repeat (first | (with_reducible first | exact HB.out | apply below_alloc | apply pw_below_drewN | apply below_drew1) | exact HB.out)⟩
              · replace c70 := Bool.eq_false_iff.mpr c70
                subst c70
                have H1 : (none) = some r := by rw [if_neg (show ¬ (false = true) by decide)] at H; exact H
                clear H
                have H := H1
                clear H1
                exact absurd H (by simp)

def okS33 (x : S33) : Prop := ((Lit.int .u64 x.f0).wf = true) ∧ (x.f1.length ≤ maxLen ∧ ∀ y_ ∈ x.f1, (Lit.int .i64 y_).wf = true)
/-- THE ONE PURE STATEMENT of terracelaw20_BucketCopies. -/
def terracelaw20_BucketCopies.Pure : Prop := ∀ (a0 : Int) (l1 : List (S33)) (l2 : List (S33)), (Lit.int .i64 a0).wf = true → l1.length ≤ maxLen → (∀ y_ ∈ l1, okS33 y_) → l2.length ≤ maxLen → (∀ y_ ∈ l2, okS33 y_) → ∃ k, terracelaw20_BucketCopies.f k a0 l1 l2 = some true

end Go.Proofs.Ytkaglddebpmcmaa.PBucketCopies
