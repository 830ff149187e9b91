-- Written by ext.sh (the session's own program, over the kit's printer) out of the translation. Lean checks it.
import Derived.Test.YtknkpnommhdhlaaPSpeedCopiesx0
import Derived.Test.YtknkpnommhdhlaaPSpeedCopiesx1
import Derived.Test.YtknkpnommhdhlaaPSpeedCopiesx2
import Derived.Test.YtknkpnommhdhlaaPSpeedCopiesx3
import Derived.Test.YtknkpnommhdhlaaPSpeedCopiesx4
namespace Go.Proofs.Ytknkpnommhdhlaa.PSpeedCopies
open Go.RowKit Go.Proofs.YtknkpnommhdhlaaW.PrintWords Go.Proofs.YtknkpnommhdhlaaW.PrintLast Go.Proofs.YtknkpnommhdhlaaW.PrintMore
attribute [local go_sem] max2_int min2_int max_two min_two max_three min_three max_four min_four   -- for this text's walks alone
set_option linter.unusedVariables false
set_option linter.unusedSimpArgs false

/-! ### terracelaw19_SpeedCopies: function 6 -/
mutual
def terracelaw19_SpeedCopies.j0 : Nat → Int → Int → List (S38) → Bool → Option (Bool)
  | 0, _, _, _, _ => none
  | k + 1, x0, x1, x2, x24 => if x24 = true then ((terracelaw19_awake.f k).bind fun t179 => (some t179)) else (if speed_New.ok x0 x1 = true then ((speed_New.f x0 x1).bind fun bt180 => (if bt180.2.2 = 0 then (terracelaw19_SpeedCopies.j1 k x0 x1 x2 false bt180.1 bt180.2.1) else (terracelaw19_SpeedCopies.j1 k x0 x1 x2 true bt180.1 bt180.2.1))) else ((speed_New_no.f x0 x1).bind fun t203 => (if t203 = 0 then (terracelaw19_SpeedCopies.j3 k true) else (terracelaw19_SpeedCopies.j3 k true))))
def terracelaw19_SpeedCopies.j1 : Nat → Int → Int → List (S38) → Bool → Int → Int → Option (Bool)
  | 0, _, _, _, _, _, _ => none
  | k + 1, x0, x1, x2, x37, x183000, x183001 => if x37 = true then (some false) else ((speed_Speed_Copy.f x183000 x183001).bind fun bt184 => (terracelaw19_SpeedCopies.l0 k x0 x1 x1 x2 (x2.length : Int) 0 x183000 x183001 bt184.1 bt184.2))
def terracelaw19_SpeedCopies.l0 : Nat → Int → Int → Int → List (S38) → Int → Int → Int → Int → Int → Int → Option (Bool)
  | 0, _, _, _, _, _, _, _, _, _, _ => none
  | k + 1, x0, x1, x10, x43, x44, x45, x183000, x183001, x187000, x187001 => if x45 < x44 then (if 0 ≤ x45 then (if x45 < (x43.length : Int) then ((terracelaw19_step.f k x187000 x187001 x0 x10 ((rd_T38 x43 x45).f0) ((rd_T38 x43 x45).f1) ((rd_T38 x43 x45).f2) ((rd_T38 x43 x45).f3)).bind fun bt189 => (terracelaw19_SpeedCopies.l0 k x0 x1 bt189.1 x43 x44 (wrap64 (x45 + 1)) x183000 x183001 bt189.2.2.1 bt189.2.2.2)) else (none)) else (none)) else ((speed_Speed_Rate.f x183000 x183001).bind fun bt193 => (if bt193.1 = x1 then ((speed_Speed_Rate.f x187000 x187001).bind fun bt196 => (if bt196.1 = x10 then ((speed_Speed_Floor.f bt196.2.1 bt196.2.2).bind fun bt199 => (if bt199.1 = x0 then ((terracelaw19_awake.f k).bind fun t202 => (some t202)) else (some false))) else (some false))) else (some false)))
def terracelaw19_SpeedCopies.j3 : Nat → Bool → Option (Bool)
  | 0, _ => none
  | k + 1, x37 => if x37 = true then (some false) else (none)
end
def terracelaw19_SpeedCopies.f (k : Nat) (a0 : Int) (a1 : Int) (l2 : List (S38)) : Option (Bool) := if (l2.length : Int) > 60 then (terracelaw19_SpeedCopies.j0 k a0 a1 l2 true) else (if a0 = 0 then (terracelaw19_SpeedCopies.j0 k a0 a1 l2 true) else (terracelaw19_SpeedCopies.j0 k a0 a1 l2 (decide (a1 < a0))))
theorem terracelaw19_SpeedCopies.mono_l : ∀ k, (∀ y0 y1 y2 y3, LeO (terracelaw19_SpeedCopies.j0 k y0 y1 y2 y3) (terracelaw19_SpeedCopies.j0 (k + 1) y0 y1 y2 y3)) ∧ (∀ y0 y1 y2 y3 y4 y5, LeO (terracelaw19_SpeedCopies.j1 k y0 y1 y2 y3 y4 y5) (terracelaw19_SpeedCopies.j1 (k + 1) y0 y1 y2 y3 y4 y5)) ∧ (∀ y0 y1 y2 y3 y4 y5 y6 y7 y8 y9, LeO (terracelaw19_SpeedCopies.l0 k y0 y1 y2 y3 y4 y5 y6 y7 y8 y9) (terracelaw19_SpeedCopies.l0 (k + 1) y0 y1 y2 y3 y4 y5 y6 y7 y8 y9)) ∧ (∀ y0, LeO (terracelaw19_SpeedCopies.j3 k y0) (terracelaw19_SpeedCopies.j3 (k + 1) y0))
  | 0 => ⟨fun _ _ _ _ r h => by simp [terracelaw19_SpeedCopies.j0] at h, fun _ _ _ _ _ _ r h => by simp [terracelaw19_SpeedCopies.j1] at h, fun _ _ _ _ _ _ _ _ _ _ r h => by simp [terracelaw19_SpeedCopies.l0] at h, fun _ r h => by simp [terracelaw19_SpeedCopies.j3] at h⟩
  | k + 1 => by
    obtain ⟨ih0, ih1, ih2, ih3⟩ := terracelaw19_SpeedCopies.mono_l k
    refine ⟨?_, ?_, ?_, ?_⟩
    · intro y0 y1 y2 y3
      unfold terracelaw19_SpeedCopies.j0
      repeat' first
      | (with_reducible exact ih0 _ _ _ _)
      | (with_reducible exact ih1 _ _ _ _ _ _)
      | (with_reducible exact ih2 _ _ _ _ _ _ _ _ _ _)
      | (with_reducible exact ih3 _)
      | (with_reducible exact terracelaw19_awake.mono _)
      | (with_reducible exact terracelaw19_step.mono _ _ _ _ _ _ _ _ _)
      | (with_reducible exact LeO.refl _)
      | (with_reducible exact LeO.none _)
      | (with_reducible refine LeO.ite ?_ ?_)
      | (with_reducible refine LeO.bind ?_ (fun _ => ?_))
      | exact ih0 _ _ _ _
      | exact ih1 _ _ _ _ _ _
      | exact ih2 _ _ _ _ _ _ _ _ _ _
      | exact ih3 _
      | exact terracelaw19_awake.mono _
      | exact terracelaw19_step.mono _ _ _ _ _ _ _ _ _
      | exact LeO.none _
      | refine LeO.ite ?_ ?_
      | refine LeO.bind ?_ (fun _ => ?_)
    · intro y0 y1 y2 y3 y4 y5
      unfold terracelaw19_SpeedCopies.j1
      repeat' first
      | (with_reducible exact ih0 _ _ _ _)
      | (with_reducible exact ih1 _ _ _ _ _ _)
      | (with_reducible exact ih2 _ _ _ _ _ _ _ _ _ _)
      | (with_reducible exact ih3 _)
      | (with_reducible exact terracelaw19_awake.mono _)
      | (with_reducible exact terracelaw19_step.mono _ _ _ _ _ _ _ _ _)
      | (with_reducible exact LeO.refl _)
      | (with_reducible exact LeO.none _)
      | (with_reducible refine LeO.ite ?_ ?_)
      | (with_reducible refine LeO.bind ?_ (fun _ => ?_))
      | exact ih0 _ _ _ _
      | exact ih1 _ _ _ _ _ _
      | exact ih2 _ _ _ _ _ _ _ _ _ _
      | exact ih3 _
      | exact terracelaw19_awake.mono _
      | exact terracelaw19_step.mono _ _ _ _ _ _ _ _ _
      | exact LeO.none _
      | refine LeO.ite ?_ ?_
      | refine LeO.bind ?_ (fun _ => ?_)
    · intro y0 y1 y2 y3 y4 y5 y6 y7 y8 y9
      unfold terracelaw19_SpeedCopies.l0
      repeat' first
      | (with_reducible exact ih0 _ _ _ _)
      | (with_reducible exact ih1 _ _ _ _ _ _)
      | (with_reducible exact ih2 _ _ _ _ _ _ _ _ _ _)
      | (with_reducible exact ih3 _)
      | (with_reducible exact terracelaw19_awake.mono _)
      | (with_reducible exact terracelaw19_step.mono _ _ _ _ _ _ _ _ _)
      | (with_reducible exact LeO.refl _)
      | (with_reducible exact LeO.none _)
      | (with_reducible refine LeO.ite ?_ ?_)
      | (with_reducible refine LeO.bind ?_ (fun _ => ?_))
      | exact ih0 _ _ _ _
      | exact ih1 _ _ _ _ _ _
      | exact ih2 _ _ _ _ _ _ _ _ _ _
      | exact ih3 _
      | exact terracelaw19_awake.mono _
      | exact terracelaw19_step.mono _ _ _ _ _ _ _ _ _
      | exact LeO.none _
      | refine LeO.ite ?_ ?_
      | refine LeO.bind ?_ (fun _ => ?_)
    · intro y0
      unfold terracelaw19_SpeedCopies.j3
      repeat' first
      | (with_reducible exact ih0 _ _ _ _)
      | (with_reducible exact ih1 _ _ _ _ _ _)
      | (with_reducible exact ih2 _ _ _ _ _ _ _ _ _ _)
      | (with_reducible exact ih3 _)
      | (with_reducible exact terracelaw19_awake.mono _)
      | (with_reducible exact terracelaw19_step.mono _ _ _ _ _ _ _ _ _)
      | (with_reducible exact LeO.refl _)
      | (with_reducible exact LeO.none _)
      | (with_reducible refine LeO.ite ?_ ?_)
      | (with_reducible refine LeO.bind ?_ (fun _ => ?_))
      | exact ih0 _ _ _ _
      | exact ih1 _ _ _ _ _ _
      | exact ih2 _ _ _ _ _ _ _ _ _ _
      | exact ih3 _
      | exact terracelaw19_awake.mono _
      | exact terracelaw19_step.mono _ _ _ _ _ _ _ _ _
      | exact LeO.none _
      | refine LeO.ite ?_ ?_
      | refine LeO.bind ?_ (fun _ => ?_)
theorem terracelaw19_SpeedCopies.mono : ∀ a0 a1 a2 k, LeO (terracelaw19_SpeedCopies.f k a0 a1 a2) (terracelaw19_SpeedCopies.f (k + 1) a0 a1 a2) := by
  intro a0 a1 a2 k
  obtain ⟨ih0, ih1, ih2, ih3⟩ := terracelaw19_SpeedCopies.mono_l k
  unfold terracelaw19_SpeedCopies.f
  repeat' first
      | (with_reducible exact ih0 _ _ _ _)
      | (with_reducible exact ih1 _ _ _ _ _ _)
      | (with_reducible exact ih2 _ _ _ _ _ _ _ _ _ _)
      | (with_reducible exact ih3 _)
      | (with_reducible exact terracelaw19_awake.mono _)
      | (with_reducible exact terracelaw19_step.mono _ _ _ _ _ _ _ _ _)
      | (with_reducible exact LeO.refl _)
      | (with_reducible exact LeO.none _)
      | (with_reducible refine LeO.ite ?_ ?_)
      | (with_reducible refine LeO.bind ?_ (fun _ => ?_))
      | exact ih0 _ _ _ _
      | exact ih1 _ _ _ _ _ _
      | exact ih2 _ _ _ _ _ _ _ _ _ _
      | exact ih3 _
      | exact terracelaw19_awake.mono _
      | exact terracelaw19_step.mono _ _ _ _ _ _ _ _ _
      | exact LeO.none _
      | refine LeO.ite ?_ ?_
      | refine LeO.bind ?_ (fun _ => ?_)
set_option maxHeartbeats 8000000 in
set_option maxRecDepth 100000 in
theorem terracelaw19_SpeedCopies.calls (k : Nat) (a0 : Int) (a1 : Int) (A2 : Option Addr) (c2 : Nat) (l2 : List (S38)) (r : Bool) (w : World) (hr2 : Kd.C k38 w A2 l2.length l2) (hc2 : l2.length ≤ c2) (h : terracelaw19_SpeedCopies.f k a0 a1 l2 = some r) :
    Calls Try.prog 6 #[.int .u64 a0, .int .u64 a1, .slice A2 l2.length c2] w fun e w' => e = .returned (.bool r) ∧ Below w.heap.size w w' := by
  have hu38 := Try.underlying38
  have hup29 := Try.underlying29
  have HR2 := Aside0.mk hr2
  have HC2 := Aside0.mk hc2
  clear hr2 hc2
  have HB := Aside0.mk (Below.refl w.heap.size w)
  have H : (if (l2.length : Int) > 60 then (terracelaw19_SpeedCopies.j0 k a0 a1 l2 true) else (if a0 = 0 then (terracelaw19_SpeedCopies.j0 k a0 a1 l2 true) else (terracelaw19_SpeedCopies.j0 k a0 a1 l2 (decide (a1 < a0))))) = some r := h
  clear h
  have HC4 := Aside0.mk H
  clear H
  go_enter Try.func6, Try.ntmps6
  go_upto_region 1 with (fail)
  go_cut [24] (fun v24 wc => ∃ (kq : Nat) (x24_3 : Bool), v24 = .bool x24_3 ∧ Aside0 (terracelaw19_SpeedCopies.j0 kq a0 a1 l2 x24_3 = some r) ∧ Aside0 (kq ≤ k) ∧ Aside0 (Below w.heap.size w wc))
  case first =>
    have H := HC4.out
    clear HC4
    by_cases c5 : (l2.length : Int) > 60
    · rw [if_pos c5] at H
      have c5b0 : decide (60 < (l2.length : Int)) = true := decide_eq_true c5
      have c5b1 : decide (60 < l2.length) = true := decide_eq_true (by omega)
      clear c5
      (first | rw [c5b0] | (simp only [i64_w, i32_w]; rw [c5b0]) | skip)
      have H' := Aside0.mk H
      clear H
      go_wp2
      go_meet
      case rel => exact ⟨_, (true), (by first | rfl | (simp; done) | (simp [*]; done)), H', ⟨by first | omega | exact Nat.le_refl _⟩, ⟨by repeat (first | (with_reducible first | exact HB.out | apply below_alloc | apply pw_below_drewN | apply below_drew1) | exact HB.out)⟩⟩
    · rw [if_neg c5] at H
      have c5b0 : decide (60 < (l2.length : Int)) = false := decide_eq_false c5
      have c5b1 : decide (60 < l2.length) = false := decide_eq_false (by omega)
      clear c5
      (first | rw [c5b0] | (simp only [i64_w, i32_w]; rw [c5b0]) | skip)
      by_cases c6 : a0 = 0
      · rw [if_pos c6] at H
        have c6b0 : (a0 == 0) = true := beq_iff_eq.mpr c6
        have c6b1 : (a0 != 0) = false := bne_eq_false_iff_eq.mpr c6
        clear c6
        have H' := Aside0.mk H
        clear H
        go_wp2
        go_meet
        case rel => exact ⟨_, (true), (by first | rfl | (simp; done) | (simp [*]; done)), H', ⟨by first | omega | exact Nat.le_refl _⟩, ⟨by repeat (first | (with_reducible first | exact HB.out | apply below_alloc | apply pw_below_drewN | apply below_drew1) | exact HB.out)⟩⟩
      · rw [if_neg c6] at H
        have c6b0 : (a0 == 0) = false := beq_eq_false_iff_ne.mpr c6
        have c6b1 : (a0 != 0) = true := bne_iff_ne.mpr c6
        have H' := Aside0.mk H
        clear H
        go_wp2
        go_meet
        case rel => exact ⟨_, (decide (a1 < a0)), (by first | rfl | (simp; done) | (simp [*]; done)), H', ⟨by first | omega | exact Nat.le_refl _⟩, ⟨by repeat (first | (with_reducible first | exact HB.out | apply below_alloc | apply pw_below_drewN | apply below_drew1) | exact HB.out)⟩⟩
  case rest =>
    clear HC4
    try clear c2
    try clear p2
    try clear c5
    try clear c5b0
    try clear c5b1
    try clear c6
    try clear c6b0
    try clear c6b1
    obtain ⟨kq, x24_3, rfl, HA, HJ3, HB⟩ := hcut
    cases kq with
    | zero => exact absurd HA.out (by simp [terracelaw19_SpeedCopies.j0])
    | succ kj3 =>
      have H := HA.out
      clear HA
      simp only [terracelaw19_SpeedCopies.j0] at H
      by_cases c7 : x24_3 = true
      · subst c7
        have H1 : ((terracelaw19_awake.f kj3).bind fun t179 => (some t179)) = some r := by rw [if_pos rfl] at H; exact H
        clear H
        have H := H1
        clear H1
        replace H := Option.bind_eq_some_iff.mp H
        obtain ⟨t179, A80, H⟩ := H
        replace H : (some t179) = some r := H
        have A8 := Aside0.mk A80
        clear A80
        obtain rfl := Option.some.inj H
        go_wp2_with (first | ((with_reducible refine gate_callee (f := 8) rfl ?_); refine goesL_ (some 25) rfl rfl Try.func8 (by kernel_rfl) rfl #[] rfl (by (try simp only [List.map_toArray, List.map_cons, List.map_nil]); first | done | rfl | (simp only [List.length_drop, List.length_take]; rfl)) ?_; (with_reducible refine (terracelaw19_awake.calls kj3  t179 _ A8.out).mono ?_); rintro e w9 ⟨rfl, hb⟩; refine ⟨_, rfl, ?_⟩; have n0_ := Aside0.mk (below_step (by repeat (first | (with_reducible first | exact HB.out | apply below_alloc | apply pw_below_drewN | apply below_drew1) | exact HB.out)) hb); clear HB; have HB := n0_; clear n0_; (try clear hb); (try clear hb2); (try clear hk); (try clear hi)))
        go_ret
        exact ⟨by first | rfl | (simp [errW_none, errW_some] <;> rfl) | (simp [*, errW_none, errW_some] <;> rfl), by repeat (first | (with_reducible first | exact HB.out | apply below_alloc | apply pw_below_drewN | apply below_drew1) | exact HB.out)⟩
      · replace c7 := Bool.eq_false_iff.mpr c7
        subst c7
        have H1 : (if speed_New.ok a0 a1 = true then ((speed_New.f a0 a1).bind fun bt180 => (if bt180.2.2 = 0 then (terracelaw19_SpeedCopies.j1 kj3 a0 a1 l2 false bt180.1 bt180.2.1) else (terracelaw19_SpeedCopies.j1 kj3 a0 a1 l2 true bt180.1 bt180.2.1))) else ((speed_New_no.f a0 a1).bind fun t203 => (if t203 = 0 then (terracelaw19_SpeedCopies.j3 kj3 true) else (terracelaw19_SpeedCopies.j3 kj3 true)))) = some r := by rw [if_neg (show ¬ (false = true) by decide)] at H; exact H
        clear H
        have H := H1
        clear H1
        by_cases c10 : speed_New.ok a0 a1 = true
        · rw [if_pos c10] at H
          have c10b0 : speed_New.ok a0 a1 = true := c10
          clear c10
          replace H := Option.bind_eq_some_iff.mp H
          obtain ⟨⟨t180, t181, t183⟩, A110, H⟩ := H
          replace H : (if t183 = 0 then (terracelaw19_SpeedCopies.j1 kj3 a0 a1 l2 false t180 t181) else (terracelaw19_SpeedCopies.j1 kj3 a0 a1 l2 true t180 t181)) = some r := H
          have A11 := Aside0.mk A110
          clear A110
          have HC12 := Aside0.mk H
          clear H
          go_upto_region 4 with (first | ((with_reducible refine gate_callee (f := 9) rfl ?_); refine goesL_ (some 29) rfl rfl Try.func9 (by kernel_rfl) rfl #[.int .u64 a0, .int .u64 a1] rfl (by (try simp only [List.map_toArray, List.map_cons, List.map_nil]); first | done | rfl | (simp only [List.length_drop, List.length_take]; rfl)) ?_; (with_reducible refine (speed_New.calls a0 a1 t180 t181 t183 _ A11.out).mono ?_); rintro e w13 ⟨g182, rfl, hi0, hb2⟩; refine ⟨_, rfl, ?_⟩; have hi : IsS48 w w13 g182 t180 t181 := ⟨hi0.1, Nat.le_trans (below_size (by repeat (first | (with_reducible first | exact HB.out | apply below_alloc | apply pw_below_drewN | apply below_drew1) | exact HB.out))) hi0.2⟩; have hb := below_step (by repeat (first | (with_reducible first | exact HB.out | apply below_alloc | apply pw_below_drewN | apply below_drew1) | exact HB.out)) hb2; have n0_ := Aside0.mk (hb); have n1_ := Aside0.mk (hi); clear HB; have HB := n0_; have HI182 := n1_; clear n0_ n1_; (try clear hb); (try clear hb2); (try clear hk); (try clear hi)))
          (try simp only [Act.put, List.setIfInBounds_toArray, List.set_cons_zero, List.set_cons_succ])
          go_cut [37] (fun v37 wc => ∃ (kq : Nat) (x37_11 : Bool), v37 = .bool x37_11 ∧ Aside0 (terracelaw19_SpeedCopies.j1 kq a0 a1 l2 x37_11 t180 t181 = some r) ∧ Aside0 (kq ≤ kj3) ∧ Aside0 (IsS48 w wc g182 t180 t181) ∧ Aside0 (Below w.heap.size w wc))
          case first =>
            have H := HC12.out
            clear HC12
            by_cases c14 : t183 = 0
            · rw [if_pos c14] at H
              have c14b0 : (t183 == 0) = true := beq_iff_eq.mpr c14
              have c14b1 : (t183 != 0) = false := bne_eq_false_iff_eq.mpr c14
              clear c14
              (first | rw [c14b0] | (simp only [i64_w, i32_w]; rw [c14b0]) | skip)
              have H' := Aside0.mk H
              clear H
              go_wp2
              go_meet
              case rel => exact ⟨_, (false), (by first | rfl | (simp; done) | (simp [*]; done)), H', ⟨by have := HJ3.out; first | omega | exact Nat.le_refl _⟩, ⟨by repeat (first | (with_reducible first | exact HI182.out | apply IsS48.alloc | apply IsS48.drewN | apply IsS48.drew | apply IsS48.set_0 | apply IsS48.set_1) | exact HI182.out)⟩, ⟨by repeat (first | (with_reducible first | exact HB.out | apply below_alloc | apply pw_below_drewN | apply below_drew1 | refine below_set ?_ (IsS48.ge HI182.out)) | exact HB.out)⟩⟩
            · rw [if_neg c14] at H
              have c14b0 : (t183 == 0) = false := beq_eq_false_iff_ne.mpr c14
              have c14b1 : (t183 != 0) = true := bne_iff_ne.mpr c14
              (first | rw [c14b0] | (simp only [i64_w, i32_w]; rw [c14b0]) | skip)
              have H' := Aside0.mk H
              clear H
              go_wp2
              go_meet
              case rel => exact ⟨_, (true), (by first | rfl | (simp; done) | (simp [*]; done)), H', ⟨by have := HJ3.out; first | omega | exact Nat.le_refl _⟩, ⟨by repeat (first | (with_reducible first | exact HI182.out | apply IsS48.alloc | apply IsS48.drewN | apply IsS48.drew | apply IsS48.set_0 | apply IsS48.set_1) | exact HI182.out)⟩, ⟨by repeat (first | (with_reducible first | exact HB.out | apply below_alloc | apply pw_below_drewN | apply below_drew1 | refine below_set ?_ (IsS48.ge HI182.out)) | exact HB.out)⟩⟩
          case rest =>
            clear HC12
            try clear c1
            try clear c2
            try clear p2
            try clear c5
            try clear c5b0
            try clear c5b1
            try clear c6
            try clear c6b0
            try clear c6b1
            try clear c7
            try clear c8
            try clear c9
            try clear c10
            try clear c10b0
            try clear c14
            try clear c14b0
            try clear c14b1
            try clear p2
            obtain ⟨kq, x37_11, rfl, HA, HJ11, HI182, HB⟩ := hcut
            cases kq with
            | zero => exact absurd HA.out (by simp [terracelaw19_SpeedCopies.j1])
            | succ kj11 =>
              have H := HA.out
              clear HA
              simp only [terracelaw19_SpeedCopies.j1] at H
              by_cases c15 : x37_11 = true
              · subst c15
                have H1 : (some false) = some r := by rw [if_pos rfl] at H; exact H
                clear H
                have H := H1
                clear H1
                obtain rfl := Option.some.inj H
                go_wp2
                go_ret
                exact ⟨by first | rfl | (simp [errW_none, errW_some] <;> rfl) | (simp [*, errW_none, errW_some] <;> rfl), by repeat (first | (with_reducible first | exact HB.out | apply below_alloc | apply pw_below_drewN | apply below_drew1 | refine below_set ?_ (IsS48.ge HI182.out)) | exact HB.out)⟩
              · replace c15 := Bool.eq_false_iff.mpr c15
                subst c15
                have H1 : ((speed_Speed_Copy.f t180 t181).bind fun bt184 => (terracelaw19_SpeedCopies.l0 kj11 a0 a1 a1 l2 (l2.length : Int) 0 t180 t181 bt184.1 bt184.2)) = some r := by rw [if_neg (show ¬ (false = true) by decide)] at H; exact H
                clear H
                have H := H1
                clear H1
                replace H := Option.bind_eq_some_iff.mp H
                obtain ⟨⟨t184, t185⟩, A160, H⟩ := H
                replace H : (terracelaw19_SpeedCopies.l0 kj11 a0 a1 a1 l2 (l2.length : Int) 0 t180 t181 t184 t185) = some r := H
                have A16 := Aside0.mk A160
                clear A160
                have H' := Aside0.mk H
                clear H
                go_wp2_with (first | ((with_reducible refine gate_callee (f := 18) rfl ?_); refine goesL_ (some 39) rfl rfl Try.func18 (by kernel_rfl) rfl #[.pointer (some ⟨g182, 0, none⟩)] rfl (by (try simp only [List.map_toArray, List.map_cons, List.map_nil]); first | done | rfl | (simp only [List.length_drop, List.length_take]; rfl)) ?_; (with_reducible refine (speed_Speed_Copy.calls g182 t180 t181 t184 t185 w _ ?side1 A16.out).mono ?_); (case side1 => repeat (first | (with_reducible first | exact HI182.out | apply IsS48.alloc | apply IsS48.drewN | apply IsS48.drew | apply IsS48.set_0 | apply IsS48.set_1) | exact HI182.out)); rintro e w17 ⟨g186, rfl, hi0, hb2⟩; refine ⟨_, rfl, ?_⟩; have hi : IsS48 w w17 g186 t184 t185 := ⟨hi0.1, Nat.le_trans (below_size (by repeat (first | (with_reducible first | exact HB.out | apply below_alloc | apply pw_below_drewN | apply below_drew1 | refine below_set ?_ (IsS48.ge HI182.out)) | exact HB.out))) hi0.2⟩; have hb := below_step (by repeat (first | (with_reducible first | exact HB.out | apply below_alloc | apply pw_below_drewN | apply below_drew1 | refine below_set ?_ (IsS48.ge HI182.out)) | exact HB.out)) hb2; have n0_ := Aside0.mk (IsS48.below (by repeat (first | (with_reducible first | exact HI182.out | apply IsS48.alloc | apply IsS48.drewN | apply IsS48.drew | apply IsS48.set_0 | apply IsS48.set_1) | exact HI182.out)) hb2); have n1_ := Aside0.mk (hb); have n2_ := Aside0.mk (hi); have n3_ := Aside0.mk ((Nat.ne_of_gt (Nat.lt_of_lt_of_le (IsS48.lt (show IsS48 w _ g182 t180 t181 from by repeat (first | (with_reducible first | exact HI182.out | apply IsS48.alloc | apply IsS48.drewN | apply IsS48.drew | apply IsS48.set_0 | apply IsS48.set_1) | exact HI182.out))) hi0.2) : g186 ≠ g182)); have n4_ := Aside0.mk ((Nat.ne_of_lt (Nat.lt_of_lt_of_le (IsS48.lt (show IsS48 w _ g182 t180 t181 from by repeat (first | (with_reducible first | exact HI182.out | apply IsS48.alloc | apply IsS48.drewN | apply IsS48.drew | apply IsS48.set_0 | apply IsS48.set_1) | exact HI182.out))) hi0.2) : g182 ≠ g186)); clear HI182; clear HB; have HI182 := n0_; have HB := n1_; have HI186 := n2_; have NB186_182 := n3_; have NB182_186 := n4_; clear n0_ n1_ n2_ n3_ n4_; (try clear hb); (try clear hb2); (try clear hk); (try clear hi)))
                go_loopg [10, 45] kj11 (fun kq v10 v45 w' => ∃ (x10_3 : Int) (x45_3 : Int) (x187000_3 : Int) (x187001_3 : Int), v10 = .int .u64 x10_3 ∧ v45 = .int .i64 x45_3 ∧ Aside0 (terracelaw19_SpeedCopies.l0 kq a0 a1 x10_3 l2 (l2.length : Int) x45_3 t180 t181 x187000_3 x187001_3 = some r) ∧ Aside0 (kq ≤ kj11) ∧ Aside0 (IsS48 w w' g182 t180 t181) ∧ Aside0 (IsS48 w w' g186 x187000_3 x187001_3) ∧ Aside0 (Below w.heap.size w w'))
                case atStart => exact ⟨(a1), (0), (t184), (t185), (by first | rfl | (simp; done) | (simp [*]; done)), (by first | rfl | (simp; done) | (simp [*]; done)), H', ⟨Nat.le_refl _⟩, ⟨by repeat (first | (with_reducible first | exact HI182.out | apply IsS48.alloc | apply IsS48.drewN | apply IsS48.drew | apply IsS48.set_0 | apply IsS48.set_1) | exact HI182.out)⟩, ⟨by repeat (first | (with_reducible first | exact HI186.out | apply IsS48.alloc | apply IsS48.drewN | apply IsS48.drew | apply IsS48.set_0 | apply IsS48.set_1) | exact HI186.out)⟩, ⟨by repeat (first | (with_reducible first | exact HB.out | apply below_alloc | apply pw_below_drewN | apply below_drew1 | refine below_set ?_ (IsS48.ge HI182.out) | refine below_set ?_ (IsS48.ge HI186.out)) | exact HB.out)⟩⟩
                case round =>
                  clear H'
                  try clear c1
                  try clear c2
                  try clear p2
                  try clear c5
                  try clear c5b0
                  try clear c5b1
                  try clear c6
                  try clear c6b0
                  try clear c6b1
                  try clear c7
                  try clear c8
                  try clear c9
                  try clear c10
                  try clear c10b0
                  try clear c14
                  try clear c14b0
                  try clear c14b1
                  try clear c15
                  try clear p2
                  obtain ⟨x10_3, x45_3, x187000_3, x187001_3, rfl, rfl, HA, HK3, HI182, HI186, HB⟩ := hrel
                  cases gk with
                  | zero => exact absurd HA.out (by simp [terracelaw19_SpeedCopies.l0])
                  | succ k3 =>
                    have H := HA.out
                    clear HA
                    simp only [terracelaw19_SpeedCopies.l0] at H
                    by_cases c18 : x45_3 < (l2.length : Int)
                    · rw [if_pos c18] at H
                      have c18b0 : decide (x45_3 < (l2.length : Int)) = true := decide_eq_true c18
                      clear c18
                      by_cases c19 : 0 ≤ x45_3
                      · rw [if_pos c19] at H
                        have c19b0 : decide (0 ≤ x45_3) = true := decide_eq_true c19
                        clear c19
                        by_cases c20 : x45_3 < (l2.length : Int)
                        · rw [if_pos c20] at H
                          have c20b0 : decide (x45_3 < (l2.length : Int)) = true := decide_eq_true c20
                          clear c20
                          replace H := Option.bind_eq_some_iff.mp H
                          obtain ⟨⟨t189, t190, t191, t192⟩, A210, H⟩ := H
                          replace H : (terracelaw19_SpeedCopies.l0 k3 a0 a1 t189 l2 (l2.length : Int) (wrap64 (x45_3 + 1)) t180 t181 t191 t192) = some r := H
                          have A21 := Aside0.mk A210
                          clear A210
                          have H' := Aside0.mk H
                          clear H
                          have p187 : 0 ≤ (x45_3 : Int) := of_decide_eq_true (by first | (with_reducible assumption) | assumption)
                          have q187 : x45_3 < (l2.length : Int) := of_decide_eq_true (by first | (with_reducible assumption) | assumption)
                          obtain ⟨ad187, e187, hx187_0, hx187_1, hx187_2, hx187_3⟩ := at_T38 HR2.out x45_3 p187 q187
                          cases e187
                          replace hx187_0 := (HB.out.cell (World.block_lt_of_cell? w _ hx187_0)).trans hx187_0
                          replace hx187_1 := (HB.out.cell (World.block_lt_of_cell? w _ hx187_1)).trans hx187_1
                          replace hx187_2 := (HB.out.cell (World.block_lt_of_cell? w _ hx187_2)).trans hx187_2
                          replace hx187_3 := (HB.out.cell (World.block_lt_of_cell? w _ hx187_3)).trans hx187_3
                          replace p187 := eq_true p187
                          replace q187 := eq_true q187
                          go_wp2_with (first | ((with_reducible refine gate_dst (N := 12) rfl ?_); refine box_event ?hg (N := 12) ?hd (cs := #[.int .i64 0, .int .i64 0, .int .i64 0, .int .u64 0]) (t := 38) ?hr ?_; (case hd => rfl); (case hg => rfl); (case hr => first | (go_simp; done) | (go_simp; rfl)); intro gb188 hg w22 hbox hb; have n0_ := Aside0.mk (IsS48.below (by repeat (first | (with_reducible first | exact HI182.out | apply IsS48.alloc | apply IsS48.drewN | apply IsS48.drew | apply IsS48.set_0 | apply IsS48.set_1) | exact HI182.out)) hb); have n1_ := Aside0.mk (IsS48.below (by repeat (first | (with_reducible first | exact HI186.out | apply IsS48.alloc | apply IsS48.drewN | apply IsS48.drew | apply IsS48.set_0 | apply IsS48.set_1) | exact HI186.out)) hb); have n2_ := Aside0.mk (below_step (by repeat (first | (with_reducible first | exact HB.out | apply below_alloc | apply pw_below_drewN | apply below_drew1 | refine below_set ?_ (IsS48.ge HI182.out) | refine below_set ?_ (IsS48.ge HI186.out)) | exact HB.out)) hb); have n3_ := Aside0.mk (hbox); have n4_ := Aside0.mk ((by rw [hg]; exact (below_size (by repeat (first | (with_reducible first | exact HB.out | apply below_alloc | apply pw_below_drewN | apply below_drew1 | refine below_set ?_ (IsS48.ge HI182.out) | refine below_set ?_ (IsS48.ge HI186.out)) | exact HB.out))) : w.heap.size ≤ gb188)); have n5_ := Aside0.mk ((by rw [hg]; exact (below_size (by repeat (first | (with_reducible first | exact HB.out | apply below_alloc | apply pw_below_drewN | apply below_drew1 | refine below_set ?_ (IsS48.ge HI182.out) | refine below_set ?_ (IsS48.ge HI186.out)) | exact HB.out))) : w.heap.size ≤ gb188)); have n6_ := Aside0.mk ((by rw [hg]; exact Nat.ne_of_lt (IsS48.lt (show IsS48 w _ g182 t180 t181 from by repeat (first | (with_reducible first | exact HI182.out | apply IsS48.alloc | apply IsS48.drewN | apply IsS48.drew | apply IsS48.set_0 | apply IsS48.set_1) | exact HI182.out))) : g182 ≠ gb188)); have n7_ := Aside0.mk ((by rw [hg]; exact Nat.ne_of_gt (IsS48.lt (show IsS48 w _ g182 t180 t181 from by repeat (first | (with_reducible first | exact HI182.out | apply IsS48.alloc | apply IsS48.drewN | apply IsS48.drew | apply IsS48.set_0 | apply IsS48.set_1) | exact HI182.out))) : gb188 ≠ g182)); have n8_ := Aside0.mk ((by rw [hg]; exact Nat.ne_of_lt (IsS48.lt (show IsS48 w _ g186 x187000_3 x187001_3 from by repeat (first | (with_reducible first | exact HI186.out | apply IsS48.alloc | apply IsS48.drewN | apply IsS48.drew | apply IsS48.set_0 | apply IsS48.set_1) | exact HI186.out))) : g186 ≠ gb188)); have n9_ := Aside0.mk ((by rw [hg]; exact Nat.ne_of_gt (IsS48.lt (show IsS48 w _ g186 x187000_3 x187001_3 from by repeat (first | (with_reducible first | exact HI186.out | apply IsS48.alloc | apply IsS48.drewN | apply IsS48.drew | apply IsS48.set_0 | apply IsS48.set_1) | exact HI186.out))) : gb188 ≠ g186)); clear HI182; clear HI186; clear HB; have HI182 := n0_; have HI186 := n1_; have HB := n2_; have BK188 := n3_; have GW188 := n4_; have GE188 := n5_; have NB182_188 := n6_; have NB188_182 := n7_; have NB186_188 := n8_; have NB188_186 := n9_; clear n0_ n1_ n2_ n3_ n4_ n5_ n6_ n7_ n8_ n9_; clear hb hbox hg; have hnb23 := NB188_182.out; have hnc23 := NB182_188.out; have hnb24 := NB188_186.out; have hnc24 := NB186_188.out; have hcz25_0 : w22.cell? ⟨gb188, 0, none⟩ = some (.int .i64 0) := (blk_cell BK188.out 0).trans rfl; have hcz25_1 : w22.cell? ⟨gb188, 1, none⟩ = some (.int .i64 0) := (blk_cell BK188.out 1).trans rfl; have hcz25_2 : w22.cell? ⟨gb188, 2, none⟩ = some (.int .i64 0) := (blk_cell BK188.out 2).trans rfl; have hcz25_3 : w22.cell? ⟨gb188, 3, none⟩ = some (.int .u64 0) := (blk_cell BK188.out 3).trans rfl; have hfz25_0 := blk_frozen BK188.out 0; have hfz25_1 := blk_frozen BK188.out 1; have hfz25_2 := blk_frozen BK188.out 2; have hfz25_3 := blk_frozen BK188.out 3) | ((with_reducible refine gate_callee (f := 16) rfl ?_); refine goesL_ (some 54) rfl rfl Try.func16 (by kernel_rfl) rfl #[.pointer (some ⟨g186, 0, none⟩), .int .u64 a0, .int .u64 x10_3, .agg #[.int .i64 ((rd_T38 l2 x45_3).f0), .int .i64 ((rd_T38 l2 x45_3).f1), .int .i64 ((rd_T38 l2 x45_3).f2), .int .u64 ((rd_T38 l2 x45_3).f3)]] rfl (by (try simp only [List.map_toArray, List.map_cons, List.map_nil]); first | done | rfl | (simp only [List.length_drop, List.length_take]; rfl)) ?_; (with_reducible refine (terracelaw19_step.calls k3 g186 x187000_3 x187001_3 a0 x10_3 ((rd_T38 l2 x45_3).f0) ((rd_T38 l2 x45_3).f1) ((rd_T38 l2 x45_3).f2) ((rd_T38 l2 x45_3).f3) t189 t190 t191 t192 w _ ?side1 ?side2 A21.out).mono ?_); (case side1 => repeat (first | (with_reducible first | exact HI186.out | apply IsS48.alloc | apply IsS48.drewN | apply IsS48.drew | apply IsS48.set_0 | apply IsS48.set_1 | refine IsS48.far ?_ NB186_188.out _) | exact HI186.out)); (case side2 => repeat (first | (with_reducible first | exact HB.out | apply below_alloc | apply pw_below_drewN | apply below_drew1 | refine below_set ?_ (IsS48.ge HI182.out) | refine below_set ?_ (IsS48.ge HI186.out) | refine below_set ?_ GE188.out) | exact HB.out)); rintro e w26 ⟨rfl, hi, hb, hk⟩; refine ⟨_, rfl, ?_⟩; have n0_ := Aside0.mk ((show IsS48 w _ g182 t180 t181 from ⟨KeepBut.blk hk (show IsS48 w _ g182 t180 t181 from by repeat (first | (with_reducible first | exact HI182.out | apply IsS48.alloc | apply IsS48.drewN | apply IsS48.drew | apply IsS48.set_0 | apply IsS48.set_1 | refine IsS48.far ?_ NB182_188.out _) | exact HI182.out)).1 NB182_186.out (by simp), (show IsS48 w _ g182 t180 t181 from by repeat (first | (with_reducible first | exact HI182.out | apply IsS48.alloc | apply IsS48.drewN | apply IsS48.drew | apply IsS48.set_0 | apply IsS48.set_1 | refine IsS48.far ?_ NB182_188.out _) | exact HI182.out)).2⟩)); have n1_ := Aside0.mk (KeepBut.blk hk (g' := gb188) (o := .cells #[.int .i64 ((rd_T38 l2 x45_3).f0), .int .i64 ((rd_T38 l2 x45_3).f1), .int .i64 ((rd_T38 l2 x45_3).f2), .int .u64 ((rd_T38 l2 x45_3).f3)] 38 (0, 0)) (by (with_reducible repeat (first | refine blk_drewN ?_ _ | refine blk_drew ?_ | refine blk_alloc ?_ _)); refine blk_put (cs := #[.int .i64 ((rd_T38 l2 x45_3).f0), .int .i64 ((rd_T38 l2 x45_3).f1), .int .i64 ((rd_T38 l2 x45_3).f2), .int .u64 0]) ?_ 3 _ rfl; (with_reducible repeat (first | refine blk_drewN ?_ _ | refine blk_drew ?_ | refine blk_alloc ?_ _)); refine blk_put (cs := #[.int .i64 ((rd_T38 l2 x45_3).f0), .int .i64 ((rd_T38 l2 x45_3).f1), .int .i64 0, .int .u64 0]) ?_ 2 _ rfl; (with_reducible repeat (first | refine blk_drewN ?_ _ | refine blk_drew ?_ | refine blk_alloc ?_ _)); refine blk_put (cs := #[.int .i64 ((rd_T38 l2 x45_3).f0), .int .i64 0, .int .i64 0, .int .u64 0]) ?_ 1 _ rfl; (with_reducible repeat (first | refine blk_drewN ?_ _ | refine blk_drew ?_ | refine blk_alloc ?_ _)); refine blk_put (cs := #[.int .i64 0, .int .i64 0, .int .i64 0, .int .u64 0]) ?_ 0 _ rfl; (with_reducible repeat (first | refine blk_drewN ?_ _ | refine blk_drew ?_ | refine blk_alloc ?_ _)); exact BK188.out) NB188_186.out (by simp)); have n2_ := Aside0.mk (hb); have n3_ := Aside0.mk (hi); clear HI182; clear BK188; clear HB; clear HI186; have HI182 := n0_; have BK188 := n1_; have HB := n2_; have HI186 := n3_; clear n0_ n1_ n2_ n3_; (try clear hb); (try clear hb2); (try clear hk); (try clear hi)))
                          go_roundg k3
                          case measure => have := HJ3.out; have := HJ11.out; have := HK3.out; omega
                          case rel => exact ⟨(t189), (wrap64 (x45_3 + 1)), (t191), (t192), (by first | rfl | (simp; done) | (simp [*]; done)), (by first | rfl | (simp; done) | (simp [*]; done)), H', ⟨by have := HJ3.out; have := HJ11.out; have := HK3.out; omega⟩, ⟨by repeat (first | (with_reducible first | exact HI182.out | apply IsS48.alloc | apply IsS48.drewN | apply IsS48.drew | apply IsS48.set_0 | apply IsS48.set_1 | refine IsS48.far ?_ NB182_188.out _) | exact HI182.out)⟩, ⟨by repeat (first | (with_reducible first | exact HI186.out | apply IsS48.alloc | apply IsS48.drewN | apply IsS48.drew | apply IsS48.set_0 | apply IsS48.set_1 | refine IsS48.far ?_ NB186_188.out _) | exact HI186.out)⟩, ⟨by repeat (first | (with_reducible first | exact HB.out | apply below_alloc | apply pw_below_drewN | apply below_drew1 | refine below_set ?_ (IsS48.ge HI182.out) | refine below_set ?_ (IsS48.ge HI186.out) | refine below_set ?_ GE188.out) | exact HB.out)⟩⟩
                        · rw [if_neg c20] at H
                          exact absurd H (by simp)
                      · rw [if_neg c19] at H
                        exact absurd H (by simp)
                    · rw [if_neg c18] at H
                      have c18b0 : decide (x45_3 < (l2.length : Int)) = false := decide_eq_false c18
                      clear c18
                      replace H := Option.bind_eq_some_iff.mp H
                      obtain ⟨⟨t193, t194, t195⟩, A270, H⟩ := H
                      replace H : (if t193 = a1 then ((speed_Speed_Rate.f x187000_3 x187001_3).bind fun bt196 => (if bt196.1 = x10_3 then ((speed_Speed_Floor.f bt196.2.1 bt196.2.2).bind fun bt199 => (if bt199.1 = a0 then ((terracelaw19_awake.f k3).bind fun t202 => (some t202)) else (some false))) else (some false))) else (some false)) = some r := H
                      have A27 := Aside0.mk A270
                      clear A270
                      by_cases c28 : t193 = a1
                      · rw [if_pos c28] at H
                        have c28b0 : (t193 == a1) = true := beq_iff_eq.mpr c28
                        have c28b1 : (t193 != a1) = false := bne_eq_false_iff_eq.mpr c28
                        clear c28
                        replace H := Option.bind_eq_some_iff.mp H
                        obtain ⟨⟨t196, t197, t198⟩, A290, H⟩ := H
                        replace H : (if t196 = x10_3 then ((speed_Speed_Floor.f t197 t198).bind fun bt199 => (if bt199.1 = a0 then ((terracelaw19_awake.f k3).bind fun t202 => (some t202)) else (some false))) else (some false)) = some r := H
                        have A29 := Aside0.mk A290
                        clear A290
                        by_cases c30 : t196 = x10_3
                        · rw [if_pos c30] at H
                          have c30b0 : (t196 == x10_3) = true := beq_iff_eq.mpr c30
                          have c30b1 : (t196 != x10_3) = false := bne_eq_false_iff_eq.mpr c30
                          clear c30
                          replace H := Option.bind_eq_some_iff.mp H
                          obtain ⟨⟨t199, t200, t201⟩, A310, H⟩ := H
                          replace H : (if t199 = a0 then ((terracelaw19_awake.f k3).bind fun t202 => (some t202)) else (some false)) = some r := H
                          have A31 := Aside0.mk A310
                          clear A310
                          by_cases c32 : t199 = a0
                          · rw [if_pos c32] at H
                            have c32b0 : (t199 == a0) = true := beq_iff_eq.mpr c32
                            have c32b1 : (t199 != a0) = false := bne_eq_false_iff_eq.mpr c32
                            clear c32
                            replace H := Option.bind_eq_some_iff.mp H
                            obtain ⟨t202, A330, H⟩ := H
                            replace H : (some t202) = some r := H
                            have A33 := Aside0.mk A330
                            clear A330
                            obtain rfl := Option.some.inj H
                            go_wp2_with (first | ((with_reducible refine gate_callee (f := 11) rfl ?_); refine goesL_ (some 59) rfl rfl Try.func11 (by kernel_rfl) rfl #[.pointer (some ⟨g182, 0, none⟩)] rfl (by (try simp only [List.map_toArray, List.map_cons, List.map_nil]); first | done | rfl | (simp only [List.length_drop, List.length_take]; rfl)) ?_; (with_reducible refine (speed_Speed_Rate.calls g182 t180 t181 t193 t194 t195 w _ ?side1 ?side2 A27.out).mono ?_); (case side1 => repeat (first | (with_reducible first | exact HI182.out | apply IsS48.alloc | apply IsS48.drewN | apply IsS48.drew | apply IsS48.set_0 | apply IsS48.set_1) | exact HI182.out)); (case side2 => repeat (first | (with_reducible first | exact HB.out | apply below_alloc | apply pw_below_drewN | apply below_drew1 | refine below_set ?_ (IsS48.ge HI182.out) | refine below_set ?_ (IsS48.ge HI186.out)) | exact HB.out)); rintro e w34 ⟨rfl, hi, hb, hk⟩; refine ⟨_, rfl, ?_⟩; have n0_ := Aside0.mk ((show IsS48 w _ g186 x187000_3 x187001_3 from ⟨KeepBut.blk hk (show IsS48 w _ g186 x187000_3 x187001_3 from by repeat (first | (with_reducible first | exact HI186.out | apply IsS48.alloc | apply IsS48.drewN | apply IsS48.drew | apply IsS48.set_0 | apply IsS48.set_1) | exact HI186.out)).1 NB186_182.out (by simp), (show IsS48 w _ g186 x187000_3 x187001_3 from by repeat (first | (with_reducible first | exact HI186.out | apply IsS48.alloc | apply IsS48.drewN | apply IsS48.drew | apply IsS48.set_0 | apply IsS48.set_1) | exact HI186.out)).2⟩)); have n1_ := Aside0.mk (hb); have n2_ := Aside0.mk (hi); clear HI186; clear HB; clear HI182; have HI186 := n0_; have HB := n1_; have HI182 := n2_; clear n0_ n1_ n2_; (try clear hb); (try clear hb2); (try clear hk); (try clear hi)) | (go_at_call 11; (with_reducible refine (speed_Speed_Rate.calls g186 x187000_3 x187001_3 t196 t197 t198 w _ ?side1 ?side2 A29.out).mono ?_); (case side1 => repeat (first | (with_reducible first | exact HI186.out | apply IsS48.alloc | apply IsS48.drewN | apply IsS48.drew | apply IsS48.set_0 | apply IsS48.set_1) | exact HI186.out)); (case side2 => repeat (first | (with_reducible first | exact HB.out | apply below_alloc | apply pw_below_drewN | apply below_drew1 | refine below_set ?_ (IsS48.ge HI182.out) | refine below_set ?_ (IsS48.ge HI186.out)) | exact HB.out)); rintro e w35 ⟨rfl, hi, hb, hk⟩; have n0_ := Aside0.mk ((show IsS48 w _ g182 t194 t195 from ⟨KeepBut.blk hk (show IsS48 w _ g182 t194 t195 from by repeat (first | (with_reducible first | exact HI182.out | apply IsS48.alloc | apply IsS48.drewN | apply IsS48.drew | apply IsS48.set_0 | apply IsS48.set_1) | exact HI182.out)).1 NB182_186.out (by simp), (show IsS48 w _ g182 t194 t195 from by repeat (first | (with_reducible first | exact HI182.out | apply IsS48.alloc | apply IsS48.drewN | apply IsS48.drew | apply IsS48.set_0 | apply IsS48.set_1) | exact HI182.out)).2⟩)); have n1_ := Aside0.mk (hb); have n2_ := Aside0.mk (hi); clear HI182; clear HB; clear HI186; have HI182 := n0_; have HB := n1_; have HI186 := n2_; clear n0_ n1_ n2_; (try clear hb); (try clear hb2); (try clear hk); (try clear hi)) | (go_at_call 17; (with_reducible refine (speed_Speed_Floor.calls g186 t197 t198 t199 t200 t201 w _ ?side1 ?side2 A31.out).mono ?_); (case side1 => repeat (first | (with_reducible first | exact HI186.out | apply IsS48.alloc | apply IsS48.drewN | apply IsS48.drew | apply IsS48.set_0 | apply IsS48.set_1) | exact HI186.out)); (case side2 => repeat (first | (with_reducible first | exact HB.out | apply below_alloc | apply pw_below_drewN | apply below_drew1 | refine below_set ?_ (IsS48.ge HI182.out) | refine below_set ?_ (IsS48.ge HI186.out)) | exact HB.out)); rintro e w36 ⟨rfl, hi, hb, hk⟩; have n0_ := Aside0.mk ((show IsS48 w _ g182 t194 t195 from ⟨KeepBut.blk hk (show IsS48 w _ g182 t194 t195 from by repeat (first | (with_reducible first | exact HI182.out | apply IsS48.alloc | apply IsS48.drewN | apply IsS48.drew | apply IsS48.set_0 | apply IsS48.set_1) | exact HI182.out)).1 NB182_186.out (by simp), (show IsS48 w _ g182 t194 t195 from by repeat (first | (with_reducible first | exact HI182.out | apply IsS48.alloc | apply IsS48.drewN | apply IsS48.drew | apply IsS48.set_0 | apply IsS48.set_1) | exact HI182.out)).2⟩)); have n1_ := Aside0.mk (hb); have n2_ := Aside0.mk (hi); clear HI182; clear HB; clear HI186; have HI182 := n0_; have HB := n1_; have HI186 := n2_; clear n0_ n1_ n2_; (try clear hb); (try clear hb2); (try clear hk); (try clear hi)) | (go_at_call 8; (with_reducible refine (terracelaw19_awake.calls k3  t202 _ A33.out).mono ?_); rintro e w37 ⟨rfl, hb⟩; have n0_ := Aside0.mk (IsS48.below (by repeat (first | (with_reducible first | exact HI182.out | apply IsS48.alloc | apply IsS48.drewN | apply IsS48.drew | apply IsS48.set_0 | apply IsS48.set_1) | exact HI182.out)) hb); have n1_ := Aside0.mk (IsS48.below (by repeat (first | (with_reducible first | exact HI186.out | apply IsS48.alloc | apply IsS48.drewN | apply IsS48.drew | apply IsS48.set_0 | apply IsS48.set_1) | exact HI186.out)) hb); have n2_ := Aside0.mk (below_step (by repeat (first | (with_reducible first | exact HB.out | apply below_alloc | apply pw_below_drewN | apply below_drew1 | refine below_set ?_ (IsS48.ge HI182.out) | refine below_set ?_ (IsS48.ge HI186.out)) | exact HB.out)) hb); clear HI182; clear HI186; clear HB; have HI182 := n0_; have HI186 := n1_; have HB := n2_; clear n0_ n1_ n2_; (try clear hb); (try clear hb2); (try clear hk); (try clear hi)))
                            go_ret
                            exact ⟨by first | rfl | (simp [errW_none, errW_some] <;> rfl) | (simp [*, errW_none, errW_some] <;> rfl), by repeat (first | (with_reducible first | exact HB.out | apply below_alloc | apply pw_below_drewN | apply below_drew1 | refine below_set ?_ (IsS48.ge HI182.out) | refine below_set ?_ (IsS48.ge HI186.out)) | exact HB.out)⟩
                          · rw [if_neg c32] at H
                            have c32b0 : (t199 == a0) = false := beq_eq_false_iff_ne.mpr c32
                            have c32b1 : (t199 != a0) = true := bne_iff_ne.mpr c32
                            obtain rfl := Option.some.inj H
                            go_wp2_with (first | ((with_reducible refine gate_callee (f := 11) rfl ?_); refine goesL_ (some 59) rfl rfl Try.func11 (by kernel_rfl) rfl #[.pointer (some ⟨g182, 0, none⟩)] rfl (by (try simp only [List.map_toArray, List.map_cons, List.map_nil]); first | done | rfl | (simp only [List.length_drop, List.length_take]; rfl)) ?_; (with_reducible refine (speed_Speed_Rate.calls g182 t180 t181 t193 t194 t195 w _ ?side1 ?side2 A27.out).mono ?_); (case side1 => repeat (first | (with_reducible first | exact HI182.out | apply IsS48.alloc | apply IsS48.drewN | apply IsS48.drew | apply IsS48.set_0 | apply IsS48.set_1) | exact HI182.out)); (case side2 => repeat (first | (with_reducible first | exact HB.out | apply below_alloc | apply pw_below_drewN | apply below_drew1 | refine below_set ?_ (IsS48.ge HI182.out) | refine below_set ?_ (IsS48.ge HI186.out)) | exact HB.out)); rintro e w38 ⟨rfl, hi, hb, hk⟩; refine ⟨_, rfl, ?_⟩; have n0_ := Aside0.mk ((show IsS48 w _ g186 x187000_3 x187001_3 from ⟨KeepBut.blk hk (show IsS48 w _ g186 x187000_3 x187001_3 from by repeat (first | (with_reducible first | exact HI186.out | apply IsS48.alloc | apply IsS48.drewN | apply IsS48.drew | apply IsS48.set_0 | apply IsS48.set_1) | exact HI186.out)).1 NB186_182.out (by simp), (show IsS48 w _ g186 x187000_3 x187001_3 from by repeat (first | (with_reducible first | exact HI186.out | apply IsS48.alloc | apply IsS48.drewN | apply IsS48.drew | apply IsS48.set_0 | apply IsS48.set_1) | exact HI186.out)).2⟩)); have n1_ := Aside0.mk (hb); have n2_ := Aside0.mk (hi); clear HI186; clear HB; clear HI182; have HI186 := n0_; have HB := n1_; have HI182 := n2_; clear n0_ n1_ n2_; (try clear hb); (try clear hb2); (try clear hk); (try clear hi)) | (go_at_call 11; (with_reducible refine (speed_Speed_Rate.calls g186 x187000_3 x187001_3 t196 t197 t198 w _ ?side1 ?side2 A29.out).mono ?_); (case side1 => repeat (first | (with_reducible first | exact HI186.out | apply IsS48.alloc | apply IsS48.drewN | apply IsS48.drew | apply IsS48.set_0 | apply IsS48.set_1) | exact HI186.out)); (case side2 => repeat (first | (with_reducible first | exact HB.out | apply below_alloc | apply pw_below_drewN | apply below_drew1 | refine below_set ?_ (IsS48.ge HI182.out) | refine below_set ?_ (IsS48.ge HI186.out)) | exact HB.out)); rintro e w39 ⟨rfl, hi, hb, hk⟩; have n0_ := Aside0.mk ((show IsS48 w _ g182 t194 t195 from ⟨KeepBut.blk hk (show IsS48 w _ g182 t194 t195 from by repeat (first | (with_reducible first | exact HI182.out | apply IsS48.alloc | apply IsS48.drewN | apply IsS48.drew | apply IsS48.set_0 | apply IsS48.set_1) | exact HI182.out)).1 NB182_186.out (by simp), (show IsS48 w _ g182 t194 t195 from by repeat (first | (with_reducible first | exact HI182.out | apply IsS48.alloc | apply IsS48.drewN | apply IsS48.drew | apply IsS48.set_0 | apply IsS48.set_1) | exact HI182.out)).2⟩)); have n1_ := Aside0.mk (hb); have n2_ := Aside0.mk (hi); clear HI182; clear HB; clear HI186; have HI182 := n0_; have HB := n1_; have HI186 := n2_; clear n0_ n1_ n2_; (try clear hb); (try clear hb2); (try clear hk); (try clear hi)) | (go_at_call 17; (with_reducible refine (speed_Speed_Floor.calls g186 t197 t198 t199 t200 t201 w _ ?side1 ?side2 A31.out).mono ?_); (case side1 => repeat (first | (with_reducible first | exact HI186.out | apply IsS48.alloc | apply IsS48.drewN | apply IsS48.drew | apply IsS48.set_0 | apply IsS48.set_1) | exact HI186.out)); (case side2 => repeat (first | (with_reducible first | exact HB.out | apply below_alloc | apply pw_below_drewN | apply below_drew1 | refine below_set ?_ (IsS48.ge HI182.out) | refine below_set ?_ (IsS48.ge HI186.out)) | exact HB.out)); rintro e w40 ⟨rfl, hi, hb, hk⟩; have n0_ := Aside0.mk ((show IsS48 w _ g182 t194 t195 from ⟨KeepBut.blk hk (show IsS48 w _ g182 t194 t195 from by repeat (first | (with_reducible first | exact HI182.out | apply IsS48.alloc | apply IsS48.drewN | apply IsS48.drew | apply IsS48.set_0 | apply IsS48.set_1) | exact HI182.out)).1 NB182_186.out (by simp), (show IsS48 w _ g182 t194 t195 from by repeat (first | (with_reducible first | exact HI182.out | apply IsS48.alloc | apply IsS48.drewN | apply IsS48.drew | apply IsS48.set_0 | apply IsS48.set_1) | exact HI182.out)).2⟩)); have n1_ := Aside0.mk (hb); have n2_ := Aside0.mk (hi); clear HI182; clear HB; clear HI186; have HI182 := n0_; have HB := n1_; have HI186 := n2_; clear n0_ n1_ n2_; (try clear hb); (try clear hb2); (try clear hk); (try clear hi)))
                            go_ret
                            exact ⟨by first | rfl | (simp [errW_none, errW_some] <;> rfl) | (simp [*, errW_none, errW_some] <;> rfl), by repeat (first | (with_reducible first | exact HB.out | apply below_alloc | apply pw_below_drewN | apply below_drew1 | refine below_set ?_ (IsS48.ge HI182.out) | refine below_set ?_ (IsS48.ge HI186.out)) | exact HB.out)⟩
                        · rw [if_neg c30] at H
                          have c30b0 : (t196 == x10_3) = false := beq_eq_false_iff_ne.mpr c30
                          have c30b1 : (t196 != x10_3) = true := bne_iff_ne.mpr c30
                          obtain rfl := Option.some.inj H
                          go_wp2_with (first | ((with_reducible refine gate_callee (f := 11) rfl ?_); refine goesL_ (some 59) rfl rfl Try.func11 (by kernel_rfl) rfl #[.pointer (some ⟨g182, 0, none⟩)] rfl (by (try simp only [List.map_toArray, List.map_cons, List.map_nil]); first | done | rfl | (simp only [List.length_drop, List.length_take]; rfl)) ?_; (with_reducible refine (speed_Speed_Rate.calls g182 t180 t181 t193 t194 t195 w _ ?side1 ?side2 A27.out).mono ?_); (case side1 => repeat (first | (with_reducible first | exact HI182.out | apply IsS48.alloc | apply IsS48.drewN | apply IsS48.drew | apply IsS48.set_0 | apply IsS48.set_1) | exact HI182.out)); (case side2 => repeat (first | (with_reducible first | exact HB.out | apply below_alloc | apply pw_below_drewN | apply below_drew1 | refine below_set ?_ (IsS48.ge HI182.out) | refine below_set ?_ (IsS48.ge HI186.out)) | exact HB.out)); rintro e w41 ⟨rfl, hi, hb, hk⟩; refine ⟨_, rfl, ?_⟩; have n0_ := Aside0.mk ((show IsS48 w _ g186 x187000_3 x187001_3 from ⟨KeepBut.blk hk (show IsS48 w _ g186 x187000_3 x187001_3 from by repeat (first | (with_reducible first | exact HI186.out | apply IsS48.alloc | apply IsS48.drewN | apply IsS48.drew | apply IsS48.set_0 | apply IsS48.set_1) | exact HI186.out)).1 NB186_182.out (by simp), (show IsS48 w _ g186 x187000_3 x187001_3 from by repeat (first | (with_reducible first | exact HI186.out | apply IsS48.alloc | apply IsS48.drewN | apply IsS48.drew | apply IsS48.set_0 | apply IsS48.set_1) | exact HI186.out)).2⟩)); have n1_ := Aside0.mk (hb); have n2_ := Aside0.mk (hi); clear HI186; clear HB; clear HI182; have HI186 := n0_; have HB := n1_; have HI182 := n2_; clear n0_ n1_ n2_; (try clear hb); (try clear hb2); (try clear hk); (try clear hi)) | (go_at_call 11; (with_reducible refine (speed_Speed_Rate.calls g186 x187000_3 x187001_3 t196 t197 t198 w _ ?side1 ?side2 A29.out).mono ?_); (case side1 => repeat (first | (with_reducible first | exact HI186.out | apply IsS48.alloc | apply IsS48.drewN | apply IsS48.drew | apply IsS48.set_0 | apply IsS48.set_1) | exact HI186.out)); (case side2 => repeat (first | (with_reducible first | exact HB.out | apply below_alloc | apply pw_below_drewN | apply below_drew1 | refine below_set ?_ (IsS48.ge HI182.out) | refine below_set ?_ (IsS48.ge HI186.out)) | exact HB.out)); rintro e w42 ⟨rfl, hi, hb, hk⟩; have n0_ := Aside0.mk ((show IsS48 w _ g182 t194 t195 from ⟨KeepBut.blk hk (show IsS48 w _ g182 t194 t195 from by repeat (first | (with_reducible first | exact HI182.out | apply IsS48.alloc | apply IsS48.drewN | apply IsS48.drew | apply IsS48.set_0 | apply IsS48.set_1) | exact HI182.out)).1 NB182_186.out (by simp), (show IsS48 w _ g182 t194 t195 from by repeat (first | (with_reducible first | exact HI182.out | apply IsS48.alloc | apply IsS48.drewN | apply IsS48.drew | apply IsS48.set_0 | apply IsS48.set_1) | exact HI182.out)).2⟩)); have n1_ := Aside0.mk (hb); have n2_ := Aside0.mk (hi); clear HI182; clear HB; clear HI186; have HI182 := n0_; have HB := n1_; have HI186 := n2_; clear n0_ n1_ n2_; (try clear hb); (try clear hb2); (try clear hk); (try clear hi)))
                          go_ret
                          exact ⟨by first | rfl | (simp [errW_none, errW_some] <;> rfl) | (simp [*, errW_none, errW_some] <;> rfl), by repeat (first | (with_reducible first | exact HB.out | apply below_alloc | apply pw_below_drewN | apply below_drew1 | refine below_set ?_ (IsS48.ge HI182.out) | refine below_set ?_ (IsS48.ge HI186.out)) | exact HB.out)⟩
                      · rw [if_neg c28] at H
                        have c28b0 : (t193 == a1) = false := beq_eq_false_iff_ne.mpr c28
                        have c28b1 : (t193 != a1) = true := bne_iff_ne.mpr c28
                        obtain rfl := Option.some.inj H
                        go_wp2_with (first | ((with_reducible refine gate_callee (f := 11) rfl ?_); refine goesL_ (some 59) rfl rfl Try.func11 (by kernel_rfl) rfl #[.pointer (some ⟨g182, 0, none⟩)] rfl (by (try simp only [List.map_toArray, List.map_cons, List.map_nil]); first | done | rfl | (simp only [List.length_drop, List.length_take]; rfl)) ?_; (with_reducible refine (speed_Speed_Rate.calls g182 t180 t181 t193 t194 t195 w _ ?side1 ?side2 A27.out).mono ?_); (case side1 => repeat (first | (with_reducible first | exact HI182.out | apply IsS48.alloc | apply IsS48.drewN | apply IsS48.drew | apply IsS48.set_0 | apply IsS48.set_1) | exact HI182.out)); (case side2 => repeat (first | (with_reducible first | exact HB.out | apply below_alloc | apply pw_below_drewN | apply below_drew1 | refine below_set ?_ (IsS48.ge HI182.out) | refine below_set ?_ (IsS48.ge HI186.out)) | exact HB.out)); rintro e w43 ⟨rfl, hi, hb, hk⟩; refine ⟨_, rfl, ?_⟩; have n0_ := Aside0.mk ((show IsS48 w _ g186 x187000_3 x187001_3 from ⟨KeepBut.blk hk (show IsS48 w _ g186 x187000_3 x187001_3 from by repeat (first | (with_reducible first | exact HI186.out | apply IsS48.alloc | apply IsS48.drewN | apply IsS48.drew | apply IsS48.set_0 | apply IsS48.set_1) | exact HI186.out)).1 NB186_182.out (by simp), (show IsS48 w _ g186 x187000_3 x187001_3 from by repeat (first | (with_reducible first | exact HI186.out | apply IsS48.alloc | apply IsS48.drewN | apply IsS48.drew | apply IsS48.set_0 | apply IsS48.set_1) | exact HI186.out)).2⟩)); have n1_ := Aside0.mk (hb); have n2_ := Aside0.mk (hi); clear HI186; clear HB; clear HI182; have HI186 := n0_; have HB := n1_; have HI182 := n2_; clear n0_ n1_ n2_; (try clear hb); (try clear hb2); (try clear hk); (try clear hi)))
                        go_ret
                        exact ⟨by first | rfl | (simp [errW_none, errW_some] <;> rfl) | (simp [*, errW_none, errW_some] <;> rfl), by repeat (first | (with_reducible first | exact HB.out | apply below_alloc | apply pw_below_drewN | apply below_drew1 | refine below_set ?_ (IsS48.ge HI182.out) | refine below_set ?_ (IsS48.ge HI186.out)) | exact HB.out)⟩
        · rw [if_neg c10] at H
          have c10b0 : speed_New.ok a0 a1 = false := by simpa using c10
          clear c10
          replace H := Option.bind_eq_some_iff.mp H
          obtain ⟨t203, A440, H⟩ := H
          replace H : (if t203 = 0 then (terracelaw19_SpeedCopies.j3 kj3 true) else (terracelaw19_SpeedCopies.j3 kj3 true)) = some r := H
          have A44 := Aside0.mk A440
          clear A440
          have HC45 := Aside0.mk H
          clear H
          go_upto_region 4 with (first | ((with_reducible refine gate_callee (f := 9) rfl ?_); refine goesL_ (some 29) rfl rfl Try.func9 (by kernel_rfl) rfl #[.int .u64 a0, .int .u64 a1] rfl (by (try simp only [List.map_toArray, List.map_cons, List.map_nil]); first | done | rfl | (simp only [List.length_drop, List.length_take]; rfl)) ?_; (with_reducible refine (speed_New_no.calls a0 a1 t203 _ A44.out).mono ?_); rintro e w46 ⟨rfl, hb⟩; refine ⟨_, rfl, ?_⟩; have n0_ := Aside0.mk (below_step (by repeat (first | (with_reducible first | exact HB.out | apply below_alloc | apply pw_below_drewN | apply below_drew1) | exact HB.out)) hb); clear HB; have HB := n0_; clear n0_; (try clear hb); (try clear hb2); (try clear hk); (try clear hi)))
          (try simp only [Act.put, List.setIfInBounds_toArray, List.set_cons_zero, List.set_cons_succ])
          go_cut [37] (fun v37 wc => ∃ (kq : Nat) (x37_44 : Bool), v37 = .bool x37_44 ∧ Aside0 (terracelaw19_SpeedCopies.j3 kq x37_44 = some r) ∧ Aside0 (kq ≤ kj3) ∧ Aside0 (Below w.heap.size w wc))
          case first =>
            have H := HC45.out
            clear HC45
            by_cases c47 : t203 = 0
            · rw [if_pos c47] at H
              have c47b0 : (t203 == 0) = true := beq_iff_eq.mpr c47
              have c47b1 : (t203 != 0) = false := bne_eq_false_iff_eq.mpr c47
              clear c47
              (first | rw [c47b0] | (simp only [i64_w, i32_w]; rw [c47b0]) | skip)
              have H' := Aside0.mk H
              clear H
              go_wp2
              go_meet
              case rel => exact ⟨_, (true), (by first | rfl | (simp; done) | (simp [*]; done)), H', ⟨by have := HJ3.out; first | omega | exact Nat.le_refl _⟩, ⟨by repeat (first | (with_reducible first | exact HB.out | apply below_alloc | apply pw_below_drewN | apply below_drew1) | exact HB.out)⟩⟩
            · rw [if_neg c47] at H
              have c47b0 : (t203 == 0) = false := beq_eq_false_iff_ne.mpr c47
              have c47b1 : (t203 != 0) = true := bne_iff_ne.mpr c47
              (first | rw [c47b0] | (simp only [i64_w, i32_w]; rw [c47b0]) | skip)
              have H' := Aside0.mk H
              clear H
              go_wp2
              go_meet
              case rel => exact ⟨_, (true), (by first | rfl | (simp; done) | (simp [*]; done)), H', ⟨by have := HJ3.out; first | omega | exact Nat.le_refl _⟩, ⟨by repeat (first | (with_reducible first | exact HB.out | apply below_alloc | apply pw_below_drewN | apply below_drew1) | exact HB.out)⟩⟩
          case rest =>
            clear HC45
            try clear c1
            try clear p1
            try clear q1
            try clear hx1
            try clear c2
            try clear p2
            try clear c3
            try clear c4
            try clear c5
            try clear c5b0
            try clear c5b1
            try clear c6
            try clear c6b0
            try clear c6b1
            try clear p6
            try clear c7
            try clear c8
            try clear c9
            try clear c10
            try clear c10b0
            try clear c11
            try clear c14
            try clear c14b0
            try clear c14b1
            try clear c15
            try clear c16
            try clear c18
            try clear c18b0
            try clear p18
            try clear q18
            try clear hx18
            try clear c19
            try clear c19b0
            try clear c20
            try clear c20b0
            try clear c23
            try clear c24
            try clear c28
            try clear c28b0
            try clear c28b1
            try clear c30
            try clear c30b0
            try clear c30b1
            try clear c32
            try clear c32b0
            try clear c32b1
            try clear c47
            try clear c47b0
            try clear c47b1
            try clear hcz25_0
            try clear hcz25_1
            try clear hcz25_2
            try clear hcz25_3
            try clear hfz25_0
            try clear hfz25_1
            try clear hfz25_2
            try clear hfz25_3
            try clear hx187_0
            try clear hx187_1
            try clear hx187_2
            try clear hx187_3
            try clear p187
            try clear p2
            try clear q187
            obtain ⟨kq, x37_44, rfl, HA, HJ44, HB⟩ := hcut
            cases kq with
            | zero => exact absurd HA.out (by simp [terracelaw19_SpeedCopies.j3])
            | succ kj44 =>
              have H := HA.out
              clear HA
              simp only [terracelaw19_SpeedCopies.j3] at H
              by_cases c48 : x37_44 = true
              · subst c48
                have H1 : (some false) = some r := by rw [if_pos rfl] at H; exact H
                clear H
                have H := H1
                clear H1
                obtain rfl := Option.some.inj H
                go_wp2
                go_ret
                exact ⟨by first | rfl | (simp [errW_none, errW_some] <;> rfl) | (simp [*, errW_none, errW_some] <;> rfl), by repeat (first | (with_reducible first | exact HB.out | apply below_alloc | apply pw_below_drewN | apply below_drew1) | exact HB.out)⟩
              · replace c48 := Bool.eq_false_iff.mpr c48
                subst c48
                have H1 : (none) = some r := by rw [if_neg (show ¬ (false = true) by decide)] at H; exact H
                clear H
                have H := H1
                clear H1
                exact absurd H (by simp)

def okS38 (x : S38) : Prop := ((Lit.int .i64 x.f0).wf = true) ∧ ((Lit.int .i64 x.f1).wf = true) ∧ ((Lit.int .i64 x.f2).wf = true) ∧ ((Lit.int .u64 x.f3).wf = true)
/-- THE ONE PURE STATEMENT of terracelaw19_SpeedCopies. -/
def terracelaw19_SpeedCopies.Pure : Prop := ∀ (a0 : Int) (a1 : Int) (l2 : List (S38)), (Lit.int .u64 a0).wf = true → (Lit.int .u64 a1).wf = true → l2.length ≤ maxLen → (∀ y_ ∈ l2, okS38 y_) → ∃ k, terracelaw19_SpeedCopies.f k a0 a1 l2 = some true

end Go.Proofs.Ytknkpnommhdhlaa.PSpeedCopies
