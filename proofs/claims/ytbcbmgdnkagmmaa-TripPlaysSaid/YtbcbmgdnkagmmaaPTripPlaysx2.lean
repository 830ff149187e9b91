-- Written by ext.sh (the session's own program, over the kit's printer) out of the translation. Lean checks it.
import Derived.Test.YtbcbmgdnkagmmaaPTripPlaysx0
import Derived.Test.YtbcbmgdnkagmmaaPTripPlaysx1
namespace Go.Proofs.Ytbcbmgdnkagmmaa.PTripPlays
open Go.RowKit Go.Proofs.YtbcbmgdnkagmmaaW.PrintWords Go.Proofs.YtbcbmgdnkagmmaaW.PrintLast Go.Proofs.YtbcbmgdnkagmmaaW.PrintMore
attribute [local go_sem] max2_int min2_int max_two min_two max_three min_three max_four min_four   -- for this text's walks alone
set_option linter.unusedVariables false
set_option linter.unusedSimpArgs false

/-! ### terraceref16_Lasted: function 14 (told by hand) -/
def terraceref16_Lasted.good (x : Int) : Prop := 0 ≤ x ∧ x ≤ 1099511627776
instance (x : Int) : Decidable (terraceref16_Lasted.good x) := by unfold terraceref16_Lasted.good; infer_instance
def terraceref16_Lasted.f (a0 : Int) (a1 : Int) (a2 : Int) : Option (Int) := if terraceref16_Lasted.good a0 ∧ terraceref16_Lasted.good a1 ∧ terraceref16_Lasted.good a2 then (if wrap64 (wrap64 (a0 - a1) - a2) < 0 then some (-1) else if wrap64 (wrap64 (a0 - a1) - a2) > 1048576 then some (-1) else if wrap64 (wrap64 (a0 - a1) - a2) = 0 then some 1 else some (wrap64 (wrap64 (a0 - a1) - a2))) else some (-1)
set_option maxHeartbeats 8000000 in
set_option maxRecDepth 100000 in
theorem terraceref16_Lasted.calls (a0 : Int) (a1 : Int) (a2 : Int) (r : Int) (w : World) (h : terraceref16_Lasted.f a0 a1 a2 = some r) :
    Calls Try.prog 14 #[.int .i64 a0, .int .i64 a1, .int .i64 a2] w fun e w' => e = .returned (.int .i64 r) ∧ Below w.heap.size w w' := by
  have hu51 := Try.underlying51
  have HB := Below.refl w.heap.size w
  go_enter Try.func14, Try.ntmps14
  go_wp2
  go_loopg [8] 3 (fun kq v8 w' => ∃ i : Int, v8 = .int .i64 i ∧ (w'.cell? ⟨w.heap.size, 0, none⟩ = some (.int .i64 a0) ∧ w'.cell? ⟨w.heap.size, 1, none⟩ = some (.int .i64 a1) ∧ w'.cell? ⟨w.heap.size, 2, none⟩ = some (.int .i64 a2)) ∧ Below w.heap.size w w' ∧ ((i = 0 ∧ kq = 3) ∨ (i = 1 ∧ kq = 2 ∧ terraceref16_Lasted.good a0) ∨ (i = 2 ∧ kq = 1 ∧ terraceref16_Lasted.good a0 ∧ terraceref16_Lasted.good a1) ∨ (i = 3 ∧ kq = 0 ∧ terraceref16_Lasted.good a0 ∧ terraceref16_Lasted.good a1 ∧ terraceref16_Lasted.good a2)))
  case atStart => exact ⟨0, rfl, by simp, below_alloc HB _, .inl ⟨rfl, rfl⟩⟩
  case round =>
    obtain ⟨i, rfl, ⟨e0, e1, e2⟩, HB2, hrel⟩ := hrel
    have step : ∀ x : Int, terraceref16_Lasted.good x ∨ decide (x < 0) = true ∨ (decide (x < 0) = false ∧ decide (x > 1099511627776) = true) := by
      intro x; unfold terraceref16_Lasted.good; simp; omega
    have bad : ∀ x : Int, decide (x < 0) = true ∨ decide (x > 1099511627776) = true → ¬terraceref16_Lasted.good x := by
      intro x; unfold terraceref16_Lasted.good; simp; omega
    rcases hrel with ⟨rfl, rfl⟩ | ⟨rfl, rfl, g0⟩ | ⟨rfl, rfl, g0, g1⟩ | ⟨rfl, rfl, g0, g1, g2⟩
    · rcases step a0 with g | g | ⟨g, g'⟩
      · have d1 : decide (a0 < 0) = false := by simpa using g.1
        have d2 : decide (a0 > 1099511627776) = false := by simpa using g.2
        go_wp2
        go_roundg 2
        case measure => decide
        case rel => exact ⟨1, rfl, ⟨e0, e1, e2⟩, HB2, .inr (.inl ⟨rfl, rfl, g⟩)⟩
      · have hb := bad a0 (.inl g)
        unfold terraceref16_Lasted.f at h
        rw [if_neg (fun hh => hb hh.1)] at h
        obtain rfl := Option.some.inj h
        go_wp2
        go_ret
        exact ⟨rfl, HB2⟩
      · have hb := bad a0 (.inr g')
        unfold terraceref16_Lasted.f at h
        rw [if_neg (fun hh => hb hh.1)] at h
        obtain rfl := Option.some.inj h
        go_wp2
        go_ret
        exact ⟨rfl, HB2⟩
    · rcases step a1 with g | g | ⟨g, g'⟩
      · have d1 : decide (a1 < 0) = false := by simpa using g.1
        have d2 : decide (a1 > 1099511627776) = false := by simpa using g.2
        go_wp2
        go_roundg 1
        case measure => decide
        case rel => exact ⟨2, rfl, ⟨e0, e1, e2⟩, HB2, .inr (.inr (.inl ⟨rfl, rfl, g0, g⟩))⟩
      · have hb := bad a1 (.inl g)
        unfold terraceref16_Lasted.f at h
        rw [if_neg (fun hh => hb hh.2.1)] at h
        obtain rfl := Option.some.inj h
        go_wp2
        go_ret
        exact ⟨rfl, HB2⟩
      · have hb := bad a1 (.inr g')
        unfold terraceref16_Lasted.f at h
        rw [if_neg (fun hh => hb hh.2.1)] at h
        obtain rfl := Option.some.inj h
        go_wp2
        go_ret
        exact ⟨rfl, HB2⟩
    · rcases step a2 with g | g | ⟨g, g'⟩
      · have d1 : decide (a2 < 0) = false := by simpa using g.1
        have d2 : decide (a2 > 1099511627776) = false := by simpa using g.2
        go_wp2
        go_roundg 0
        case measure => decide
        case rel => exact ⟨3, rfl, ⟨e0, e1, e2⟩, HB2, .inr (.inr (.inr ⟨rfl, rfl, g0, g1, g⟩))⟩
      · have hb := bad a2 (.inl g)
        unfold terraceref16_Lasted.f at h
        rw [if_neg (fun hh => hb hh.2.2)] at h
        obtain rfl := Option.some.inj h
        go_wp2
        go_ret
        exact ⟨rfl, HB2⟩
      · have hb := bad a2 (.inr g')
        unfold terraceref16_Lasted.f at h
        rw [if_neg (fun hh => hb hh.2.2)] at h
        obtain rfl := Option.some.inj h
        go_wp2
        go_ret
        exact ⟨rfl, HB2⟩
    · unfold terraceref16_Lasted.f at h
      rw [if_pos ⟨g0, g1, g2⟩] at h
      by_cases h1 : wrap64 (wrap64 (a0 - a1) - a2) < 0
      · have d1 : decide (wrap64 (wrap64 (a0 - a1) - a2) < 0) = true := decide_eq_true h1
        rw [if_pos h1] at h
        obtain rfl := Option.some.inj h
        go_wp2
        go_ret
        exact ⟨rfl, HB2⟩
      · have d1 : decide (wrap64 (wrap64 (a0 - a1) - a2) < 0) = false := decide_eq_false h1
        rw [if_neg h1] at h
        by_cases h2 : wrap64 (wrap64 (a0 - a1) - a2) > 1048576
        · have d2 : decide (wrap64 (wrap64 (a0 - a1) - a2) > 1048576) = true := decide_eq_true h2
          rw [if_pos h2] at h
          obtain rfl := Option.some.inj h
          go_wp2
          go_ret
          exact ⟨rfl, HB2⟩
        · have d2 : decide (wrap64 (wrap64 (a0 - a1) - a2) > 1048576) = false := decide_eq_false h2
          rw [if_neg h2] at h
          by_cases h3 : wrap64 (wrap64 (a0 - a1) - a2) = 0
          · have d3 : (wrap64 (wrap64 (a0 - a1) - a2) == 0) = true := beq_iff_eq.mpr h3
            rw [if_pos h3] at h
            obtain rfl := Option.some.inj h
            go_wp2
            go_ret
            exact ⟨rfl, HB2⟩
          · have d3 : (wrap64 (wrap64 (a0 - a1) - a2) == 0) = false := beq_eq_false_iff_ne.mpr h3
            rw [if_neg h3] at h
            obtain rfl := Option.some.inj h
            go_wp2
            go_ret
            exact ⟨rfl, HB2⟩

/-! ### terraceref16_Next: function 18 -/
def terraceref16_Next.f (a0 : Int) (a1 : Int) (a2 : Int) : Option (Int) := if a1 = 0 then (some (IntKind.u64.wrap ((IntKind.u64.wrap (a2)) * 4294967296))) else (if (IntKind.u64.wrap ((IntKind.u64.wrap (a0 - (IntKind.u64.wrap (Int.tdiv a0 8)))) + (IntKind.u64.wrap (Int.tdiv (IntKind.u64.wrap ((IntKind.u64.wrap (a2)) * 4294967296)) 8)))) < 4294967296 then (some 4294967296) else (some (IntKind.u64.wrap ((IntKind.u64.wrap (a0 - (IntKind.u64.wrap (Int.tdiv a0 8)))) + (IntKind.u64.wrap (Int.tdiv (IntKind.u64.wrap ((IntKind.u64.wrap (a2)) * 4294967296)) 8))))))
set_option maxHeartbeats 8000000 in
set_option maxRecDepth 100000 in
theorem terraceref16_Next.calls (a0 : Int) (a1 : Int) (a2 : Int) (r : Int) (w : World) (h : terraceref16_Next.f a0 a1 a2 = some r) :
    Calls Try.prog 18 #[.int .u64 a0, .int .i64 a1, .int .i64 a2] w fun e w' => e = .returned (.int .u64 r) ∧ Drawn0 w w' := by
  have H : (if a1 = 0 then (some (IntKind.u64.wrap ((IntKind.u64.wrap (a2)) * 4294967296))) else (if (IntKind.u64.wrap ((IntKind.u64.wrap (a0 - (IntKind.u64.wrap (Int.tdiv a0 8)))) + (IntKind.u64.wrap (Int.tdiv (IntKind.u64.wrap ((IntKind.u64.wrap (a2)) * 4294967296)) 8)))) < 4294967296 then (some 4294967296) else (some (IntKind.u64.wrap ((IntKind.u64.wrap (a0 - (IntKind.u64.wrap (Int.tdiv a0 8)))) + (IntKind.u64.wrap (Int.tdiv (IntKind.u64.wrap ((IntKind.u64.wrap (a2)) * 4294967296)) 8))))))) = some r := h
  clear h
  by_cases c4 : a1 = 0
  · rw [if_pos c4] at H
    have c4b0 : (a1 == 0) = true := beq_iff_eq.mpr c4
    have c4b1 : (a1 != 0) = false := bne_eq_false_iff_eq.mpr c4
    clear c4
    obtain rfl := Option.some.inj H
    go_enter Try.func18, Try.ntmps18
    go_wp2
    go_ret
    exact ⟨by first | rfl | (simp; done) | (simp [*]; done), by repeat (first | exact Drawn0.refl _ | apply Drawn0.step)⟩
  · rw [if_neg c4] at H
    have c4b0 : (a1 == 0) = false := beq_eq_false_iff_ne.mpr c4
    have c4b1 : (a1 != 0) = true := bne_iff_ne.mpr c4
    by_cases c5 : (IntKind.u64.wrap ((IntKind.u64.wrap (a0 - (IntKind.u64.wrap (Int.tdiv a0 8)))) + (IntKind.u64.wrap (Int.tdiv (IntKind.u64.wrap ((IntKind.u64.wrap (a2)) * 4294967296)) 8)))) < 4294967296
    · rw [if_pos c5] at H
      have c5b0 : decide ((IntKind.u64.wrap ((IntKind.u64.wrap (a0 - (IntKind.u64.wrap (Int.tdiv a0 8)))) + (IntKind.u64.wrap (Int.tdiv (IntKind.u64.wrap ((IntKind.u64.wrap (a2)) * 4294967296)) 8)))) < 4294967296) = true := decide_eq_true c5
      clear c5
      obtain rfl := Option.some.inj H
      go_enter Try.func18, Try.ntmps18
      go_wp2
      go_ret
      exact ⟨by first | rfl | (simp; done) | (simp [*]; done), by repeat (first | exact Drawn0.refl _ | apply Drawn0.step)⟩
    · rw [if_neg c5] at H
      have c5b0 : decide ((IntKind.u64.wrap ((IntKind.u64.wrap (a0 - (IntKind.u64.wrap (Int.tdiv a0 8)))) + (IntKind.u64.wrap (Int.tdiv (IntKind.u64.wrap ((IntKind.u64.wrap (a2)) * 4294967296)) 8)))) < 4294967296) = false := decide_eq_false c5
      clear c5
      obtain rfl := Option.some.inj H
      go_enter Try.func18, Try.ntmps18
      go_wp2
      go_ret
      exact ⟨by first | rfl | (simp; done) | (simp [*]; done), by repeat (first | exact Drawn0.refl _ | apply Drawn0.step)⟩

/-! ### terracelaw16_played: function 8 -/
def terracelaw16_played.l0 : Nat → Int → Int → List (S35) → Int → Int → Int → Int → Option (Int × Int × Int × Int × Bool)
  | 0, _, _, _, _, _, _, _ => none
  | k + 1, x9, x10, x21, x22, x23, x145000, x145001 => if x23 < x22 then (if 0 ≤ x23 then (if x23 < (x21.length : Int) then ((terraceref16_Lasted.f ((rd_T35 x21 x23).f0) ((rd_T35 x21 x23).f1) ((rd_T35 x21 x23).f2)).bind fun t147 => ((trip_Trip_Sample.f k x145000 x145001 ((rd_T35 x21 x23).f0) ((rd_T35 x21 x23).f1) ((rd_T35 x21 x23).f2)).bind fun bt148 => (if t147 < 0 then (if bt148.1 = 11 then (terracelaw16_played.l0 k x9 x10 x21 x22 (wrap64 (x23 + 1)) bt148.2.1 bt148.2.2) else (some (bt148.2.1, bt148.2.2, x9, x10, false))) else ((terraceref16_Next.f x9 x10 t147).bind fun t151 => (if bt148.1 = 0 then (terracelaw16_played.l0 k t151 (wrap64 (x10 + 1)) x21 x22 (wrap64 (x23 + 1)) bt148.2.1 bt148.2.2) else (some (bt148.2.1, bt148.2.2, t151, wrap64 (x10 + 1), false))))))) else (none)) else (none)) else (some (x145000, x145001, x9, x10, true))
def terracelaw16_played.f (k : Nat) (a0 : Int) (l1 : List (S35)) : Option (Int × Int × Int × Int × Bool) := (trip_New.f a0).bind fun bt142 => (terracelaw16_played.l0 k (mx a0 4294967296) 0 l1 (l1.length : Int) 0 bt142.1 bt142.2)
theorem terracelaw16_played.mono_l : ∀ k, (∀ y0 y1 y2 y3 y4 y5 y6, LeO (terracelaw16_played.l0 k y0 y1 y2 y3 y4 y5 y6) (terracelaw16_played.l0 (k + 1) y0 y1 y2 y3 y4 y5 y6))
  | 0 => fun _ _ _ _ _ _ _ r h => by simp [terracelaw16_played.l0] at h
  | k + 1 => by
    have ih0 := terracelaw16_played.mono_l k
    · intro y0 y1 y2 y3 y4 y5 y6
      unfold terracelaw16_played.l0
      repeat' first
      | (with_reducible exact ih0 _ _ _ _ _ _ _)
      | (with_reducible exact trip_Trip_Sample.mono _ _ _ _ _ _)
      | (with_reducible exact LeO.refl _)
      | (with_reducible exact LeO.none _)
      | (with_reducible refine LeO.ite ?_ ?_)
      | (with_reducible refine LeO.bind ?_ (fun _ => ?_))
      | exact ih0 _ _ _ _ _ _ _
      | exact trip_Trip_Sample.mono _ _ _ _ _ _
      | exact LeO.none _
      | refine LeO.ite ?_ ?_
      | refine LeO.bind ?_ (fun _ => ?_)
theorem terracelaw16_played.mono : ∀ a0 a1 k, LeO (terracelaw16_played.f k a0 a1) (terracelaw16_played.f (k + 1) a0 a1) := by
  intro a0 a1 k
  have ih0 := terracelaw16_played.mono_l k
  unfold terracelaw16_played.f
  repeat' first
      | (with_reducible exact ih0 _ _ _ _ _ _ _)
      | (with_reducible exact trip_Trip_Sample.mono _ _ _ _ _ _)
      | (with_reducible exact LeO.refl _)
      | (with_reducible exact LeO.none _)
      | (with_reducible refine LeO.ite ?_ ?_)
      | (with_reducible refine LeO.bind ?_ (fun _ => ?_))
      | exact ih0 _ _ _ _ _ _ _
      | exact trip_Trip_Sample.mono _ _ _ _ _ _
      | exact LeO.none _
      | refine LeO.ite ?_ ?_
      | refine LeO.bind ?_ (fun _ => ?_)
set_option maxHeartbeats 8000000 in
set_option maxRecDepth 100000 in
theorem terracelaw16_played.calls (k : Nat) (a0 : Int) (A1 : Option Addr) (c1 : Nat) (l1 : List (S35)) (r1 : Int) (r2 : Int) (r3 : Int) (r4 : Int) (r5 : Bool) (w : World) (hr1 : Kd.C k35 w A1 l1.length l1) (hc1 : l1.length ≤ c1) (h : terracelaw16_played.f k a0 l1 = some (r1, r2, r3, r4, r5)) :
    Calls Try.prog 8 #[.int .u64 a0, .slice A1 l1.length c1] w fun e w' => ∃ g_ : Nat, e = .returned (.tuple #[.pointer (some ⟨g_, 0, none⟩), .int .u64 r3, .int .i64 r4, .bool r5]) ∧ IsS47 w w' g_ r1 r2 ∧ Below w.heap.size w w' := by
  have hu35 := Try.underlying35
  have hup26 := Try.underlying26
  have HR1 := Aside0.mk hr1
  have HC1 := Aside0.mk hc1
  clear hr1 hc1
  have HB := Aside0.mk (Below.refl w.heap.size w)
  have H : ((trip_New.f a0).bind fun bt142 => (terracelaw16_played.l0 k (mx a0 4294967296) 0 l1 (l1.length : Int) 0 bt142.1 bt142.2)) = some (r1, r2, r3, r4, r5) := h
  clear h
  replace H := Option.bind_eq_some_iff.mp H
  obtain ⟨⟨t142, t143⟩, A30, H⟩ := H
  replace H : (terracelaw16_played.l0 k (mx a0 4294967296) 0 l1 (l1.length : Int) 0 t142 t143) = some (r1, r2, r3, r4, r5) := H
  have A3 := Aside0.mk A30
  clear A30
  obtain ⟨ji4, hji4⟩ : ∃ j_ : Int, (mx a0 4294967296) = j_ := ⟨_, rfl⟩
  replace H : (terracelaw16_played.l0 k ji4 0 l1 (l1.length : Int) 0 t142 t143) = some (r1, r2, r3, r4, r5) := by first | (rw [hji4] at H; exact H) | (simp only [hji4] at H ⊢; exact H)
  (try rw [hji4] at A3)
  (try (have hji4l : 4294967296 ≤ ji4 := by (rw [← hji4]; unfold mx; (repeat' split) <;> omega)))
  (try (have hji4m : 0 ≤ ji4 := by omega))
  have hji4_ : (if a0 < 4294967296 then 4294967296 else a0) = ji4 := hji4
  have H' := Aside0.mk H
  clear H
  go_enter Try.func8, Try.ntmps8
  go_wp2_with (first | ((with_reducible refine gate_callee (f := 12) rfl ?_); refine goesL_ (some 16) rfl rfl Try.func12 (by kernel_rfl) rfl #[.int .u64 a0] rfl (by (try simp only [List.map_toArray, List.map_cons, List.map_nil]); first | done | rfl | (simp only [List.length_drop, List.length_take]; rfl)) ?_; (with_reducible refine (trip_New.calls a0 t142 t143 _ A3.out).mono ?_); rintro e w5 ⟨g144, rfl, hi0, hb2⟩; refine ⟨_, rfl, ?_⟩; have hi : IsS47 w w5 g144 t142 t143 := ⟨hi0.1, Nat.le_trans (below_size (by repeat (first | (with_reducible first | exact HB.out | apply below_alloc | apply pw_below_drewN | apply below_drew1) | exact HB.out))) hi0.2⟩; have hb := below_step (by repeat (first | (with_reducible first | exact HB.out | apply below_alloc | apply pw_below_drewN | apply below_drew1) | exact HB.out)) hb2; have n0_ := Aside0.mk (hb); have n1_ := Aside0.mk (hi); clear HB; have HB := n0_; have HI144 := n1_; clear n0_ n1_; (try clear hb); (try clear hb2); (try clear hk); (try clear hi)))
  go_loopg [9, 10, 23] k (fun kq v9 v10 v23 w' => ∃ (x9_1 : Int) (x10_1 : Int) (x23_1 : Int) (x145000_1 : Int) (x145001_1 : Int), v9 = .int .u64 x9_1 ∧ v10 = .int .i64 x10_1 ∧ v23 = .int .i64 x23_1 ∧ Aside0 (terracelaw16_played.l0 kq x9_1 x10_1 l1 (l1.length : Int) x23_1 x145000_1 x145001_1 = some (r1, r2, r3, r4, r5)) ∧ Aside0 (kq ≤ k) ∧ Aside0 (IsS47 w w' g144 x145000_1 x145001_1) ∧ Aside0 (Below w.heap.size w w'))
  case atStart => exact ⟨(ji4), (0), (0), (t142), (t143), (by first | rfl | (simp; done) | (simp only [← hji4] <;> (first | rfl | simp)) | (simp [*]; done)), (by first | rfl | (simp; done) | (simp [*]; done)), (by first | rfl | (simp; done) | (simp [*]; done)), H', ⟨Nat.le_refl _⟩, ⟨by repeat (first | (with_reducible first | exact HI144.out | apply IsS47.alloc | apply IsS47.drewN | apply IsS47.drew | apply IsS47.set_0 | apply IsS47.set_1) | exact HI144.out)⟩, ⟨by repeat (first | (with_reducible first | exact HB.out | apply below_alloc | apply pw_below_drewN | apply below_drew1 | refine below_set ?_ (IsS47.ge HI144.out)) | exact HB.out)⟩⟩
  case round =>
    clear H'
    try clear c1
    try clear p2
    obtain ⟨x9_1, x10_1, x23_1, x145000_1, x145001_1, rfl, rfl, rfl, HA, HK1, HI144, HB⟩ := hrel
    cases gk with
    | zero => exact absurd HA.out (by simp [terracelaw16_played.l0])
    | succ k1 =>
      have H := HA.out
      clear HA
      simp only [terracelaw16_played.l0] at H
      by_cases c6 : x23_1 < (l1.length : Int)
      · rw [if_pos c6] at H
        have c6b0 : decide (x23_1 < (l1.length : Int)) = true := decide_eq_true c6
        clear c6
        by_cases c7 : 0 ≤ x23_1
        · rw [if_pos c7] at H
          have c7b0 : decide (0 ≤ x23_1) = true := decide_eq_true c7
          clear c7
          by_cases c8 : x23_1 < (l1.length : Int)
          · rw [if_pos c8] at H
            have c8b0 : decide (x23_1 < (l1.length : Int)) = true := decide_eq_true c8
            clear c8
            replace H := Option.bind_eq_some_iff.mp H
            obtain ⟨t147, A90, H⟩ := H
            replace H : ((trip_Trip_Sample.f k1 x145000_1 x145001_1 ((rd_T35 l1 x23_1).f0) ((rd_T35 l1 x23_1).f1) ((rd_T35 l1 x23_1).f2)).bind fun bt148 => (if t147 < 0 then (if bt148.1 = 11 then (terracelaw16_played.l0 k1 x9_1 x10_1 l1 (l1.length : Int) (wrap64 (x23_1 + 1)) bt148.2.1 bt148.2.2) else (some (bt148.2.1, bt148.2.2, x9_1, x10_1, false))) else ((terraceref16_Next.f x9_1 x10_1 t147).bind fun t151 => (if bt148.1 = 0 then (terracelaw16_played.l0 k1 t151 (wrap64 (x10_1 + 1)) l1 (l1.length : Int) (wrap64 (x23_1 + 1)) bt148.2.1 bt148.2.2) else (some (bt148.2.1, bt148.2.2, t151, wrap64 (x10_1 + 1), false)))))) = some (r1, r2, r3, r4, r5) := H
            have A9 := Aside0.mk A90
            clear A90
            replace H := Option.bind_eq_some_iff.mp H
            obtain ⟨⟨t148, t149, t150⟩, A100, H⟩ := H
            replace H : (if t147 < 0 then (if t148 = 11 then (terracelaw16_played.l0 k1 x9_1 x10_1 l1 (l1.length : Int) (wrap64 (x23_1 + 1)) t149 t150) else (some (t149, t150, x9_1, x10_1, false))) else ((terraceref16_Next.f x9_1 x10_1 t147).bind fun t151 => (if t148 = 0 then (terracelaw16_played.l0 k1 t151 (wrap64 (x10_1 + 1)) l1 (l1.length : Int) (wrap64 (x23_1 + 1)) t149 t150) else (some (t149, t150, t151, wrap64 (x10_1 + 1), false))))) = some (r1, r2, r3, r4, r5) := H
            have A10 := Aside0.mk A100
            clear A100
            by_cases c11 : t147 < 0
            · rw [if_pos c11] at H
              have c11b0 : decide (t147 < 0) = true := decide_eq_true c11
              clear c11
              by_cases c12 : t148 = 11
              · rw [if_pos c12] at H
                have c12b0 : (t148 == 11) = true := beq_iff_eq.mpr c12
                have c12b1 : (t148 != 11) = false := bne_eq_false_iff_eq.mpr c12
                clear c12
                have H' := Aside0.mk H
                clear H
                have p145 : 0 ≤ (x23_1 : Int) := of_decide_eq_true (by first | (with_reducible assumption) | assumption)
                have q145 : x23_1 < (l1.length : Int) := of_decide_eq_true (by first | (with_reducible assumption) | assumption)
                obtain ⟨ad145, e145, hx145_0, hx145_1, hx145_2⟩ := at_T35 HR1.out x23_1 p145 q145
                cases e145
                replace hx145_0 := (HB.out.cell (World.block_lt_of_cell? w _ hx145_0)).trans hx145_0
                replace hx145_1 := (HB.out.cell (World.block_lt_of_cell? w _ hx145_1)).trans hx145_1
                replace hx145_2 := (HB.out.cell (World.block_lt_of_cell? w _ hx145_2)).trans hx145_2
                replace p145 := eq_true p145
                replace q145 := eq_true q145
                go_wp2_with (first | ((with_reducible refine gate_dst (N := 12) rfl ?_); refine box_event ?hg (N := 12) ?hd (cs := #[.int .i64 0, .int .i64 0, .int .i64 0]) (t := 35) ?hr ?_; (case hd => rfl); (case hg => rfl); (case hr => first | (go_simp; done) | (go_simp; rfl)); intro gb146 hg w13 hbox hb; have n0_ := Aside0.mk (IsS47.below (by repeat (first | (with_reducible first | exact HI144.out | apply IsS47.alloc | apply IsS47.drewN | apply IsS47.drew | apply IsS47.set_0 | apply IsS47.set_1) | exact HI144.out)) hb); have n1_ := Aside0.mk (below_step (by repeat (first | (with_reducible first | exact HB.out | apply below_alloc | apply pw_below_drewN | apply below_drew1 | refine below_set ?_ (IsS47.ge HI144.out)) | exact HB.out)) hb); have n2_ := Aside0.mk (hbox); have n3_ := Aside0.mk ((by rw [hg]; exact (below_size (by repeat (first | (with_reducible first | exact HB.out | apply below_alloc | apply pw_below_drewN | apply below_drew1 | refine below_set ?_ (IsS47.ge HI144.out)) | exact HB.out))) : w.heap.size ≤ gb146)); have n4_ := Aside0.mk ((by rw [hg]; exact (below_size (by repeat (first | (with_reducible first | exact HB.out | apply below_alloc | apply pw_below_drewN | apply below_drew1 | refine below_set ?_ (IsS47.ge HI144.out)) | exact HB.out))) : w.heap.size ≤ gb146)); have n5_ := Aside0.mk ((by rw [hg]; exact Nat.ne_of_lt (IsS47.lt (show IsS47 w _ g144 x145000_1 x145001_1 from by repeat (first | (with_reducible first | exact HI144.out | apply IsS47.alloc | apply IsS47.drewN | apply IsS47.drew | apply IsS47.set_0 | apply IsS47.set_1) | exact HI144.out))) : g144 ≠ gb146)); have n6_ := Aside0.mk ((by rw [hg]; exact Nat.ne_of_gt (IsS47.lt (show IsS47 w _ g144 x145000_1 x145001_1 from by repeat (first | (with_reducible first | exact HI144.out | apply IsS47.alloc | apply IsS47.drewN | apply IsS47.drew | apply IsS47.set_0 | apply IsS47.set_1) | exact HI144.out))) : gb146 ≠ g144)); clear HI144; clear HB; have HI144 := n0_; have HB := n1_; have BK146 := n2_; have GW146 := n3_; have GE146 := n4_; have NB144_146 := n5_; have NB146_144 := n6_; clear n0_ n1_ n2_ n3_ n4_ n5_ n6_; clear hb hbox hg; have hnb14 := NB146_144.out; have hnc14 := NB144_146.out; have hcz15_0 : w13.cell? ⟨gb146, 0, none⟩ = some (.int .i64 0) := (blk_cell BK146.out 0).trans rfl; have hcz15_1 : w13.cell? ⟨gb146, 1, none⟩ = some (.int .i64 0) := (blk_cell BK146.out 1).trans rfl; have hcz15_2 : w13.cell? ⟨gb146, 2, none⟩ = some (.int .i64 0) := (blk_cell BK146.out 2).trans rfl; have hfz15_0 := blk_frozen BK146.out 0; have hfz15_1 := blk_frozen BK146.out 1; have hfz15_2 := blk_frozen BK146.out 2) | ((with_reducible refine gate_callee (f := 14) rfl ?_); refine goesL_ (some 33) rfl rfl Try.func14 (by kernel_rfl) rfl #[.int .i64 ((rd_T35 l1 x23_1).f0), .int .i64 ((rd_T35 l1 x23_1).f1), .int .i64 ((rd_T35 l1 x23_1).f2)] rfl (by (try simp only [List.map_toArray, List.map_cons, List.map_nil]); first | done | rfl | (simp only [List.length_drop, List.length_take]; rfl)) ?_; (with_reducible refine (terraceref16_Lasted.calls ((rd_T35 l1 x23_1).f0) ((rd_T35 l1 x23_1).f1) ((rd_T35 l1 x23_1).f2) t147 _ A9.out).mono ?_); rintro e w16 ⟨rfl, hb⟩; refine ⟨_, rfl, ?_⟩; have n0_ := Aside0.mk (IsS47.below (show IsS47 w (((w13.setCell ⟨gb146, 0, none⟩ (.int .i64 ((rd_T35 l1 x23_1).f0))).setCell ⟨gb146, 1, none⟩ (.int .i64 ((rd_T35 l1 x23_1).f1))).setCell ⟨gb146, 2, none⟩ (.int .i64 ((rd_T35 l1 x23_1).f2))) g144 x145000_1 x145001_1 from by repeat (first | (with_reducible first | exact HI144.out | apply IsS47.alloc | apply IsS47.drewN | apply IsS47.drew | apply IsS47.set_0 | apply IsS47.set_1 | refine IsS47.far ?_ NB144_146.out _) | exact HI144.out)) hb); have n1_ := Aside0.mk (blk_below (g := gb146) (o := .cells #[.int .i64 ((rd_T35 l1 x23_1).f0), .int .i64 ((rd_T35 l1 x23_1).f1), .int .i64 ((rd_T35 l1 x23_1).f2)] 35 (0, 0)) (by (with_reducible repeat (first | refine blk_drewN ?_ _ | refine blk_drew ?_ | refine blk_alloc ?_ _)); refine blk_put (cs := #[.int .i64 ((rd_T35 l1 x23_1).f0), .int .i64 ((rd_T35 l1 x23_1).f1), .int .i64 0]) ?_ 2 _ rfl; (with_reducible repeat (first | refine blk_drewN ?_ _ | refine blk_drew ?_ | refine blk_alloc ?_ _)); refine blk_put (cs := #[.int .i64 ((rd_T35 l1 x23_1).f0), .int .i64 0, .int .i64 0]) ?_ 1 _ rfl; (with_reducible repeat (first | refine blk_drewN ?_ _ | refine blk_drew ?_ | refine blk_alloc ?_ _)); refine blk_put (cs := #[.int .i64 0, .int .i64 0, .int .i64 0]) ?_ 0 _ rfl; (with_reducible repeat (first | refine blk_drewN ?_ _ | refine blk_drew ?_ | refine blk_alloc ?_ _)); exact BK146.out) hb); have n2_ := Aside0.mk (below_step (by repeat (first | (with_reducible first | exact HB.out | apply below_alloc | apply pw_below_drewN | apply below_drew1 | refine below_set ?_ (IsS47.ge HI144.out) | refine below_set ?_ GE146.out) | exact HB.out)) hb); clear HI144; clear BK146; clear HB; have HI144 := n0_; have BK146 := n1_; have HB := n2_; clear n0_ n1_ n2_; (try clear hb); (try clear hb2); (try clear hk); (try clear hi); have hcz17_0 : w16.cell? ⟨gb146, 0, none⟩ = some (.int .i64 ((rd_T35 l1 x23_1).f0)) := (blk_cell BK146.out 0).trans rfl; have hcz17_1 : w16.cell? ⟨gb146, 1, none⟩ = some (.int .i64 ((rd_T35 l1 x23_1).f1)) := (blk_cell BK146.out 1).trans rfl; have hcz17_2 : w16.cell? ⟨gb146, 2, none⟩ = some (.int .i64 ((rd_T35 l1 x23_1).f2)) := (blk_cell BK146.out 2).trans rfl; have hfz17_0 := blk_frozen BK146.out 0; have hfz17_1 := blk_frozen BK146.out 1; have hfz17_2 := blk_frozen BK146.out 2) | ((with_reducible refine gate_callee (f := 13) rfl ?_); refine goesL_ (some 41) rfl rfl Try.func13 (by kernel_rfl) rfl #[.pointer (some ⟨g144, 0, none⟩), .int .i64 ((rd_T35 l1 x23_1).f0), .int .i64 ((rd_T35 l1 x23_1).f1), .int .i64 ((rd_T35 l1 x23_1).f2)] rfl (by (try simp only [List.map_toArray, List.map_cons, List.map_nil]); first | done | rfl | (simp only [List.length_drop, List.length_take]; rfl)) ?_; (with_reducible refine (trip_Trip_Sample.calls k1 g144 x145000_1 x145001_1 ((rd_T35 l1 x23_1).f0) ((rd_T35 l1 x23_1).f1) ((rd_T35 l1 x23_1).f2) t148 t149 t150 w _ ?side1 ?side2 A10.out).mono ?_); (case side1 => repeat (first | (with_reducible first | exact HI144.out | apply IsS47.alloc | apply IsS47.drewN | apply IsS47.drew | apply IsS47.set_0 | apply IsS47.set_1 | refine IsS47.far ?_ NB144_146.out _) | exact HI144.out)); (case side2 => repeat (first | (with_reducible first | exact HB.out | apply below_alloc | apply pw_below_drewN | apply below_drew1 | refine below_set ?_ (IsS47.ge HI144.out) | refine below_set ?_ GE146.out) | exact HB.out)); rintro e w18 ⟨rfl, hi, hb, hk⟩; refine ⟨_, rfl, ?_⟩; have n0_ := Aside0.mk (KeepBut.blk hk (g' := gb146) (o := .cells #[.int .i64 ((rd_T35 l1 x23_1).f0), .int .i64 ((rd_T35 l1 x23_1).f1), .int .i64 ((rd_T35 l1 x23_1).f2)] 35 (0, 0)) (by (with_reducible repeat (first | refine blk_drewN ?_ _ | refine blk_drew ?_ | refine blk_alloc ?_ _)); exact BK146.out) NB146_144.out (by simp)); have n1_ := Aside0.mk (hb); have n2_ := Aside0.mk (hi); clear BK146; clear HB; clear HI144; have BK146 := n0_; have HB := n1_; have HI144 := n2_; clear n0_ n1_ n2_; (try clear hb); (try clear hb2); (try clear hk); (try clear hi)))
                go_roundg k1
                case measure => have := HK1.out; omega
                case rel => exact ⟨(x9_1), (x10_1), (wrap64 (x23_1 + 1)), (t149), (t150), (by first | rfl | (simp; done) | (simp [*]; done)), (by first | rfl | (simp; done) | (simp [*]; done)), (by first | rfl | (simp; done) | (simp [*]; done)), H', ⟨by have := HK1.out; omega⟩, ⟨by repeat (first | (with_reducible first | exact HI144.out | apply IsS47.alloc | apply IsS47.drewN | apply IsS47.drew | apply IsS47.set_0 | apply IsS47.set_1 | refine IsS47.far ?_ NB144_146.out _) | exact HI144.out)⟩, ⟨by repeat (first | (with_reducible first | exact HB.out | apply below_alloc | apply pw_below_drewN | apply below_drew1 | refine below_set ?_ (IsS47.ge HI144.out) | refine below_set ?_ GE146.out) | exact HB.out)⟩⟩
              · rw [if_neg c12] at H
                have c12b0 : (t148 == 11) = false := beq_eq_false_iff_ne.mpr c12
                have c12b1 : (t148 != 11) = true := bne_iff_ne.mpr c12
                simp only [Option.some.injEq, Prod.mk.injEq] at H
                obtain ⟨rfl, rfl, rfl, rfl, rfl⟩ := H
                have p145 : 0 ≤ (x23_1 : Int) := of_decide_eq_true (by first | (with_reducible assumption) | assumption)
                have q145 : x23_1 < (l1.length : Int) := of_decide_eq_true (by first | (with_reducible assumption) | assumption)
                obtain ⟨ad145, e145, hx145_0, hx145_1, hx145_2⟩ := at_T35 HR1.out x23_1 p145 q145
                cases e145
                replace hx145_0 := (HB.out.cell (World.block_lt_of_cell? w _ hx145_0)).trans hx145_0
                replace hx145_1 := (HB.out.cell (World.block_lt_of_cell? w _ hx145_1)).trans hx145_1
                replace hx145_2 := (HB.out.cell (World.block_lt_of_cell? w _ hx145_2)).trans hx145_2
                replace p145 := eq_true p145
                replace q145 := eq_true q145
                go_wp2_with (first | ((with_reducible refine gate_dst (N := 12) rfl ?_); refine box_event ?hg (N := 12) ?hd (cs := #[.int .i64 0, .int .i64 0, .int .i64 0]) (t := 35) ?hr ?_; (case hd => rfl); (case hg => rfl); (case hr => first | (go_simp; done) | (go_simp; rfl)); intro gb146 hg w19 hbox hb; have n0_ := Aside0.mk (IsS47.below (by repeat (first | (with_reducible first | exact HI144.out | apply IsS47.alloc | apply IsS47.drewN | apply IsS47.drew | apply IsS47.set_0 | apply IsS47.set_1) | exact HI144.out)) hb); have n1_ := Aside0.mk (below_step (by repeat (first | (with_reducible first | exact HB.out | apply below_alloc | apply pw_below_drewN | apply below_drew1 | refine below_set ?_ (IsS47.ge HI144.out)) | exact HB.out)) hb); have n2_ := Aside0.mk (hbox); have n3_ := Aside0.mk ((by rw [hg]; exact (below_size (by repeat (first | (with_reducible first | exact HB.out | apply below_alloc | apply pw_below_drewN | apply below_drew1 | refine below_set ?_ (IsS47.ge HI144.out)) | exact HB.out))) : w.heap.size ≤ gb146)); have n4_ := Aside0.mk ((by rw [hg]; exact (below_size (by repeat (first | (with_reducible first | exact HB.out | apply below_alloc | apply pw_below_drewN | apply below_drew1 | refine below_set ?_ (IsS47.ge HI144.out)) | exact HB.out))) : w.heap.size ≤ gb146)); have n5_ := Aside0.mk ((by rw [hg]; exact Nat.ne_of_lt (IsS47.lt (show IsS47 w _ g144 x145000_1 x145001_1 from by repeat (first | (with_reducible first | exact HI144.out | apply IsS47.alloc | apply IsS47.drewN | apply IsS47.drew | apply IsS47.set_0 | apply IsS47.set_1) | exact HI144.out))) : g144 ≠ gb146)); have n6_ := Aside0.mk ((by rw [hg]; exact Nat.ne_of_gt (IsS47.lt (show IsS47 w _ g144 x145000_1 x145001_1 from by repeat (first | (with_reducible first | exact HI144.out | apply IsS47.alloc | apply IsS47.drewN | apply IsS47.drew | apply IsS47.set_0 | apply IsS47.set_1) | exact HI144.out))) : gb146 ≠ g144)); clear HI144; clear HB; have HI144 := n0_; have HB := n1_; have BK146 := n2_; have GW146 := n3_; have GE146 := n4_; have NB144_146 := n5_; have NB146_144 := n6_; clear n0_ n1_ n2_ n3_ n4_ n5_ n6_; clear hb hbox hg; have hnb20 := NB146_144.out; have hnc20 := NB144_146.out; have hcz21_0 : w19.cell? ⟨gb146, 0, none⟩ = some (.int .i64 0) := (blk_cell BK146.out 0).trans rfl; have hcz21_1 : w19.cell? ⟨gb146, 1, none⟩ = some (.int .i64 0) := (blk_cell BK146.out 1).trans rfl; have hcz21_2 : w19.cell? ⟨gb146, 2, none⟩ = some (.int .i64 0) := (blk_cell BK146.out 2).trans rfl; have hfz21_0 := blk_frozen BK146.out 0; have hfz21_1 := blk_frozen BK146.out 1; have hfz21_2 := blk_frozen BK146.out 2) | ((with_reducible refine gate_callee (f := 14) rfl ?_); refine goesL_ (some 33) rfl rfl Try.func14 (by kernel_rfl) rfl #[.int .i64 ((rd_T35 l1 x23_1).f0), .int .i64 ((rd_T35 l1 x23_1).f1), .int .i64 ((rd_T35 l1 x23_1).f2)] rfl (by (try simp only [List.map_toArray, List.map_cons, List.map_nil]); first | done | rfl | (simp only [List.length_drop, List.length_take]; rfl)) ?_; (with_reducible refine (terraceref16_Lasted.calls ((rd_T35 l1 x23_1).f0) ((rd_T35 l1 x23_1).f1) ((rd_T35 l1 x23_1).f2) t147 _ A9.out).mono ?_); rintro e w22 ⟨rfl, hb⟩; refine ⟨_, rfl, ?_⟩; have n0_ := Aside0.mk (IsS47.below (show IsS47 w (((w19.setCell ⟨gb146, 0, none⟩ (.int .i64 ((rd_T35 l1 x23_1).f0))).setCell ⟨gb146, 1, none⟩ (.int .i64 ((rd_T35 l1 x23_1).f1))).setCell ⟨gb146, 2, none⟩ (.int .i64 ((rd_T35 l1 x23_1).f2))) g144 x145000_1 x145001_1 from by repeat (first | (with_reducible first | exact HI144.out | apply IsS47.alloc | apply IsS47.drewN | apply IsS47.drew | apply IsS47.set_0 | apply IsS47.set_1 | refine IsS47.far ?_ NB144_146.out _) | exact HI144.out)) hb); have n1_ := Aside0.mk (blk_below (g := gb146) (o := .cells #[.int .i64 ((rd_T35 l1 x23_1).f0), .int .i64 ((rd_T35 l1 x23_1).f1), .int .i64 ((rd_T35 l1 x23_1).f2)] 35 (0, 0)) (by (with_reducible repeat (first | refine blk_drewN ?_ _ | refine blk_drew ?_ | refine blk_alloc ?_ _)); refine blk_put (cs := #[.int .i64 ((rd_T35 l1 x23_1).f0), .int .i64 ((rd_T35 l1 x23_1).f1), .int .i64 0]) ?_ 2 _ rfl; (with_reducible repeat (first | refine blk_drewN ?_ _ | refine blk_drew ?_ | refine blk_alloc ?_ _)); refine blk_put (cs := #[.int .i64 ((rd_T35 l1 x23_1).f0), .int .i64 0, .int .i64 0]) ?_ 1 _ rfl; (with_reducible repeat (first | refine blk_drewN ?_ _ | refine blk_drew ?_ | refine blk_alloc ?_ _)); refine blk_put (cs := #[.int .i64 0, .int .i64 0, .int .i64 0]) ?_ 0 _ rfl; (with_reducible repeat (first | refine blk_drewN ?_ _ | refine blk_drew ?_ | refine blk_alloc ?_ _)); exact BK146.out) hb); have n2_ := Aside0.mk (below_step (by repeat (first | (with_reducible first | exact HB.out | apply below_alloc | apply pw_below_drewN | apply below_drew1 | refine below_set ?_ (IsS47.ge HI144.out) | refine below_set ?_ GE146.out) | exact HB.out)) hb); clear HI144; clear BK146; clear HB; have HI144 := n0_; have BK146 := n1_; have HB := n2_; clear n0_ n1_ n2_; (try clear hb); (try clear hb2); (try clear hk); (try clear hi); have hcz23_0 : w22.cell? ⟨gb146, 0, none⟩ = some (.int .i64 ((rd_T35 l1 x23_1).f0)) := (blk_cell BK146.out 0).trans rfl; have hcz23_1 : w22.cell? ⟨gb146, 1, none⟩ = some (.int .i64 ((rd_T35 l1 x23_1).f1)) := (blk_cell BK146.out 1).trans rfl; have hcz23_2 : w22.cell? ⟨gb146, 2, none⟩ = some (.int .i64 ((rd_T35 l1 x23_1).f2)) := (blk_cell BK146.out 2).trans rfl; have hfz23_0 := blk_frozen BK146.out 0; have hfz23_1 := blk_frozen BK146.out 1; have hfz23_2 := blk_frozen BK146.out 2) | ((with_reducible refine gate_callee (f := 13) rfl ?_); refine goesL_ (some 41) rfl rfl Try.func13 (by kernel_rfl) rfl #[.pointer (some ⟨g144, 0, none⟩), .int .i64 ((rd_T35 l1 x23_1).f0), .int .i64 ((rd_T35 l1 x23_1).f1), .int .i64 ((rd_T35 l1 x23_1).f2)] rfl (by (try simp only [List.map_toArray, List.map_cons, List.map_nil]); first | done | rfl | (simp only [List.length_drop, List.length_take]; rfl)) ?_; (with_reducible refine (trip_Trip_Sample.calls k1 g144 x145000_1 x145001_1 ((rd_T35 l1 x23_1).f0) ((rd_T35 l1 x23_1).f1) ((rd_T35 l1 x23_1).f2) t148 t149 t150 w _ ?side1 ?side2 A10.out).mono ?_); (case side1 => repeat (first | (with_reducible first | exact HI144.out | apply IsS47.alloc | apply IsS47.drewN | apply IsS47.drew | apply IsS47.set_0 | apply IsS47.set_1 | refine IsS47.far ?_ NB144_146.out _) | exact HI144.out)); (case side2 => repeat (first | (with_reducible first | exact HB.out | apply below_alloc | apply pw_below_drewN | apply below_drew1 | refine below_set ?_ (IsS47.ge HI144.out) | refine below_set ?_ GE146.out) | exact HB.out)); rintro e w24 ⟨rfl, hi, hb, hk⟩; refine ⟨_, rfl, ?_⟩; have n0_ := Aside0.mk (KeepBut.blk hk (g' := gb146) (o := .cells #[.int .i64 ((rd_T35 l1 x23_1).f0), .int .i64 ((rd_T35 l1 x23_1).f1), .int .i64 ((rd_T35 l1 x23_1).f2)] 35 (0, 0)) (by (with_reducible repeat (first | refine blk_drewN ?_ _ | refine blk_drew ?_ | refine blk_alloc ?_ _)); exact BK146.out) NB146_144.out (by simp)); have n1_ := Aside0.mk (hb); have n2_ := Aside0.mk (hi); clear BK146; clear HB; clear HI144; have BK146 := n0_; have HB := n1_; have HI144 := n2_; clear n0_ n1_ n2_; (try clear hb); (try clear hb2); (try clear hk); (try clear hi)))
                refine bodyPost_ret (results_list (rs := [.tmp 4, .tmp 5, .tmp 6, .tmp 7]) rfl (by simp) (.tmp (.tmp (.tmp (.tmp .nil))))) rfl ?_
                exact ⟨g144, by first | rfl | (simp; done) | (simp [*]; done), by repeat (first | (with_reducible first | exact HI144.out | apply IsS47.alloc | apply IsS47.drewN | apply IsS47.drew | apply IsS47.set_0 | apply IsS47.set_1 | refine IsS47.far ?_ NB144_146.out _) | exact HI144.out), by repeat (first | (with_reducible first | exact HB.out | apply below_alloc | apply pw_below_drewN | apply below_drew1 | refine below_set ?_ (IsS47.ge HI144.out) | refine below_set ?_ GE146.out) | exact HB.out)⟩
            · rw [if_neg c11] at H
              have c11b0 : decide (t147 < 0) = false := decide_eq_false c11
              clear c11
              replace H := Option.bind_eq_some_iff.mp H
              obtain ⟨t151, A250, H⟩ := H
              replace H : (if t148 = 0 then (terracelaw16_played.l0 k1 t151 (wrap64 (x10_1 + 1)) l1 (l1.length : Int) (wrap64 (x23_1 + 1)) t149 t150) else (some (t149, t150, t151, wrap64 (x10_1 + 1), false))) = some (r1, r2, r3, r4, r5) := H
              have A25 := Aside0.mk A250
              clear A250
              by_cases c26 : t148 = 0
              · rw [if_pos c26] at H
                have c26b0 : (t148 == 0) = true := beq_iff_eq.mpr c26
                have c26b1 : (t148 != 0) = false := bne_eq_false_iff_eq.mpr c26
                clear c26
                have H' := Aside0.mk H
                clear H
                have p145 : 0 ≤ (x23_1 : Int) := of_decide_eq_true (by first | (with_reducible assumption) | assumption)
                have q145 : x23_1 < (l1.length : Int) := of_decide_eq_true (by first | (with_reducible assumption) | assumption)
                obtain ⟨ad145, e145, hx145_0, hx145_1, hx145_2⟩ := at_T35 HR1.out x23_1 p145 q145
                cases e145
                replace hx145_0 := (HB.out.cell (World.block_lt_of_cell? w _ hx145_0)).trans hx145_0
                replace hx145_1 := (HB.out.cell (World.block_lt_of_cell? w _ hx145_1)).trans hx145_1
                replace hx145_2 := (HB.out.cell (World.block_lt_of_cell? w _ hx145_2)).trans hx145_2
                replace p145 := eq_true p145
                replace q145 := eq_true q145
                go_wp2_with (first | ((with_reducible refine gate_dst (N := 12) rfl ?_); refine box_event ?hg (N := 12) ?hd (cs := #[.int .i64 0, .int .i64 0, .int .i64 0]) (t := 35) ?hr ?_; (case hd => rfl); (case hg => rfl); (case hr => first | (go_simp; done) | (go_simp; rfl)); intro gb146 hg w27 hbox hb; have n0_ := Aside0.mk (IsS47.below (by repeat (first | (with_reducible first | exact HI144.out | apply IsS47.alloc | apply IsS47.drewN | apply IsS47.drew | apply IsS47.set_0 | apply IsS47.set_1) | exact HI144.out)) hb); have n1_ := Aside0.mk (below_step (by repeat (first | (with_reducible first | exact HB.out | apply below_alloc | apply pw_below_drewN | apply below_drew1 | refine below_set ?_ (IsS47.ge HI144.out)) | exact HB.out)) hb); have n2_ := Aside0.mk (hbox); have n3_ := Aside0.mk ((by rw [hg]; exact (below_size (by repeat (first | (with_reducible first | exact HB.out | apply below_alloc | apply pw_below_drewN | apply below_drew1 | refine below_set ?_ (IsS47.ge HI144.out)) | exact HB.out))) : w.heap.size ≤ gb146)); have n4_ := Aside0.mk ((by rw [hg]; exact (below_size (by repeat (first | (with_reducible first | exact HB.out | apply below_alloc | apply pw_below_drewN | apply below_drew1 | refine below_set ?_ (IsS47.ge HI144.out)) | exact HB.out))) : w.heap.size ≤ gb146)); have n5_ := Aside0.mk ((by rw [hg]; exact Nat.ne_of_lt (IsS47.lt (show IsS47 w _ g144 x145000_1 x145001_1 from by repeat (first | (with_reducible first | exact HI144.out | apply IsS47.alloc | apply IsS47.drewN | apply IsS47.drew | apply IsS47.set_0 | apply IsS47.set_1) | exact HI144.out))) : g144 ≠ gb146)); have n6_ := Aside0.mk ((by rw [hg]; exact Nat.ne_of_gt (IsS47.lt (show IsS47 w _ g144 x145000_1 x145001_1 from by repeat (first | (with_reducible first | exact HI144.out | apply IsS47.alloc | apply IsS47.drewN | apply IsS47.drew | apply IsS47.set_0 | apply IsS47.set_1) | exact HI144.out))) : gb146 ≠ g144)); clear HI144; clear HB; have HI144 := n0_; have HB := n1_; have BK146 := n2_; have GW146 := n3_; have GE146 := n4_; have NB144_146 := n5_; have NB146_144 := n6_; clear n0_ n1_ n2_ n3_ n4_ n5_ n6_; clear hb hbox hg; have hnb28 := NB146_144.out; have hnc28 := NB144_146.out; have hcz29_0 : w27.cell? ⟨gb146, 0, none⟩ = some (.int .i64 0) := (blk_cell BK146.out 0).trans rfl; have hcz29_1 : w27.cell? ⟨gb146, 1, none⟩ = some (.int .i64 0) := (blk_cell BK146.out 1).trans rfl; have hcz29_2 : w27.cell? ⟨gb146, 2, none⟩ = some (.int .i64 0) := (blk_cell BK146.out 2).trans rfl; have hfz29_0 := blk_frozen BK146.out 0; have hfz29_1 := blk_frozen BK146.out 1; have hfz29_2 := blk_frozen BK146.out 2) | ((with_reducible refine gate_callee (f := 14) rfl ?_); refine goesL_ (some 33) rfl rfl Try.func14 (by kernel_rfl) rfl #[.int .i64 ((rd_T35 l1 x23_1).f0), .int .i64 ((rd_T35 l1 x23_1).f1), .int .i64 ((rd_T35 l1 x23_1).f2)] rfl (by (try simp only [List.map_toArray, List.map_cons, List.map_nil]); first | done | rfl | (simp only [List.length_drop, List.length_take]; rfl)) ?_; (with_reducible refine (terraceref16_Lasted.calls ((rd_T35 l1 x23_1).f0) ((rd_T35 l1 x23_1).f1) ((rd_T35 l1 x23_1).f2) t147 _ A9.out).mono ?_); rintro e w30 ⟨rfl, hb⟩; refine ⟨_, rfl, ?_⟩; have n0_ := Aside0.mk (IsS47.below (show IsS47 w (((w27.setCell ⟨gb146, 0, none⟩ (.int .i64 ((rd_T35 l1 x23_1).f0))).setCell ⟨gb146, 1, none⟩ (.int .i64 ((rd_T35 l1 x23_1).f1))).setCell ⟨gb146, 2, none⟩ (.int .i64 ((rd_T35 l1 x23_1).f2))) g144 x145000_1 x145001_1 from by repeat (first | (with_reducible first | exact HI144.out | apply IsS47.alloc | apply IsS47.drewN | apply IsS47.drew | apply IsS47.set_0 | apply IsS47.set_1 | refine IsS47.far ?_ NB144_146.out _) | exact HI144.out)) hb); have n1_ := Aside0.mk (blk_below (g := gb146) (o := .cells #[.int .i64 ((rd_T35 l1 x23_1).f0), .int .i64 ((rd_T35 l1 x23_1).f1), .int .i64 ((rd_T35 l1 x23_1).f2)] 35 (0, 0)) (by (with_reducible repeat (first | refine blk_drewN ?_ _ | refine blk_drew ?_ | refine blk_alloc ?_ _)); refine blk_put (cs := #[.int .i64 ((rd_T35 l1 x23_1).f0), .int .i64 ((rd_T35 l1 x23_1).f1), .int .i64 0]) ?_ 2 _ rfl; (with_reducible repeat (first | refine blk_drewN ?_ _ | refine blk_drew ?_ | refine blk_alloc ?_ _)); refine blk_put (cs := #[.int .i64 ((rd_T35 l1 x23_1).f0), .int .i64 0, .int .i64 0]) ?_ 1 _ rfl; (with_reducible repeat (first | refine blk_drewN ?_ _ | refine blk_drew ?_ | refine blk_alloc ?_ _)); refine blk_put (cs := #[.int .i64 0, .int .i64 0, .int .i64 0]) ?_ 0 _ rfl; (with_reducible repeat (first | refine blk_drewN ?_ _ | refine blk_drew ?_ | refine blk_alloc ?_ _)); exact BK146.out) hb); have n2_ := Aside0.mk (below_step (by repeat (first | (with_reducible first | exact HB.out | apply below_alloc | apply pw_below_drewN | apply below_drew1 | refine below_set ?_ (IsS47.ge HI144.out) | refine below_set ?_ GE146.out) | exact HB.out)) hb); clear HI144; clear BK146; clear HB; have HI144 := n0_; have BK146 := n1_; have HB := n2_; clear n0_ n1_ n2_; (try clear hb); (try clear hb2); (try clear hk); (try clear hi); have hcz31_0 : w30.cell? ⟨gb146, 0, none⟩ = some (.int .i64 ((rd_T35 l1 x23_1).f0)) := (blk_cell BK146.out 0).trans rfl; have hcz31_1 : w30.cell? ⟨gb146, 1, none⟩ = some (.int .i64 ((rd_T35 l1 x23_1).f1)) := (blk_cell BK146.out 1).trans rfl; have hcz31_2 : w30.cell? ⟨gb146, 2, none⟩ = some (.int .i64 ((rd_T35 l1 x23_1).f2)) := (blk_cell BK146.out 2).trans rfl; have hfz31_0 := blk_frozen BK146.out 0; have hfz31_1 := blk_frozen BK146.out 1; have hfz31_2 := blk_frozen BK146.out 2) | ((with_reducible refine gate_callee (f := 13) rfl ?_); refine goesL_ (some 41) rfl rfl Try.func13 (by kernel_rfl) rfl #[.pointer (some ⟨g144, 0, none⟩), .int .i64 ((rd_T35 l1 x23_1).f0), .int .i64 ((rd_T35 l1 x23_1).f1), .int .i64 ((rd_T35 l1 x23_1).f2)] rfl (by (try simp only [List.map_toArray, List.map_cons, List.map_nil]); first | done | rfl | (simp only [List.length_drop, List.length_take]; rfl)) ?_; (with_reducible refine (trip_Trip_Sample.calls k1 g144 x145000_1 x145001_1 ((rd_T35 l1 x23_1).f0) ((rd_T35 l1 x23_1).f1) ((rd_T35 l1 x23_1).f2) t148 t149 t150 w _ ?side1 ?side2 A10.out).mono ?_); (case side1 => repeat (first | (with_reducible first | exact HI144.out | apply IsS47.alloc | apply IsS47.drewN | apply IsS47.drew | apply IsS47.set_0 | apply IsS47.set_1 | refine IsS47.far ?_ NB144_146.out _) | exact HI144.out)); (case side2 => repeat (first | (with_reducible first | exact HB.out | apply below_alloc | apply pw_below_drewN | apply below_drew1 | refine below_set ?_ (IsS47.ge HI144.out) | refine below_set ?_ GE146.out) | exact HB.out)); rintro e w32 ⟨rfl, hi, hb, hk⟩; refine ⟨_, rfl, ?_⟩; have n0_ := Aside0.mk (KeepBut.blk hk (g' := gb146) (o := .cells #[.int .i64 ((rd_T35 l1 x23_1).f0), .int .i64 ((rd_T35 l1 x23_1).f1), .int .i64 ((rd_T35 l1 x23_1).f2)] 35 (0, 0)) (by (with_reducible repeat (first | refine blk_drewN ?_ _ | refine blk_drew ?_ | refine blk_alloc ?_ _)); exact BK146.out) NB146_144.out (by simp)); have n1_ := Aside0.mk (hb); have n2_ := Aside0.mk (hi); clear BK146; clear HB; clear HI144; have BK146 := n0_; have HB := n1_; have HI144 := n2_; clear n0_ n1_ n2_; (try clear hb); (try clear hb2); (try clear hk); (try clear hi)) | ((with_reducible refine gate_callee (f := 18) rfl ?_); refine goesL_ (some 52) rfl rfl Try.func18 (by kernel_rfl) rfl #[.int .u64 x9_1, .int .i64 x10_1, .int .i64 t147] rfl (by (try simp only [List.map_toArray, List.map_cons, List.map_nil]); first | done | rfl | (simp only [List.length_drop, List.length_take]; rfl)) ?_; (with_reducible refine (terraceref16_Next.calls x9_1 x10_1 t147 t151 _ A25.out).mono ?_); rintro e w' ⟨rfl, ⟨nd, rfl⟩⟩; refine ⟨_, rfl, ?_⟩))
                go_roundg k1
                case measure => have := HK1.out; omega
                case rel => exact ⟨(t151), (wrap64 (x10_1 + 1)), (wrap64 (x23_1 + 1)), (t149), (t150), (by first | rfl | (simp; done) | (simp [*]; done)), (by first | rfl | (simp; done) | (simp [*]; done)), (by first | rfl | (simp; done) | (simp [*]; done)), H', ⟨by have := HK1.out; omega⟩, ⟨by repeat (first | (with_reducible first | exact HI144.out | apply IsS47.alloc | apply IsS47.drewN | apply IsS47.drew | apply IsS47.set_0 | apply IsS47.set_1 | refine IsS47.far ?_ NB144_146.out _) | exact HI144.out)⟩, ⟨by repeat (first | (with_reducible first | exact HB.out | apply below_alloc | apply pw_below_drewN | apply below_drew1 | refine below_set ?_ (IsS47.ge HI144.out) | refine below_set ?_ GE146.out) | exact HB.out)⟩⟩
              · rw [if_neg c26] at H
                have c26b0 : (t148 == 0) = false := beq_eq_false_iff_ne.mpr c26
                have c26b1 : (t148 != 0) = true := bne_iff_ne.mpr c26
                simp only [Option.some.injEq, Prod.mk.injEq] at H
                obtain ⟨rfl, rfl, rfl, rfl, rfl⟩ := H
                have p145 : 0 ≤ (x23_1 : Int) := of_decide_eq_true (by first | (with_reducible assumption) | assumption)
                have q145 : x23_1 < (l1.length : Int) := of_decide_eq_true (by first | (with_reducible assumption) | assumption)
                obtain ⟨ad145, e145, hx145_0, hx145_1, hx145_2⟩ := at_T35 HR1.out x23_1 p145 q145
                cases e145
                replace hx145_0 := (HB.out.cell (World.block_lt_of_cell? w _ hx145_0)).trans hx145_0
                replace hx145_1 := (HB.out.cell (World.block_lt_of_cell? w _ hx145_1)).trans hx145_1
                replace hx145_2 := (HB.out.cell (World.block_lt_of_cell? w _ hx145_2)).trans hx145_2
                replace p145 := eq_true p145
                replace q145 := eq_true q145
                go_wp2_with (first | ((with_reducible refine gate_dst (N := 12) rfl ?_); refine box_event ?hg (N := 12) ?hd (cs := #[.int .i64 0, .int .i64 0, .int .i64 0]) (t := 35) ?hr ?_; (case hd => rfl); (case hg => rfl); (case hr => first | (go_simp; done) | (go_simp; rfl)); intro gb146 hg w33 hbox hb; have n0_ := Aside0.mk (IsS47.below (by repeat (first | (with_reducible first | exact HI144.out | apply IsS47.alloc | apply IsS47.drewN | apply IsS47.drew | apply IsS47.set_0 | apply IsS47.set_1) | exact HI144.out)) hb); have n1_ := Aside0.mk (below_step (by repeat (first | (with_reducible first | exact HB.out | apply below_alloc | apply pw_below_drewN | apply below_drew1 | refine below_set ?_ (IsS47.ge HI144.out)) | exact HB.out)) hb); have n2_ := Aside0.mk (hbox); have n3_ := Aside0.mk ((by rw [hg]; exact (below_size (by repeat (first | (with_reducible first | exact HB.out | apply below_alloc | apply pw_below_drewN | apply below_drew1 | refine below_set ?_ (IsS47.ge HI144.out)) | exact HB.out))) : w.heap.size ≤ gb146)); have n4_ := Aside0.mk ((by rw [hg]; exact (below_size (by repeat (first | (with_reducible first | exact HB.out | apply below_alloc | apply pw_below_drewN | apply below_drew1 | refine below_set ?_ (IsS47.ge HI144.out)) | exact HB.out))) : w.heap.size ≤ gb146)); have n5_ := Aside0.mk ((by rw [hg]; exact Nat.ne_of_lt (IsS47.lt (show IsS47 w _ g144 x145000_1 x145001_1 from by repeat (first | (with_reducible first | exact HI144.out | apply IsS47.alloc | apply IsS47.drewN | apply IsS47.drew | apply IsS47.set_0 | apply IsS47.set_1) | exact HI144.out))) : g144 ≠ gb146)); have n6_ := Aside0.mk ((by rw [hg]; exact Nat.ne_of_gt (IsS47.lt (show IsS47 w _ g144 x145000_1 x145001_1 from by repeat (first | (with_reducible first | exact HI144.out | apply IsS47.alloc | apply IsS47.drewN | apply IsS47.drew | apply IsS47.set_0 | apply IsS47.set_1) | exact HI144.out))) : gb146 ≠ g144)); clear HI144; clear HB; have HI144 := n0_; have HB := n1_; have BK146 := n2_; have GW146 := n3_; have GE146 := n4_; have NB144_146 := n5_; have NB146_144 := n6_; clear n0_ n1_ n2_ n3_ n4_ n5_ n6_; clear hb hbox hg; have hnb34 := NB146_144.out; have hnc34 := NB144_146.out; have hcz35_0 : w33.cell? ⟨gb146, 0, none⟩ = some (.int .i64 0) := (blk_cell BK146.out 0).trans rfl; have hcz35_1 : w33.cell? ⟨gb146, 1, none⟩ = some (.int .i64 0) := (blk_cell BK146.out 1).trans rfl; have hcz35_2 : w33.cell? ⟨gb146, 2, none⟩ = some (.int .i64 0) := (blk_cell BK146.out 2).trans rfl; have hfz35_0 := blk_frozen BK146.out 0; have hfz35_1 := blk_frozen BK146.out 1; have hfz35_2 := blk_frozen BK146.out 2) | ((with_reducible refine gate_callee (f := 14) rfl ?_); refine goesL_ (some 33) rfl rfl Try.func14 (by kernel_rfl) rfl #[.int .i64 ((rd_T35 l1 x23_1).f0), .int .i64 ((rd_T35 l1 x23_1).f1), .int .i64 ((rd_T35 l1 x23_1).f2)] rfl (by (try simp only [List.map_toArray, List.map_cons, List.map_nil]); first | done | rfl | (simp only [List.length_drop, List.length_take]; rfl)) ?_; (with_reducible refine (terraceref16_Lasted.calls ((rd_T35 l1 x23_1).f0) ((rd_T35 l1 x23_1).f1) ((rd_T35 l1 x23_1).f2) t147 _ A9.out).mono ?_); rintro e w36 ⟨rfl, hb⟩; refine ⟨_, rfl, ?_⟩; have n0_ := Aside0.mk (IsS47.below (show IsS47 w (((w33.setCell ⟨gb146, 0, none⟩ (.int .i64 ((rd_T35 l1 x23_1).f0))).setCell ⟨gb146, 1, none⟩ (.int .i64 ((rd_T35 l1 x23_1).f1))).setCell ⟨gb146, 2, none⟩ (.int .i64 ((rd_T35 l1 x23_1).f2))) g144 x145000_1 x145001_1 from by repeat (first | (with_reducible first | exact HI144.out | apply IsS47.alloc | apply IsS47.drewN | apply IsS47.drew | apply IsS47.set_0 | apply IsS47.set_1 | refine IsS47.far ?_ NB144_146.out _) | exact HI144.out)) hb); have n1_ := Aside0.mk (blk_below (g := gb146) (o := .cells #[.int .i64 ((rd_T35 l1 x23_1).f0), .int .i64 ((rd_T35 l1 x23_1).f1), .int .i64 ((rd_T35 l1 x23_1).f2)] 35 (0, 0)) (by (with_reducible repeat (first | refine blk_drewN ?_ _ | refine blk_drew ?_ | refine blk_alloc ?_ _)); refine blk_put (cs := #[.int .i64 ((rd_T35 l1 x23_1).f0), .int .i64 ((rd_T35 l1 x23_1).f1), .int .i64 0]) ?_ 2 _ rfl; (with_reducible repeat (first | refine blk_drewN ?_ _ | refine blk_drew ?_ | refine blk_alloc ?_ _)); refine blk_put (cs := #[.int .i64 ((rd_T35 l1 x23_1).f0), .int .i64 0, .int .i64 0]) ?_ 1 _ rfl; (with_reducible repeat (first | refine blk_drewN ?_ _ | refine blk_drew ?_ | refine blk_alloc ?_ _)); refine blk_put (cs := #[.int .i64 0, .int .i64 0, .int .i64 0]) ?_ 0 _ rfl; (with_reducible repeat (first | refine blk_drewN ?_ _ | refine blk_drew ?_ | refine blk_alloc ?_ _)); exact BK146.out) hb); have n2_ := Aside0.mk (below_step (by repeat (first | (with_reducible first | exact HB.out | apply below_alloc | apply pw_below_drewN | apply below_drew1 | refine below_set ?_ (IsS47.ge HI144.out) | refine below_set ?_ GE146.out) | exact HB.out)) hb); clear HI144; clear BK146; clear HB; have HI144 := n0_; have BK146 := n1_; have HB := n2_; clear n0_ n1_ n2_; (try clear hb); (try clear hb2); (try clear hk); (try clear hi); have hcz37_0 : w36.cell? ⟨gb146, 0, none⟩ = some (.int .i64 ((rd_T35 l1 x23_1).f0)) := (blk_cell BK146.out 0).trans rfl; have hcz37_1 : w36.cell? ⟨gb146, 1, none⟩ = some (.int .i64 ((rd_T35 l1 x23_1).f1)) := (blk_cell BK146.out 1).trans rfl; have hcz37_2 : w36.cell? ⟨gb146, 2, none⟩ = some (.int .i64 ((rd_T35 l1 x23_1).f2)) := (blk_cell BK146.out 2).trans rfl; have hfz37_0 := blk_frozen BK146.out 0; have hfz37_1 := blk_frozen BK146.out 1; have hfz37_2 := blk_frozen BK146.out 2) | ((with_reducible refine gate_callee (f := 13) rfl ?_); refine goesL_ (some 41) rfl rfl Try.func13 (by kernel_rfl) rfl #[.pointer (some ⟨g144, 0, none⟩), .int .i64 ((rd_T35 l1 x23_1).f0), .int .i64 ((rd_T35 l1 x23_1).f1), .int .i64 ((rd_T35 l1 x23_1).f2)] rfl (by (try simp only [List.map_toArray, List.map_cons, List.map_nil]); first | done | rfl | (simp only [List.length_drop, List.length_take]; rfl)) ?_; (with_reducible refine (trip_Trip_Sample.calls k1 g144 x145000_1 x145001_1 ((rd_T35 l1 x23_1).f0) ((rd_T35 l1 x23_1).f1) ((rd_T35 l1 x23_1).f2) t148 t149 t150 w _ ?side1 ?side2 A10.out).mono ?_); (case side1 => repeat (first | (with_reducible first | exact HI144.out | apply IsS47.alloc | apply IsS47.drewN | apply IsS47.drew | apply IsS47.set_0 | apply IsS47.set_1 | refine IsS47.far ?_ NB144_146.out _) | exact HI144.out)); (case side2 => repeat (first | (with_reducible first | exact HB.out | apply below_alloc | apply pw_below_drewN | apply below_drew1 | refine below_set ?_ (IsS47.ge HI144.out) | refine below_set ?_ GE146.out) | exact HB.out)); rintro e w38 ⟨rfl, hi, hb, hk⟩; refine ⟨_, rfl, ?_⟩; have n0_ := Aside0.mk (KeepBut.blk hk (g' := gb146) (o := .cells #[.int .i64 ((rd_T35 l1 x23_1).f0), .int .i64 ((rd_T35 l1 x23_1).f1), .int .i64 ((rd_T35 l1 x23_1).f2)] 35 (0, 0)) (by (with_reducible repeat (first | refine blk_drewN ?_ _ | refine blk_drew ?_ | refine blk_alloc ?_ _)); exact BK146.out) NB146_144.out (by simp)); have n1_ := Aside0.mk (hb); have n2_ := Aside0.mk (hi); clear BK146; clear HB; clear HI144; have BK146 := n0_; have HB := n1_; have HI144 := n2_; clear n0_ n1_ n2_; (try clear hb); (try clear hb2); (try clear hk); (try clear hi)) | ((with_reducible refine gate_callee (f := 18) rfl ?_); refine goesL_ (some 52) rfl rfl Try.func18 (by kernel_rfl) rfl #[.int .u64 x9_1, .int .i64 x10_1, .int .i64 t147] rfl (by (try simp only [List.map_toArray, List.map_cons, List.map_nil]); first | done | rfl | (simp only [List.length_drop, List.length_take]; rfl)) ?_; (with_reducible refine (terraceref16_Next.calls x9_1 x10_1 t147 t151 _ A25.out).mono ?_); rintro e w' ⟨rfl, ⟨nd, rfl⟩⟩; refine ⟨_, rfl, ?_⟩))
                refine bodyPost_ret (results_list (rs := [.tmp 4, .tmp 5, .tmp 6, .tmp 7]) rfl (by simp) (.tmp (.tmp (.tmp (.tmp .nil))))) rfl ?_
                exact ⟨g144, by first | rfl | (simp; done) | (simp [*]; done), by repeat (first | (with_reducible first | exact HI144.out | apply IsS47.alloc | apply IsS47.drewN | apply IsS47.drew | apply IsS47.set_0 | apply IsS47.set_1 | refine IsS47.far ?_ NB144_146.out _) | exact HI144.out), by repeat (first | (with_reducible first | exact HB.out | apply below_alloc | apply pw_below_drewN | apply below_drew1 | refine below_set ?_ (IsS47.ge HI144.out) | refine below_set ?_ GE146.out) | exact HB.out)⟩
          · rw [if_neg c8] at H
            exact absurd H (by simp)
        · rw [if_neg c7] at H
          exact absurd H (by simp)
      · rw [if_neg c6] at H
        have c6b0 : decide (x23_1 < (l1.length : Int)) = false := decide_eq_false c6
        clear c6
        simp only [Option.some.injEq, Prod.mk.injEq] at H
        obtain ⟨rfl, rfl, rfl, rfl, rfl⟩ := H
        go_wp2
        refine bodyPost_ret (results_list (rs := [.tmp 4, .tmp 5, .tmp 6, .tmp 7]) rfl (by simp) (.tmp (.tmp (.tmp (.tmp .nil))))) rfl ?_
        exact ⟨g144, by first | rfl | (simp; done) | (simp [*]; done), by repeat (first | (with_reducible first | exact HI144.out | apply IsS47.alloc | apply IsS47.drewN | apply IsS47.drew | apply IsS47.set_0 | apply IsS47.set_1) | exact HI144.out), by repeat (first | (with_reducible first | exact HB.out | apply below_alloc | apply pw_below_drewN | apply below_drew1 | refine below_set ?_ (IsS47.ge HI144.out)) | exact HB.out)⟩

/-! ### terracelaw16_TripPlays: function 3 -/
def terracelaw16_TripPlays.j0 : Nat → Int → Bool → Int → Int → Option (Bool)
  | 0, _, _, _, _ => none
  | k + 1, x6, x40, x156000, x156001 => if x40 = true then (some false) else ((trip_Trip_Ticks.f x156000 x156001).bind fun bt168 => (if (IntKind.u64.wrap ((IntKind.u64.wrap (bt168.1)) * 4294967296)) ≥ x6 then (if (IntKind.u64.wrap ((IntKind.u64.wrap ((IntKind.u64.wrap (bt168.1)) - 1)) * 4294967296)) < x6 then ((terracelaw16_awake.f k).bind fun t171 => (some t171)) else (some false)) else (if (IntKind.u64.wrap (bt168.1)) = 4294967296 then (if (IntKind.u64.wrap ((IntKind.u64.wrap ((IntKind.u64.wrap (bt168.1)) - 1)) * 4294967296)) < x6 then ((terracelaw16_awake.f k).bind fun t172 => (some t172)) else (some false)) else (some false))))
def terracelaw16_TripPlays.f (k : Nat) (a0 : Int) (l1 : List (S35)) : Option (Bool) := if (l1.length : Int) > 80 then ((terracelaw16_awake.f k).bind fun t152 => (some t152)) else ((terracelaw16_played.f k a0 l1).bind fun bt153 => (if bt153.2.2.2.2 = true then ((trip_Trip_Get.f bt153.1 bt153.2.1).bind fun bt159 => (if bt159.1 = bt153.2.2.1 then ((trip_Trip_Known.f bt159.2.1 bt159.2.2).bind fun bt162 => (if bt162.1 = bt153.2.2.2.1 then ((trip_Trip_Ticks.f bt162.2.1 bt162.2.2).bind fun bt165 => (terracelaw16_TripPlays.j0 k bt153.2.2.1 (decide (bt165.1 < 1)) bt165.2.1 bt165.2.2)) else (terracelaw16_TripPlays.j0 k bt153.2.2.1 true bt162.2.1 bt162.2.2))) else (terracelaw16_TripPlays.j0 k bt153.2.2.1 true bt159.2.1 bt159.2.2))) else (terracelaw16_TripPlays.j0 k bt153.2.2.1 true bt153.1 bt153.2.1)))
theorem terracelaw16_TripPlays.mono_l : ∀ k, (∀ y0 y1 y2 y3, LeO (terracelaw16_TripPlays.j0 k y0 y1 y2 y3) (terracelaw16_TripPlays.j0 (k + 1) y0 y1 y2 y3))
  | 0 => fun _ _ _ _ r h => by simp [terracelaw16_TripPlays.j0] at h
  | k + 1 => by
    have ih0 := terracelaw16_TripPlays.mono_l k
    · intro y0 y1 y2 y3
      unfold terracelaw16_TripPlays.j0
      repeat' first
      | (with_reducible exact ih0 _ _ _ _)
      | (with_reducible exact terracelaw16_awake.mono _)
      | (with_reducible exact terracelaw16_played.mono _ _ _)
      | (with_reducible exact LeO.refl _)
      | (with_reducible exact LeO.none _)
      | (with_reducible refine LeO.ite ?_ ?_)
      | (with_reducible refine LeO.bind ?_ (fun _ => ?_))
      | exact ih0 _ _ _ _
      | exact terracelaw16_awake.mono _
      | exact terracelaw16_played.mono _ _ _
      | exact LeO.none _
      | refine LeO.ite ?_ ?_
      | refine LeO.bind ?_ (fun _ => ?_)
theorem terracelaw16_TripPlays.mono : ∀ a0 a1 k, LeO (terracelaw16_TripPlays.f k a0 a1) (terracelaw16_TripPlays.f (k + 1) a0 a1) := by
  intro a0 a1 k
  have ih0 := terracelaw16_TripPlays.mono_l k
  unfold terracelaw16_TripPlays.f
  repeat' first
      | (with_reducible exact ih0 _ _ _ _)
      | (with_reducible exact terracelaw16_awake.mono _)
      | (with_reducible exact terracelaw16_played.mono _ _ _)
      | (with_reducible exact LeO.refl _)
      | (with_reducible exact LeO.none _)
      | (with_reducible refine LeO.ite ?_ ?_)
      | (with_reducible refine LeO.bind ?_ (fun _ => ?_))
      | exact ih0 _ _ _ _
      | exact terracelaw16_awake.mono _
      | exact terracelaw16_played.mono _ _ _
      | exact LeO.none _
      | refine LeO.ite ?_ ?_
      | refine LeO.bind ?_ (fun _ => ?_)
set_option maxHeartbeats 8000000 in
set_option maxRecDepth 100000 in
theorem terracelaw16_TripPlays.calls (k : Nat) (a0 : Int) (A1 : Option Addr) (c1 : Nat) (l1 : List (S35)) (r : Bool) (w : World) (hr1 : Kd.C k35 w A1 l1.length l1) (hc1 : l1.length ≤ c1) (h : terracelaw16_TripPlays.f k a0 l1 = some r) :
    Calls Try.prog 3 #[.int .u64 a0, .slice A1 l1.length c1] w fun e w' => e = .returned (.bool r) ∧ Below w.heap.size w w' := by
  have HR1 := Aside0.mk hr1
  have HC1 := Aside0.mk hc1
  clear hr1 hc1
  have HB := Aside0.mk (Below.refl w.heap.size w)
  have H : (if (l1.length : Int) > 80 then ((terracelaw16_awake.f k).bind fun t152 => (some t152)) else ((terracelaw16_played.f k a0 l1).bind fun bt153 => (if bt153.2.2.2.2 = true then ((trip_Trip_Get.f bt153.1 bt153.2.1).bind fun bt159 => (if bt159.1 = bt153.2.2.1 then ((trip_Trip_Known.f bt159.2.1 bt159.2.2).bind fun bt162 => (if bt162.1 = bt153.2.2.2.1 then ((trip_Trip_Ticks.f bt162.2.1 bt162.2.2).bind fun bt165 => (terracelaw16_TripPlays.j0 k bt153.2.2.1 (decide (bt165.1 < 1)) bt165.2.1 bt165.2.2)) else (terracelaw16_TripPlays.j0 k bt153.2.2.1 true bt162.2.1 bt162.2.2))) else (terracelaw16_TripPlays.j0 k bt153.2.2.1 true bt159.2.1 bt159.2.2))) else (terracelaw16_TripPlays.j0 k bt153.2.2.1 true bt153.1 bt153.2.1)))) = some r := h
  clear h
  by_cases c3 : (l1.length : Int) > 80
  · rw [if_pos c3] at H
    have c3b0 : decide (80 < (l1.length : Int)) = true := decide_eq_true c3
    have c3b1 : decide (80 < l1.length) = true := decide_eq_true (by omega)
    clear c3
    replace H := Option.bind_eq_some_iff.mp H
    obtain ⟨t152, A40, H⟩ := H
    replace H : (some t152) = some r := H
    have A4 := Aside0.mk A40
    clear A40
    obtain rfl := Option.some.inj H
    go_enter Try.func3, Try.ntmps3
    go_wp2_with (first | ((with_reducible refine gate_callee (f := 7) rfl ?_); refine goesL_ (some 13) rfl rfl Try.func7 (by kernel_rfl) rfl #[] rfl (by (try simp only [List.map_toArray, List.map_cons, List.map_nil]); first | done | rfl | (simp only [List.length_drop, List.length_take]; rfl)) ?_; (with_reducible refine (terracelaw16_awake.calls k  t152 _ A4.out).mono ?_); rintro e w5 ⟨rfl, hb⟩; refine ⟨_, rfl, ?_⟩; have n0_ := Aside0.mk (below_step (by repeat (first | (with_reducible first | exact HB.out | apply below_alloc | apply pw_below_drewN | apply below_drew1) | exact HB.out)) hb); clear HB; have HB := n0_; clear n0_; (try clear hb); (try clear hb2); (try clear hk); (try clear hi)))
    go_ret
    exact ⟨by first | rfl | (simp [errW_none, errW_some] <;> rfl) | (simp [*, errW_none, errW_some] <;> rfl), by repeat (first | (with_reducible first | exact HB.out | apply below_alloc | apply pw_below_drewN | apply below_drew1) | exact HB.out)⟩
  · rw [if_neg c3] at H
    have c3b0 : decide (80 < (l1.length : Int)) = false := decide_eq_false c3
    have c3b1 : decide (80 < l1.length) = false := decide_eq_false (by omega)
    clear c3
    replace H := Option.bind_eq_some_iff.mp H
    obtain ⟨⟨t153, t154, t156, t157, t158⟩, A60, H⟩ := H
    replace H : (if t158 = true then ((trip_Trip_Get.f t153 t154).bind fun bt159 => (if bt159.1 = t156 then ((trip_Trip_Known.f bt159.2.1 bt159.2.2).bind fun bt162 => (if bt162.1 = t157 then ((trip_Trip_Ticks.f bt162.2.1 bt162.2.2).bind fun bt165 => (terracelaw16_TripPlays.j0 k t156 (decide (bt165.1 < 1)) bt165.2.1 bt165.2.2)) else (terracelaw16_TripPlays.j0 k t156 true bt162.2.1 bt162.2.2))) else (terracelaw16_TripPlays.j0 k t156 true bt159.2.1 bt159.2.2))) else (terracelaw16_TripPlays.j0 k t156 true t153 t154)) = some r := H
    have A6 := Aside0.mk A60
    clear A60
    have HC7 := Aside0.mk H
    clear H
    go_enter Try.func3, Try.ntmps3
    go_upto_region 4 with (first | ((with_reducible refine gate_callee (f := 8) rfl ?_); refine goesL_ (some 17) rfl rfl Try.func8 (by kernel_rfl) rfl #[.int .u64 a0, .slice A1 l1.length c1] rfl (by (try simp only [List.map_toArray, List.map_cons, List.map_nil]); first | done | rfl | (simp only [List.length_drop, List.length_take]; rfl)) ?_; (with_reducible refine (terracelaw16_played.calls k a0 _ _ l1 t153 t154 t156 t157 t158 _ ?side1 ?side2 A6.out).mono ?_); (case side1 => repeat (first | exact HR1.out | (with_reducible refine Kd.C_alloc ?_ _) | (with_reducible refine Kd.C_drewN ?_ _) | (with_reducible refine Kd.C_drew ?_))); (case side2 => exact HC1.out); rintro e w8 ⟨g155, rfl, hi0, hb2⟩; refine ⟨_, rfl, ?_⟩; have hi : IsS47 w w8 g155 t153 t154 := ⟨hi0.1, Nat.le_trans (below_size (by repeat (first | (with_reducible first | exact HB.out | apply below_alloc | apply pw_below_drewN | apply below_drew1) | exact HB.out))) hi0.2⟩; have hb := below_step (by repeat (first | (with_reducible first | exact HB.out | apply below_alloc | apply pw_below_drewN | apply below_drew1) | exact HB.out)) hb2; have n0_ := Aside0.mk (hb); have n1_ := Aside0.mk (hi); clear HB; have HB := n0_; have HI155 := n1_; clear n0_ n1_; (try clear hb); (try clear hb2); (try clear hk); (try clear hi)))
    (try simp only [Act.put, List.setIfInBounds_toArray, List.set_cons_zero, List.set_cons_succ])
    go_cut [40] (fun v40 wc => ∃ (kq : Nat) (x40_6 : Bool) (x156000_6 : Int) (x156001_6 : Int), v40 = .bool x40_6 ∧ Aside0 (terracelaw16_TripPlays.j0 kq t156 x40_6 x156000_6 x156001_6 = some r) ∧ Aside0 (kq ≤ k) ∧ Aside0 (IsS47 w wc g155 x156000_6 x156001_6) ∧ Aside0 (Below w.heap.size w wc))
    case first =>
      have H := HC7.out
      clear HC7
      by_cases c9 : t158 = true
      · subst c9
        have H1 : ((trip_Trip_Get.f t153 t154).bind fun bt159 => (if bt159.1 = t156 then ((trip_Trip_Known.f bt159.2.1 bt159.2.2).bind fun bt162 => (if bt162.1 = t157 then ((trip_Trip_Ticks.f bt162.2.1 bt162.2.2).bind fun bt165 => (terracelaw16_TripPlays.j0 k t156 (decide (bt165.1 < 1)) bt165.2.1 bt165.2.2)) else (terracelaw16_TripPlays.j0 k t156 true bt162.2.1 bt162.2.2))) else (terracelaw16_TripPlays.j0 k t156 true bt159.2.1 bt159.2.2))) = some r := by rw [if_pos rfl] at H; exact H
        clear H
        have H := H1
        clear H1
        replace H := Option.bind_eq_some_iff.mp H
        obtain ⟨⟨t159, t160, t161⟩, A100, H⟩ := H
        replace H : (if t159 = t156 then ((trip_Trip_Known.f t160 t161).bind fun bt162 => (if bt162.1 = t157 then ((trip_Trip_Ticks.f bt162.2.1 bt162.2.2).bind fun bt165 => (terracelaw16_TripPlays.j0 k t156 (decide (bt165.1 < 1)) bt165.2.1 bt165.2.2)) else (terracelaw16_TripPlays.j0 k t156 true bt162.2.1 bt162.2.2))) else (terracelaw16_TripPlays.j0 k t156 true t160 t161)) = some r := H
        have A10 := Aside0.mk A100
        clear A100
        by_cases c11 : t159 = t156
        · rw [if_pos c11] at H
          have c11b0 : (t159 == t156) = true := beq_iff_eq.mpr c11
          have c11b1 : (t159 != t156) = false := bne_eq_false_iff_eq.mpr c11
          clear c11
          (first | rw [c11b0] | (simp only [i64_w, i32_w]; rw [c11b0]) | skip)
          replace H := Option.bind_eq_some_iff.mp H
          obtain ⟨⟨t162, t163, t164⟩, A120, H⟩ := H
          replace H : (if t162 = t157 then ((trip_Trip_Ticks.f t163 t164).bind fun bt165 => (terracelaw16_TripPlays.j0 k t156 (decide (bt165.1 < 1)) bt165.2.1 bt165.2.2)) else (terracelaw16_TripPlays.j0 k t156 true t163 t164)) = some r := H
          have A12 := Aside0.mk A120
          clear A120
          by_cases c13 : t162 = t157
          · rw [if_pos c13] at H
            have c13b0 : (t162 == t157) = true := beq_iff_eq.mpr c13
            have c13b1 : (t162 != t157) = false := bne_eq_false_iff_eq.mpr c13
            clear c13
            replace H := Option.bind_eq_some_iff.mp H
            obtain ⟨⟨t165, t166, t167⟩, A140, H⟩ := H
            replace H : (terracelaw16_TripPlays.j0 k t156 (decide (t165 < 1)) t166 t167) = some r := H
            have A14 := Aside0.mk A140
            clear A140
            have H' := Aside0.mk H
            clear H
            go_wp2_with (first | (go_at_call 9; (with_reducible refine (trip_Trip_Get.calls g155 t153 t154 t159 t160 t161 w _ ?side1 ?side2 A10.out).mono ?_); (case side1 => repeat (first | (with_reducible first | exact HI155.out | apply IsS47.alloc | apply IsS47.drewN | apply IsS47.drew | apply IsS47.set_0 | apply IsS47.set_1) | exact HI155.out)); (case side2 => repeat (first | (with_reducible first | exact HB.out | apply below_alloc | apply pw_below_drewN | apply below_drew1 | refine below_set ?_ (IsS47.ge HI155.out)) | exact HB.out)); rintro e w15 ⟨rfl, hi, hb, hk⟩; have n0_ := Aside0.mk (hb); have n1_ := Aside0.mk (hi); clear HB; clear HI155; have HB := n0_; have HI155 := n1_; clear n0_ n1_; (try clear hb); (try clear hb2); (try clear hk); (try clear hi)) | (go_at_call 10; (with_reducible refine (trip_Trip_Known.calls g155 t160 t161 t162 t163 t164 w _ ?side1 ?side2 A12.out).mono ?_); (case side1 => repeat (first | (with_reducible first | exact HI155.out | apply IsS47.alloc | apply IsS47.drewN | apply IsS47.drew | apply IsS47.set_0 | apply IsS47.set_1) | exact HI155.out)); (case side2 => repeat (first | (with_reducible first | exact HB.out | apply below_alloc | apply pw_below_drewN | apply below_drew1 | refine below_set ?_ (IsS47.ge HI155.out)) | exact HB.out)); rintro e w16 ⟨rfl, hi, hb, hk⟩; have n0_ := Aside0.mk (hb); have n1_ := Aside0.mk (hi); clear HB; clear HI155; have HB := n0_; have HI155 := n1_; clear n0_ n1_; (try clear hb); (try clear hb2); (try clear hk); (try clear hi)) | (go_at_call 11; (with_reducible refine (trip_Trip_Ticks.calls g155 t163 t164 t165 t166 t167 w _ ?side1 ?side2 A14.out).mono ?_); (case side1 => repeat (first | (with_reducible first | exact HI155.out | apply IsS47.alloc | apply IsS47.drewN | apply IsS47.drew | apply IsS47.set_0 | apply IsS47.set_1) | exact HI155.out)); (case side2 => repeat (first | (with_reducible first | exact HB.out | apply below_alloc | apply pw_below_drewN | apply below_drew1 | refine below_set ?_ (IsS47.ge HI155.out)) | exact HB.out)); rintro e w17 ⟨rfl, hi, hb, hk⟩; have n0_ := Aside0.mk (hb); have n1_ := Aside0.mk (hi); clear HB; clear HI155; have HB := n0_; have HI155 := n1_; clear n0_ n1_; (try clear hb); (try clear hb2); (try clear hk); (try clear hi)))
            go_meet
            case rel => exact ⟨_, (decide (t165 < 1)), (t166), (t167), (by first | rfl | (simp; done) | (simp [*]; done)), H', ⟨by first | omega | exact Nat.le_refl _⟩, ⟨by repeat (first | (with_reducible first | exact HI155.out | apply IsS47.alloc | apply IsS47.drewN | apply IsS47.drew | apply IsS47.set_0 | apply IsS47.set_1) | exact HI155.out)⟩, ⟨by repeat (first | (with_reducible first | exact HB.out | apply below_alloc | apply pw_below_drewN | apply below_drew1 | refine below_set ?_ (IsS47.ge HI155.out)) | exact HB.out)⟩⟩
          · rw [if_neg c13] at H
            have c13b0 : (t162 == t157) = false := beq_eq_false_iff_ne.mpr c13
            have c13b1 : (t162 != t157) = true := bne_iff_ne.mpr c13
            have H' := Aside0.mk H
            clear H
            go_wp2_with (first | (go_at_call 9; (with_reducible refine (trip_Trip_Get.calls g155 t153 t154 t159 t160 t161 w _ ?side1 ?side2 A10.out).mono ?_); (case side1 => repeat (first | (with_reducible first | exact HI155.out | apply IsS47.alloc | apply IsS47.drewN | apply IsS47.drew | apply IsS47.set_0 | apply IsS47.set_1) | exact HI155.out)); (case side2 => repeat (first | (with_reducible first | exact HB.out | apply below_alloc | apply pw_below_drewN | apply below_drew1 | refine below_set ?_ (IsS47.ge HI155.out)) | exact HB.out)); rintro e w18 ⟨rfl, hi, hb, hk⟩; have n0_ := Aside0.mk (hb); have n1_ := Aside0.mk (hi); clear HB; clear HI155; have HB := n0_; have HI155 := n1_; clear n0_ n1_; (try clear hb); (try clear hb2); (try clear hk); (try clear hi)) | (go_at_call 10; (with_reducible refine (trip_Trip_Known.calls g155 t160 t161 t162 t163 t164 w _ ?side1 ?side2 A12.out).mono ?_); (case side1 => repeat (first | (with_reducible first | exact HI155.out | apply IsS47.alloc | apply IsS47.drewN | apply IsS47.drew | apply IsS47.set_0 | apply IsS47.set_1) | exact HI155.out)); (case side2 => repeat (first | (with_reducible first | exact HB.out | apply below_alloc | apply pw_below_drewN | apply below_drew1 | refine below_set ?_ (IsS47.ge HI155.out)) | exact HB.out)); rintro e w19 ⟨rfl, hi, hb, hk⟩; have n0_ := Aside0.mk (hb); have n1_ := Aside0.mk (hi); clear HB; clear HI155; have HB := n0_; have HI155 := n1_; clear n0_ n1_; (try clear hb); (try clear hb2); (try clear hk); (try clear hi)))
            go_meet
            case rel => exact ⟨_, (true), (t163), (t164), (by first | rfl | (simp; done) | (simp [*]; done)), H', ⟨by first | omega | exact Nat.le_refl _⟩, ⟨by repeat (first | (with_reducible first | exact HI155.out | apply IsS47.alloc | apply IsS47.drewN | apply IsS47.drew | apply IsS47.set_0 | apply IsS47.set_1) | exact HI155.out)⟩, ⟨by repeat (first | (with_reducible first | exact HB.out | apply below_alloc | apply pw_below_drewN | apply below_drew1 | refine below_set ?_ (IsS47.ge HI155.out)) | exact HB.out)⟩⟩
        · rw [if_neg c11] at H
          have c11b0 : (t159 == t156) = false := beq_eq_false_iff_ne.mpr c11
          have c11b1 : (t159 != t156) = true := bne_iff_ne.mpr c11
          (first | rw [c11b0] | (simp only [i64_w, i32_w]; rw [c11b0]) | skip)
          have H' := Aside0.mk H
          clear H
          go_wp2_with (first | (go_at_call 9; (with_reducible refine (trip_Trip_Get.calls g155 t153 t154 t159 t160 t161 w _ ?side1 ?side2 A10.out).mono ?_); (case side1 => repeat (first | (with_reducible first | exact HI155.out | apply IsS47.alloc | apply IsS47.drewN | apply IsS47.drew | apply IsS47.set_0 | apply IsS47.set_1) | exact HI155.out)); (case side2 => repeat (first | (with_reducible first | exact HB.out | apply below_alloc | apply pw_below_drewN | apply below_drew1 | refine below_set ?_ (IsS47.ge HI155.out)) | exact HB.out)); rintro e w20 ⟨rfl, hi, hb, hk⟩; have n0_ := Aside0.mk (hb); have n1_ := Aside0.mk (hi); clear HB; clear HI155; have HB := n0_; have HI155 := n1_; clear n0_ n1_; (try clear hb); (try clear hb2); (try clear hk); (try clear hi)))
          go_meet
          case rel => exact ⟨_, (true), (t160), (t161), (by first | rfl | (simp; done) | (simp [*]; done)), H', ⟨by first | omega | exact Nat.le_refl _⟩, ⟨by repeat (first | (with_reducible first | exact HI155.out | apply IsS47.alloc | apply IsS47.drewN | apply IsS47.drew | apply IsS47.set_0 | apply IsS47.set_1) | exact HI155.out)⟩, ⟨by repeat (first | (with_reducible first | exact HB.out | apply below_alloc | apply pw_below_drewN | apply below_drew1 | refine below_set ?_ (IsS47.ge HI155.out)) | exact HB.out)⟩⟩
      · replace c9 := Bool.eq_false_iff.mpr c9
        subst c9
        have H1 : (terracelaw16_TripPlays.j0 k t156 true t153 t154) = some r := by rw [if_neg (show ¬ (false = true) by decide)] at H; exact H
        clear H
        have H := H1
        clear H1
        have H' := Aside0.mk H
        clear H
        go_wp2
        go_meet
        case rel => exact ⟨_, (true), (t153), (t154), (by first | rfl | (simp; done) | (simp [*]; done)), H', ⟨by first | omega | exact Nat.le_refl _⟩, ⟨by repeat (first | (with_reducible first | exact HI155.out | apply IsS47.alloc | apply IsS47.drewN | apply IsS47.drew | apply IsS47.set_0 | apply IsS47.set_1) | exact HI155.out)⟩, ⟨by repeat (first | (with_reducible first | exact HB.out | apply below_alloc | apply pw_below_drewN | apply below_drew1 | refine below_set ?_ (IsS47.ge HI155.out)) | exact HB.out)⟩⟩
    case rest =>
      clear HC7
      try clear c1
      try clear p2
      try clear c3
      try clear c3b0
      try clear c3b1
      try clear c7
      try clear c8
      try clear c9
      try clear c11
      try clear c11b0
      try clear c11b1
      try clear c13
      try clear c13b0
      try clear c13b1
      obtain ⟨kq, x40_6, x156000_6, x156001_6, rfl, HA, HJ6, HI155, HB⟩ := hcut
      cases kq with
      | zero => exact absurd HA.out (by simp [terracelaw16_TripPlays.j0])
      | succ kj6 =>
        have H := HA.out
        clear HA
        simp only [terracelaw16_TripPlays.j0] at H
        by_cases c21 : x40_6 = true
        · subst c21
          have H1 : (some false) = some r := by rw [if_pos rfl] at H; exact H
          clear H
          have H := H1
          clear H1
          obtain rfl := Option.some.inj H
          go_wp2
          go_ret
          exact ⟨by first | rfl | (simp [errW_none, errW_some] <;> rfl) | (simp [*, errW_none, errW_some] <;> rfl), by repeat (first | (with_reducible first | exact HB.out | apply below_alloc | apply pw_below_drewN | apply below_drew1 | refine below_set ?_ (IsS47.ge HI155.out)) | exact HB.out)⟩
        · replace c21 := Bool.eq_false_iff.mpr c21
          subst c21
          have H1 : ((trip_Trip_Ticks.f x156000_6 x156001_6).bind fun bt168 => (if (IntKind.u64.wrap ((IntKind.u64.wrap (bt168.1)) * 4294967296)) ≥ t156 then (if (IntKind.u64.wrap ((IntKind.u64.wrap ((IntKind.u64.wrap (bt168.1)) - 1)) * 4294967296)) < t156 then ((terracelaw16_awake.f kj6).bind fun t171 => (some t171)) else (some false)) else (if (IntKind.u64.wrap (bt168.1)) = 4294967296 then (if (IntKind.u64.wrap ((IntKind.u64.wrap ((IntKind.u64.wrap (bt168.1)) - 1)) * 4294967296)) < t156 then ((terracelaw16_awake.f kj6).bind fun t172 => (some t172)) else (some false)) else (some false)))) = some r := by rw [if_neg (show ¬ (false = true) by decide)] at H; exact H
          clear H
          have H := H1
          clear H1
          replace H := Option.bind_eq_some_iff.mp H
          obtain ⟨⟨t168, t169, t170⟩, A220, H⟩ := H
          replace H : (if (IntKind.u64.wrap ((IntKind.u64.wrap (t168)) * 4294967296)) ≥ t156 then (if (IntKind.u64.wrap ((IntKind.u64.wrap ((IntKind.u64.wrap (t168)) - 1)) * 4294967296)) < t156 then ((terracelaw16_awake.f kj6).bind fun t171 => (some t171)) else (some false)) else (if (IntKind.u64.wrap (t168)) = 4294967296 then (if (IntKind.u64.wrap ((IntKind.u64.wrap ((IntKind.u64.wrap (t168)) - 1)) * 4294967296)) < t156 then ((terracelaw16_awake.f kj6).bind fun t172 => (some t172)) else (some false)) else (some false))) = some r := H
          have A22 := Aside0.mk A220
          clear A220
          by_cases c23 : (IntKind.u64.wrap ((IntKind.u64.wrap (t168)) * 4294967296)) ≥ t156
          · rw [if_pos c23] at H
            have c23b0 : decide (t156 ≤ (IntKind.u64.wrap ((IntKind.u64.wrap (t168)) * 4294967296))) = true := decide_eq_true c23
            clear c23
            by_cases c24 : (IntKind.u64.wrap ((IntKind.u64.wrap ((IntKind.u64.wrap (t168)) - 1)) * 4294967296)) < t156
            · rw [if_pos c24] at H
              have c24b0 : decide ((IntKind.u64.wrap ((IntKind.u64.wrap ((IntKind.u64.wrap (t168)) - 1)) * 4294967296)) < t156) = true := decide_eq_true c24
              clear c24
              replace H := Option.bind_eq_some_iff.mp H
              obtain ⟨t171, A250, H⟩ := H
              replace H : (some t171) = some r := H
              have A25 := Aside0.mk A250
              clear A250
              obtain rfl := Option.some.inj H
              go_wp2_with (first | ((with_reducible refine gate_callee (f := 11) rfl ?_); refine goesL_ (some 42) rfl rfl Try.func11 (by kernel_rfl) rfl #[.pointer (some ⟨g155, 0, none⟩)] rfl (by (try simp only [List.map_toArray, List.map_cons, List.map_nil]); first | done | rfl | (simp only [List.length_drop, List.length_take]; rfl)) ?_; (with_reducible refine (trip_Trip_Ticks.calls g155 x156000_6 x156001_6 t168 t169 t170 w _ ?side1 ?side2 A22.out).mono ?_); (case side1 => repeat (first | (with_reducible first | exact HI155.out | apply IsS47.alloc | apply IsS47.drewN | apply IsS47.drew | apply IsS47.set_0 | apply IsS47.set_1) | exact HI155.out)); (case side2 => repeat (first | (with_reducible first | exact HB.out | apply below_alloc | apply pw_below_drewN | apply below_drew1 | refine below_set ?_ (IsS47.ge HI155.out)) | exact HB.out)); rintro e w26 ⟨rfl, hi, hb, hk⟩; refine ⟨_, rfl, ?_⟩; have n0_ := Aside0.mk (hb); have n1_ := Aside0.mk (hi); clear HB; clear HI155; have HB := n0_; have HI155 := n1_; clear n0_ n1_; (try clear hb); (try clear hb2); (try clear hk); (try clear hi)) | (go_at_call 7; (with_reducible refine (terracelaw16_awake.calls kj6  t171 _ A25.out).mono ?_); rintro e w27 ⟨rfl, hb⟩; have n0_ := Aside0.mk (IsS47.below (by repeat (first | (with_reducible first | exact HI155.out | apply IsS47.alloc | apply IsS47.drewN | apply IsS47.drew | apply IsS47.set_0 | apply IsS47.set_1) | exact HI155.out)) hb); have n1_ := Aside0.mk (below_step (by repeat (first | (with_reducible first | exact HB.out | apply below_alloc | apply pw_below_drewN | apply below_drew1 | refine below_set ?_ (IsS47.ge HI155.out)) | exact HB.out)) hb); clear HI155; clear HB; have HI155 := n0_; have HB := n1_; clear n0_ n1_; (try clear hb); (try clear hb2); (try clear hk); (try clear hi)))
              go_ret
              exact ⟨by first | rfl | (simp [errW_none, errW_some] <;> rfl) | (simp [*, errW_none, errW_some] <;> rfl), by repeat (first | (with_reducible first | exact HB.out | apply below_alloc | apply pw_below_drewN | apply below_drew1 | refine below_set ?_ (IsS47.ge HI155.out)) | exact HB.out)⟩
            · rw [if_neg c24] at H
              have c24b0 : decide ((IntKind.u64.wrap ((IntKind.u64.wrap ((IntKind.u64.wrap (t168)) - 1)) * 4294967296)) < t156) = false := decide_eq_false c24
              clear c24
              obtain rfl := Option.some.inj H
              go_wp2_with (first | ((with_reducible refine gate_callee (f := 11) rfl ?_); refine goesL_ (some 42) rfl rfl Try.func11 (by kernel_rfl) rfl #[.pointer (some ⟨g155, 0, none⟩)] rfl (by (try simp only [List.map_toArray, List.map_cons, List.map_nil]); first | done | rfl | (simp only [List.length_drop, List.length_take]; rfl)) ?_; (with_reducible refine (trip_Trip_Ticks.calls g155 x156000_6 x156001_6 t168 t169 t170 w _ ?side1 ?side2 A22.out).mono ?_); (case side1 => repeat (first | (with_reducible first | exact HI155.out | apply IsS47.alloc | apply IsS47.drewN | apply IsS47.drew | apply IsS47.set_0 | apply IsS47.set_1) | exact HI155.out)); (case side2 => repeat (first | (with_reducible first | exact HB.out | apply below_alloc | apply pw_below_drewN | apply below_drew1 | refine below_set ?_ (IsS47.ge HI155.out)) | exact HB.out)); rintro e w28 ⟨rfl, hi, hb, hk⟩; refine ⟨_, rfl, ?_⟩; have n0_ := Aside0.mk (hb); have n1_ := Aside0.mk (hi); clear HB; clear HI155; have HB := n0_; have HI155 := n1_; clear n0_ n1_; (try clear hb); (try clear hb2); (try clear hk); (try clear hi)))
              go_ret
              exact ⟨by first | rfl | (simp [errW_none, errW_some] <;> rfl) | (simp [*, errW_none, errW_some] <;> rfl), by repeat (first | (with_reducible first | exact HB.out | apply below_alloc | apply pw_below_drewN | apply below_drew1 | refine below_set ?_ (IsS47.ge HI155.out)) | exact HB.out)⟩
          · rw [if_neg c23] at H
            have c23b0 : decide (t156 ≤ (IntKind.u64.wrap ((IntKind.u64.wrap (t168)) * 4294967296))) = false := decide_eq_false c23
            clear c23
            by_cases c29 : (IntKind.u64.wrap (t168)) = 4294967296
            · rw [if_pos c29] at H
              have c29b0 : ((IntKind.u64.wrap (t168)) == 4294967296) = true := beq_iff_eq.mpr c29
              have c29b1 : ((IntKind.u64.wrap (t168)) != 4294967296) = false := bne_eq_false_iff_eq.mpr c29
              clear c29
              by_cases c30 : (IntKind.u64.wrap ((IntKind.u64.wrap ((IntKind.u64.wrap (t168)) - 1)) * 4294967296)) < t156
              · rw [if_pos c30] at H
                have c30b0 : decide ((IntKind.u64.wrap ((IntKind.u64.wrap ((IntKind.u64.wrap (t168)) - 1)) * 4294967296)) < t156) = true := decide_eq_true c30
                clear c30
                replace H := Option.bind_eq_some_iff.mp H
                obtain ⟨t172, A310, H⟩ := H
                replace H : (some t172) = some r := H
                have A31 := Aside0.mk A310
                clear A310
                obtain rfl := Option.some.inj H
                go_wp2_with (first | ((with_reducible refine gate_callee (f := 11) rfl ?_); refine goesL_ (some 42) rfl rfl Try.func11 (by kernel_rfl) rfl #[.pointer (some ⟨g155, 0, none⟩)] rfl (by (try simp only [List.map_toArray, List.map_cons, List.map_nil]); first | done | rfl | (simp only [List.length_drop, List.length_take]; rfl)) ?_; (with_reducible refine (trip_Trip_Ticks.calls g155 x156000_6 x156001_6 t168 t169 t170 w _ ?side1 ?side2 A22.out).mono ?_); (case side1 => repeat (first | (with_reducible first | exact HI155.out | apply IsS47.alloc | apply IsS47.drewN | apply IsS47.drew | apply IsS47.set_0 | apply IsS47.set_1) | exact HI155.out)); (case side2 => repeat (first | (with_reducible first | exact HB.out | apply below_alloc | apply pw_below_drewN | apply below_drew1 | refine below_set ?_ (IsS47.ge HI155.out)) | exact HB.out)); rintro e w32 ⟨rfl, hi, hb, hk⟩; refine ⟨_, rfl, ?_⟩; have n0_ := Aside0.mk (hb); have n1_ := Aside0.mk (hi); clear HB; clear HI155; have HB := n0_; have HI155 := n1_; clear n0_ n1_; (try clear hb); (try clear hb2); (try clear hk); (try clear hi)) | (go_at_call 7; (with_reducible refine (terracelaw16_awake.calls kj6  t172 _ A31.out).mono ?_); rintro e w33 ⟨rfl, hb⟩; have n0_ := Aside0.mk (IsS47.below (by repeat (first | (with_reducible first | exact HI155.out | apply IsS47.alloc | apply IsS47.drewN | apply IsS47.drew | apply IsS47.set_0 | apply IsS47.set_1) | exact HI155.out)) hb); have n1_ := Aside0.mk (below_step (by repeat (first | (with_reducible first | exact HB.out | apply below_alloc | apply pw_below_drewN | apply below_drew1 | refine below_set ?_ (IsS47.ge HI155.out)) | exact HB.out)) hb); clear HI155; clear HB; have HI155 := n0_; have HB := n1_; clear n0_ n1_; (try clear hb); (try clear hb2); (try clear hk); (try clear hi)))
                go_ret
                exact ⟨by first | rfl | (simp [errW_none, errW_some] <;> rfl) | (simp [*, errW_none, errW_some] <;> rfl), by repeat (first | (with_reducible first | exact HB.out | apply below_alloc | apply pw_below_drewN | apply below_drew1 | refine below_set ?_ (IsS47.ge HI155.out)) | exact HB.out)⟩
              · rw [if_neg c30] at H
                have c30b0 : decide ((IntKind.u64.wrap ((IntKind.u64.wrap ((IntKind.u64.wrap (t168)) - 1)) * 4294967296)) < t156) = false := decide_eq_false c30
                clear c30
                obtain rfl := Option.some.inj H
                go_wp2_with (first | ((with_reducible refine gate_callee (f := 11) rfl ?_); refine goesL_ (some 42) rfl rfl Try.func11 (by kernel_rfl) rfl #[.pointer (some ⟨g155, 0, none⟩)] rfl (by (try simp only [List.map_toArray, List.map_cons, List.map_nil]); first | done | rfl | (simp only [List.length_drop, List.length_take]; rfl)) ?_; (with_reducible refine (trip_Trip_Ticks.calls g155 x156000_6 x156001_6 t168 t169 t170 w _ ?side1 ?side2 A22.out).mono ?_); (case side1 => repeat (first | (with_reducible first | exact HI155.out | apply IsS47.alloc | apply IsS47.drewN | apply IsS47.drew | apply IsS47.set_0 | apply IsS47.set_1) | exact HI155.out)); (case side2 => repeat (first | (with_reducible first | exact HB.out | apply below_alloc | apply pw_below_drewN | apply below_drew1 | refine below_set ?_ (IsS47.ge HI155.out)) | exact HB.out)); rintro e w34 ⟨rfl, hi, hb, hk⟩; refine ⟨_, rfl, ?_⟩; have n0_ := Aside0.mk (hb); have n1_ := Aside0.mk (hi); clear HB; clear HI155; have HB := n0_; have HI155 := n1_; clear n0_ n1_; (try clear hb); (try clear hb2); (try clear hk); (try clear hi)))
                go_ret
                exact ⟨by first | rfl | (simp [errW_none, errW_some] <;> rfl) | (simp [*, errW_none, errW_some] <;> rfl), by repeat (first | (with_reducible first | exact HB.out | apply below_alloc | apply pw_below_drewN | apply below_drew1 | refine below_set ?_ (IsS47.ge HI155.out)) | exact HB.out)⟩
            · rw [if_neg c29] at H
              have c29b0 : ((IntKind.u64.wrap (t168)) == 4294967296) = false := beq_eq_false_iff_ne.mpr c29
              have c29b1 : ((IntKind.u64.wrap (t168)) != 4294967296) = true := bne_iff_ne.mpr c29
              obtain rfl := Option.some.inj H
              go_wp2_with (first | ((with_reducible refine gate_callee (f := 11) rfl ?_); refine goesL_ (some 42) rfl rfl Try.func11 (by kernel_rfl) rfl #[.pointer (some ⟨g155, 0, none⟩)] rfl (by (try simp only [List.map_toArray, List.map_cons, List.map_nil]); first | done | rfl | (simp only [List.length_drop, List.length_take]; rfl)) ?_; (with_reducible refine (trip_Trip_Ticks.calls g155 x156000_6 x156001_6 t168 t169 t170 w _ ?side1 ?side2 A22.out).mono ?_); (case side1 => repeat (first | (with_reducible first | exact HI155.out | apply IsS47.alloc | apply IsS47.drewN | apply IsS47.drew | apply IsS47.set_0 | apply IsS47.set_1) | exact HI155.out)); (case side2 => repeat (first | (with_reducible first | exact HB.out | apply below_alloc | apply pw_below_drewN | apply below_drew1 | refine below_set ?_ (IsS47.ge HI155.out)) | exact HB.out)); rintro e w35 ⟨rfl, hi, hb, hk⟩; refine ⟨_, rfl, ?_⟩; have n0_ := Aside0.mk (hb); have n1_ := Aside0.mk (hi); clear HB; clear HI155; have HB := n0_; have HI155 := n1_; clear n0_ n1_; (try clear hb); (try clear hb2); (try clear hk); (try clear hi)))
              go_ret
              exact ⟨by first | rfl | (simp [errW_none, errW_some] <;> rfl) | (simp [*, errW_none, errW_some] <;> rfl), by repeat (first | (with_reducible first | exact HB.out | apply below_alloc | apply pw_below_drewN | apply below_drew1 | refine below_set ?_ (IsS47.ge HI155.out)) | exact HB.out)⟩

def okS35 (x : S35) : Prop := ((Lit.int .i64 x.f0).wf = true) ∧ ((Lit.int .i64 x.f1).wf = true) ∧ ((Lit.int .i64 x.f2).wf = true)
/-- THE ONE PURE STATEMENT of terracelaw16_TripPlays. -/
def terracelaw16_TripPlays.Pure : Prop := ∀ (a0 : Int) (l1 : List (S35)), (Lit.int .u64 a0).wf = true → l1.length ≤ maxLen → (∀ y_ ∈ l1, okS35 y_) → ∃ k, terracelaw16_TripPlays.f k a0 l1 = some true

end Go.Proofs.Ytbcbmgdnkagmmaa.PTripPlays
