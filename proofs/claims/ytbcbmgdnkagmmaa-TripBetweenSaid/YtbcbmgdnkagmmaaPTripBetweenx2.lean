-- Written by ext.sh (the session's own program, over the kit's printer) out of the translation. Lean checks it.
import Derived.Test.YtbcbmgdnkagmmaaPTripBetweenx0
import Derived.Test.YtbcbmgdnkagmmaaPTripBetweenx1
namespace Go.Proofs.Ytbcbmgdnkagmmaa.PTripBetween
open Go.RowKit Go.Proofs.YtbcbmgdnkagmmaaW.PrintWords Go.Proofs.YtbcbmgdnkagmmaaW.PrintLast Go.Proofs.YtbcbmgdnkagmmaaW.PrintMore
attribute [local go_sem] max2_int min2_int max_two min_two max_three min_three max_four min_four   -- for this text's walks alone
set_option linter.unusedVariables false
set_option linter.unusedSimpArgs false

/-! ### terraceref16_Lasted: function 14 (told by hand) -/
def terraceref16_Lasted.good (x : Int) : Prop := 0 ≤ x ∧ x ≤ 1099511627776
instance (x : Int) : Decidable (terraceref16_Lasted.good x) := by unfold terraceref16_Lasted.good; infer_instance
def terraceref16_Lasted.f (a0 : Int) (a1 : Int) (a2 : Int) : Option (Int) := if terraceref16_Lasted.good a0 ∧ terraceref16_Lasted.good a1 ∧ terraceref16_Lasted.good a2 then (if wrap64 (wrap64 (a0 - a1) - a2) < 0 then some (-1) else if wrap64 (wrap64 (a0 - a1) - a2) > 1048576 then some (-1) else if wrap64 (wrap64 (a0 - a1) - a2) = 0 then some 1 else some (wrap64 (wrap64 (a0 - a1) - a2))) else some (-1)
set_option maxHeartbeats 8000000 in
set_option maxRecDepth 100000 in
theorem terraceref16_Lasted.calls (a0 : Int) (a1 : Int) (a2 : Int) (r : Int) (w : World) (h : terraceref16_Lasted.f a0 a1 a2 = some r) :
    Calls Try.prog 14 #[.int .i64 a0, .int .i64 a1, .int .i64 a2] w fun e w' => e = .returned (.int .i64 r) ∧ Below w.heap.size w w' := by
  have hu51 := Try.underlying51
  have HB := Below.refl w.heap.size w
  go_enter Try.func14, Try.ntmps14
  go_wp2
  go_loopg [8] 3 (fun kq v8 w' => ∃ i : Int, v8 = .int .i64 i ∧ (w'.cell? ⟨w.heap.size, 0, none⟩ = some (.int .i64 a0) ∧ w'.cell? ⟨w.heap.size, 1, none⟩ = some (.int .i64 a1) ∧ w'.cell? ⟨w.heap.size, 2, none⟩ = some (.int .i64 a2)) ∧ Below w.heap.size w w' ∧ ((i = 0 ∧ kq = 3) ∨ (i = 1 ∧ kq = 2 ∧ terraceref16_Lasted.good a0) ∨ (i = 2 ∧ kq = 1 ∧ terraceref16_Lasted.good a0 ∧ terraceref16_Lasted.good a1) ∨ (i = 3 ∧ kq = 0 ∧ terraceref16_Lasted.good a0 ∧ terraceref16_Lasted.good a1 ∧ terraceref16_Lasted.good a2)))
  case atStart => exact ⟨0, rfl, by simp, below_alloc HB _, .inl ⟨rfl, rfl⟩⟩
  case round =>
    obtain ⟨i, rfl, ⟨e0, e1, e2⟩, HB2, hrel⟩ := hrel
    have step : ∀ x : Int, terraceref16_Lasted.good x ∨ decide (x < 0) = true ∨ (decide (x < 0) = false ∧ decide (x > 1099511627776) = true) := by
      intro x; unfold terraceref16_Lasted.good; simp; omega
    have bad : ∀ x : Int, decide (x < 0) = true ∨ decide (x > 1099511627776) = true → ¬terraceref16_Lasted.good x := by
      intro x; unfold terraceref16_Lasted.good; simp; omega
    rcases hrel with ⟨rfl, rfl⟩ | ⟨rfl, rfl, g0⟩ | ⟨rfl, rfl, g0, g1⟩ | ⟨rfl, rfl, g0, g1, g2⟩
    · rcases step a0 with g | g | ⟨g, g'⟩
      · have d1 : decide (a0 < 0) = false := by simpa using g.1
        have d2 : decide (a0 > 1099511627776) = false := by simpa using g.2
        go_wp2
        go_roundg 2
        case measure => decide
        case rel => exact ⟨1, rfl, ⟨e0, e1, e2⟩, HB2, .inr (.inl ⟨rfl, rfl, g⟩)⟩
      · have hb := bad a0 (.inl g)
        unfold terraceref16_Lasted.f at h
        rw [if_neg (fun hh => hb hh.1)] at h
        obtain rfl := Option.some.inj h
        go_wp2
        go_ret
        exact ⟨rfl, HB2⟩
      · have hb := bad a0 (.inr g')
        unfold terraceref16_Lasted.f at h
        rw [if_neg (fun hh => hb hh.1)] at h
        obtain rfl := Option.some.inj h
        go_wp2
        go_ret
        exact ⟨rfl, HB2⟩
    · rcases step a1 with g | g | ⟨g, g'⟩
      · have d1 : decide (a1 < 0) = false := by simpa using g.1
        have d2 : decide (a1 > 1099511627776) = false := by simpa using g.2
        go_wp2
        go_roundg 1
        case measure => decide
        case rel => exact ⟨2, rfl, ⟨e0, e1, e2⟩, HB2, .inr (.inr (.inl ⟨rfl, rfl, g0, g⟩))⟩
      · have hb := bad a1 (.inl g)
        unfold terraceref16_Lasted.f at h
        rw [if_neg (fun hh => hb hh.2.1)] at h
        obtain rfl := Option.some.inj h
        go_wp2
        go_ret
        exact ⟨rfl, HB2⟩
      · have hb := bad a1 (.inr g')
        unfold terraceref16_Lasted.f at h
        rw [if_neg (fun hh => hb hh.2.1)] at h
        obtain rfl := Option.some.inj h
        go_wp2
        go_ret
        exact ⟨rfl, HB2⟩
    · rcases step a2 with g | g | ⟨g, g'⟩
      · have d1 : decide (a2 < 0) = false := by simpa using g.1
        have d2 : decide (a2 > 1099511627776) = false := by simpa using g.2
        go_wp2
        go_roundg 0
        case measure => decide
        case rel => exact ⟨3, rfl, ⟨e0, e1, e2⟩, HB2, .inr (.inr (.inr ⟨rfl, rfl, g0, g1, g⟩))⟩
      · have hb := bad a2 (.inl g)
        unfold terraceref16_Lasted.f at h
        rw [if_neg (fun hh => hb hh.2.2)] at h
        obtain rfl := Option.some.inj h
        go_wp2
        go_ret
        exact ⟨rfl, HB2⟩
      · have hb := bad a2 (.inr g')
        unfold terraceref16_Lasted.f at h
        rw [if_neg (fun hh => hb hh.2.2)] at h
        obtain rfl := Option.some.inj h
        go_wp2
        go_ret
        exact ⟨rfl, HB2⟩
    · unfold terraceref16_Lasted.f at h
      rw [if_pos ⟨g0, g1, g2⟩] at h
      by_cases h1 : wrap64 (wrap64 (a0 - a1) - a2) < 0
      · have d1 : decide (wrap64 (wrap64 (a0 - a1) - a2) < 0) = true := decide_eq_true h1
        rw [if_pos h1] at h
        obtain rfl := Option.some.inj h
        go_wp2
        go_ret
        exact ⟨rfl, HB2⟩
      · have d1 : decide (wrap64 (wrap64 (a0 - a1) - a2) < 0) = false := decide_eq_false h1
        rw [if_neg h1] at h
        by_cases h2 : wrap64 (wrap64 (a0 - a1) - a2) > 1048576
        · have d2 : decide (wrap64 (wrap64 (a0 - a1) - a2) > 1048576) = true := decide_eq_true h2
          rw [if_pos h2] at h
          obtain rfl := Option.some.inj h
          go_wp2
          go_ret
          exact ⟨rfl, HB2⟩
        · have d2 : decide (wrap64 (wrap64 (a0 - a1) - a2) > 1048576) = false := decide_eq_false h2
          rw [if_neg h2] at h
          by_cases h3 : wrap64 (wrap64 (a0 - a1) - a2) = 0
          · have d3 : (wrap64 (wrap64 (a0 - a1) - a2) == 0) = true := beq_iff_eq.mpr h3
            rw [if_pos h3] at h
            obtain rfl := Option.some.inj h
            go_wp2
            go_ret
            exact ⟨rfl, HB2⟩
          · have d3 : (wrap64 (wrap64 (a0 - a1) - a2) == 0) = false := beq_eq_false_iff_ne.mpr h3
            rw [if_neg h3] at h
            obtain rfl := Option.some.inj h
            go_wp2
            go_ret
            exact ⟨rfl, HB2⟩

/-! ### terracelaw16_TripBetween: function 4 -/
def terracelaw16_TripBetween.l0 : Nat → List (S35) → Int → Int → List (S35) → Int → Int → Int → Int → Option (Bool)
  | 0, _, _, _, _, _, _, _, _ => none
  | k + 1, x1, x6, x7, x19, x20, x21, x146000, x146001 => if x21 < x20 then (if 0 ≤ x21 then (if x21 < (x19.length : Int) then ((trip_Trip_Sample.f k x146000 x146001 ((rd_T35 x19 x21).f0) ((rd_T35 x19 x21).f1) ((rd_T35 x19 x21).f2)).bind fun bt149 => (if bt149.1 = 0 then ((terraceref16_Lasted.f ((rd_T35 x19 x21).f0) ((rd_T35 x19 x21).f1) ((rd_T35 x19 x21).f2)).bind fun t152 => ((trip_Trip_Get.f bt149.2.1 bt149.2.2).bind fun bt153 => (if bt153.1 < 4294967296 then (some false) else ((trip_Trip_Get.f bt153.2.1 bt153.2.2).bind fun bt156 => ((fix_F_Add.f bt156.1 (IntKind.u64.wrap ((x1.length : Int)))).bind fun t159 => ((fix_Of.f ((mn x6 t152) % 4294967296)).bind fun t160 => (if t159 < t160 then (some false) else ((trip_Trip_Get.f bt156.2.1 bt156.2.2).bind fun bt161 => ((fix_Of.f ((mx x7 t152) % 4294967296)).bind fun t164 => ((fix_F_Add.f t164 (IntKind.u64.wrap ((x1.length : Int)))).bind fun t165 => (if bt161.1 > t165 then (some false) else (terracelaw16_TripBetween.l0 k x1 (mn x6 t152) (mx x7 t152) x19 x20 (wrap64 (x21 + 1)) bt161.2.1 bt161.2.2)))))))))))) else (terracelaw16_TripBetween.l0 k x1 x6 x7 x19 x20 (wrap64 (x21 + 1)) bt149.2.1 bt149.2.2))) else (none)) else (none)) else ((terracelaw16_awake.f k).bind fun t146 => (some t146))
def terracelaw16_TripBetween.f (k : Nat) (a0 : Int) (l1 : List (S35)) : Option (Bool) := if (l1.length : Int) > 80 then ((terracelaw16_awake.f k).bind fun t142 => (some t142)) else ((trip_New.f a0).bind fun bt143 => (terracelaw16_TripBetween.l0 k l1 1073741824 0 l1 (l1.length : Int) 0 bt143.1 bt143.2))
theorem terracelaw16_TripBetween.mono_l : ∀ k, (∀ y0 y1 y2 y3 y4 y5 y6 y7, LeO (terracelaw16_TripBetween.l0 k y0 y1 y2 y3 y4 y5 y6 y7) (terracelaw16_TripBetween.l0 (k + 1) y0 y1 y2 y3 y4 y5 y6 y7))
  | 0 => fun _ _ _ _ _ _ _ _ r h => by simp [terracelaw16_TripBetween.l0] at h
  | k + 1 => by
    have ih0 := terracelaw16_TripBetween.mono_l k
    · intro y0 y1 y2 y3 y4 y5 y6 y7
      unfold terracelaw16_TripBetween.l0
      repeat' first
      | (with_reducible exact ih0 _ _ _ _ _ _ _ _)
      | (with_reducible exact terracelaw16_awake.mono _)
      | (with_reducible exact trip_Trip_Sample.mono _ _ _ _ _ _)
      | (with_reducible exact LeO.refl _)
      | (with_reducible exact LeO.none _)
      | (with_reducible refine LeO.ite ?_ ?_)
      | (with_reducible refine LeO.bind ?_ (fun _ => ?_))
      | exact ih0 _ _ _ _ _ _ _ _
      | exact terracelaw16_awake.mono _
      | exact trip_Trip_Sample.mono _ _ _ _ _ _
      | exact LeO.none _
      | refine LeO.ite ?_ ?_
      | refine LeO.bind ?_ (fun _ => ?_)
theorem terracelaw16_TripBetween.mono : ∀ a0 a1 k, LeO (terracelaw16_TripBetween.f k a0 a1) (terracelaw16_TripBetween.f (k + 1) a0 a1) := by
  intro a0 a1 k
  have ih0 := terracelaw16_TripBetween.mono_l k
  unfold terracelaw16_TripBetween.f
  repeat' first
      | (with_reducible exact ih0 _ _ _ _ _ _ _ _)
      | (with_reducible exact terracelaw16_awake.mono _)
      | (with_reducible exact trip_Trip_Sample.mono _ _ _ _ _ _)
      | (with_reducible exact LeO.refl _)
      | (with_reducible exact LeO.none _)
      | (with_reducible refine LeO.ite ?_ ?_)
      | (with_reducible refine LeO.bind ?_ (fun _ => ?_))
      | exact ih0 _ _ _ _ _ _ _ _
      | exact terracelaw16_awake.mono _
      | exact trip_Trip_Sample.mono _ _ _ _ _ _
      | exact LeO.none _
      | refine LeO.ite ?_ ?_
      | refine LeO.bind ?_ (fun _ => ?_)
set_option maxHeartbeats 8000000 in
set_option maxRecDepth 100000 in
theorem terracelaw16_TripBetween.calls (k : Nat) (a0 : Int) (A1 : Option Addr) (c1 : Nat) (l1 : List (S35)) (r : Bool) (w : World) (hr1 : Kd.C k35 w A1 l1.length l1) (hc1 : l1.length ≤ c1) (h : terracelaw16_TripBetween.f k a0 l1 = some r) :
    Calls Try.prog 4 #[.int .u64 a0, .slice A1 l1.length c1] w fun e w' => e = .returned (.bool r) ∧ Below w.heap.size w w' := by
  have hu35 := Try.underlying35
  have hup26 := Try.underlying26
  have HR1 := Aside0.mk hr1
  have HC1 := Aside0.mk hc1
  clear hr1 hc1
  have HB := Aside0.mk (Below.refl w.heap.size w)
  have H : (if (l1.length : Int) > 80 then ((terracelaw16_awake.f k).bind fun t142 => (some t142)) else ((trip_New.f a0).bind fun bt143 => (terracelaw16_TripBetween.l0 k l1 1073741824 0 l1 (l1.length : Int) 0 bt143.1 bt143.2))) = some r := h
  clear h
  by_cases c3 : (l1.length : Int) > 80
  · rw [if_pos c3] at H
    have c3b0 : decide (80 < (l1.length : Int)) = true := decide_eq_true c3
    have c3b1 : decide (80 < l1.length) = true := decide_eq_true (by omega)
    clear c3
    replace H := Option.bind_eq_some_iff.mp H
    obtain ⟨t142, A40, H⟩ := H
    replace H : (some t142) = some r := H
    have A4 := Aside0.mk A40
    clear A40
    obtain rfl := Option.some.inj H
    go_enter Try.func4, Try.ntmps4
    go_wp2_with (first | ((with_reducible refine gate_callee (f := 7) rfl ?_); refine goesL_ (some 14) rfl rfl Try.func7 (by kernel_rfl) rfl #[] rfl (by (try simp only [List.map_toArray, List.map_cons, List.map_nil]); first | done | rfl | (simp only [List.length_drop, List.length_take]; rfl)) ?_; (with_reducible refine (terracelaw16_awake.calls k  t142 _ A4.out).mono ?_); rintro e w5 ⟨rfl, hb⟩; refine ⟨_, rfl, ?_⟩; have n0_ := Aside0.mk (below_step (by repeat (first | (with_reducible first | exact HB.out | apply below_alloc | apply pw_below_drewN | apply below_drew1) | exact HB.out)) hb); clear HB; have HB := n0_; clear n0_; (try clear hb); (try clear hb2); (try clear hk); (try clear hi)))
    go_ret
    exact ⟨by first | rfl | (simp [errW_none, errW_some] <;> rfl) | (simp [*, errW_none, errW_some] <;> rfl), by repeat (first | (with_reducible first | exact HB.out | apply below_alloc | apply pw_below_drewN | apply below_drew1) | exact HB.out)⟩
  · rw [if_neg c3] at H
    have c3b0 : decide (80 < (l1.length : Int)) = false := decide_eq_false c3
    have c3b1 : decide (80 < l1.length) = false := decide_eq_false (by omega)
    clear c3
    replace H := Option.bind_eq_some_iff.mp H
    obtain ⟨⟨t143, t144⟩, A60, H⟩ := H
    replace H : (terracelaw16_TripBetween.l0 k l1 1073741824 0 l1 (l1.length : Int) 0 t143 t144) = some r := H
    have A6 := Aside0.mk A60
    clear A60
    have H' := Aside0.mk H
    clear H
    go_enter Try.func4, Try.ntmps4
    go_wp2_with (first | ((with_reducible refine gate_callee (f := 12) rfl ?_); refine goesL_ (some 16) rfl rfl Try.func12 (by kernel_rfl) rfl #[.int .u64 a0] rfl (by (try simp only [List.map_toArray, List.map_cons, List.map_nil]); first | done | rfl | (simp only [List.length_drop, List.length_take]; rfl)) ?_; (with_reducible refine (trip_New.calls a0 t143 t144 _ A6.out).mono ?_); rintro e w7 ⟨g145, rfl, hi0, hb2⟩; refine ⟨_, rfl, ?_⟩; have hi : IsS47 w w7 g145 t143 t144 := ⟨hi0.1, Nat.le_trans (below_size (by repeat (first | (with_reducible first | exact HB.out | apply below_alloc | apply pw_below_drewN | apply below_drew1) | exact HB.out))) hi0.2⟩; have hb := below_step (by repeat (first | (with_reducible first | exact HB.out | apply below_alloc | apply pw_below_drewN | apply below_drew1) | exact HB.out)) hb2; have n0_ := Aside0.mk (hb); have n1_ := Aside0.mk (hi); clear HB; have HB := n0_; have HI145 := n1_; clear n0_ n1_; (try clear hb); (try clear hb2); (try clear hk); (try clear hi)))
    go_loopg [6, 7, 21] k (fun kq v6 v7 v21 w' => ∃ (x6_1 : Int) (x7_1 : Int) (x21_1 : Int) (x146000_1 : Int) (x146001_1 : Int), v6 = .int .i64 x6_1 ∧ v7 = .int .i64 x7_1 ∧ v21 = .int .i64 x21_1 ∧ Aside0 (terracelaw16_TripBetween.l0 kq l1 x6_1 x7_1 l1 (l1.length : Int) x21_1 x146000_1 x146001_1 = some r) ∧ Aside0 (kq ≤ k) ∧ Aside0 (IsS47 w w' g145 x146000_1 x146001_1) ∧ Aside0 (Below w.heap.size w w'))
    case atStart => exact ⟨(1073741824), (0), (0), (t143), (t144), (by first | rfl | (simp; done) | (simp [*]; done)), (by first | rfl | (simp; done) | (simp [*]; done)), (by first | rfl | (simp; done) | (simp [*]; done)), H', ⟨Nat.le_refl _⟩, ⟨by repeat (first | (with_reducible first | exact HI145.out | apply IsS47.alloc | apply IsS47.drewN | apply IsS47.drew | apply IsS47.set_0 | apply IsS47.set_1) | exact HI145.out)⟩, ⟨by repeat (first | (with_reducible first | exact HB.out | apply below_alloc | apply pw_below_drewN | apply below_drew1 | refine below_set ?_ (IsS47.ge HI145.out)) | exact HB.out)⟩⟩
    case round =>
      clear H'
      try clear c1
      try clear p2
      try clear c3
      try clear c3b0
      try clear c3b1
      try clear c4
      try clear c7
      obtain ⟨x6_1, x7_1, x21_1, x146000_1, x146001_1, rfl, rfl, rfl, HA, HK1, HI145, HB⟩ := hrel
      cases gk with
      | zero => exact absurd HA.out (by simp [terracelaw16_TripBetween.l0])
      | succ k1 =>
        have H := HA.out
        clear HA
        simp only [terracelaw16_TripBetween.l0] at H
        by_cases c8 : x21_1 < (l1.length : Int)
        · rw [if_pos c8] at H
          have c8b0 : decide (x21_1 < (l1.length : Int)) = true := decide_eq_true c8
          clear c8
          by_cases c9 : 0 ≤ x21_1
          · rw [if_pos c9] at H
            have c9b0 : decide (0 ≤ x21_1) = true := decide_eq_true c9
            clear c9
            by_cases c10 : x21_1 < (l1.length : Int)
            · rw [if_pos c10] at H
              have c10b0 : decide (x21_1 < (l1.length : Int)) = true := decide_eq_true c10
              clear c10
              replace H := Option.bind_eq_some_iff.mp H
              obtain ⟨⟨t149, t150, t151⟩, A110, H⟩ := H
              replace H : (if t149 = 0 then ((terraceref16_Lasted.f ((rd_T35 l1 x21_1).f0) ((rd_T35 l1 x21_1).f1) ((rd_T35 l1 x21_1).f2)).bind fun t152 => ((trip_Trip_Get.f t150 t151).bind fun bt153 => (if bt153.1 < 4294967296 then (some false) else ((trip_Trip_Get.f bt153.2.1 bt153.2.2).bind fun bt156 => ((fix_F_Add.f bt156.1 (IntKind.u64.wrap ((l1.length : Int)))).bind fun t159 => ((fix_Of.f ((mn x6_1 t152) % 4294967296)).bind fun t160 => (if t159 < t160 then (some false) else ((trip_Trip_Get.f bt156.2.1 bt156.2.2).bind fun bt161 => ((fix_Of.f ((mx x7_1 t152) % 4294967296)).bind fun t164 => ((fix_F_Add.f t164 (IntKind.u64.wrap ((l1.length : Int)))).bind fun t165 => (if bt161.1 > t165 then (some false) else (terracelaw16_TripBetween.l0 k1 l1 (mn x6_1 t152) (mx x7_1 t152) l1 (l1.length : Int) (wrap64 (x21_1 + 1)) bt161.2.1 bt161.2.2)))))))))))) else (terracelaw16_TripBetween.l0 k1 l1 x6_1 x7_1 l1 (l1.length : Int) (wrap64 (x21_1 + 1)) t150 t151)) = some r := H
              have A11 := Aside0.mk A110
              clear A110
              by_cases c12 : t149 = 0
              · rw [if_pos c12] at H
                have c12b0 : (t149 == 0) = true := beq_iff_eq.mpr c12
                have c12b1 : (t149 != 0) = false := bne_eq_false_iff_eq.mpr c12
                clear c12
                replace H := Option.bind_eq_some_iff.mp H
                obtain ⟨t152, A130, H⟩ := H
                replace H : ((trip_Trip_Get.f t150 t151).bind fun bt153 => (if bt153.1 < 4294967296 then (some false) else ((trip_Trip_Get.f bt153.2.1 bt153.2.2).bind fun bt156 => ((fix_F_Add.f bt156.1 (IntKind.u64.wrap ((l1.length : Int)))).bind fun t159 => ((fix_Of.f ((mn x6_1 t152) % 4294967296)).bind fun t160 => (if t159 < t160 then (some false) else ((trip_Trip_Get.f bt156.2.1 bt156.2.2).bind fun bt161 => ((fix_Of.f ((mx x7_1 t152) % 4294967296)).bind fun t164 => ((fix_F_Add.f t164 (IntKind.u64.wrap ((l1.length : Int)))).bind fun t165 => (if bt161.1 > t165 then (some false) else (terracelaw16_TripBetween.l0 k1 l1 (mn x6_1 t152) (mx x7_1 t152) l1 (l1.length : Int) (wrap64 (x21_1 + 1)) bt161.2.1 bt161.2.2))))))))))) = some r := H
                have A13 := Aside0.mk A130
                clear A130
                obtain ⟨ji14, hji14⟩ : ∃ j_ : Int, (mn x6_1 t152) = j_ := ⟨_, rfl⟩
                replace H : ((trip_Trip_Get.f t150 t151).bind fun bt153 => (if bt153.1 < 4294967296 then (some false) else ((trip_Trip_Get.f bt153.2.1 bt153.2.2).bind fun bt156 => ((fix_F_Add.f bt156.1 (IntKind.u64.wrap ((l1.length : Int)))).bind fun t159 => ((fix_Of.f ((ji14) % 4294967296)).bind fun t160 => (if t159 < t160 then (some false) else ((trip_Trip_Get.f bt156.2.1 bt156.2.2).bind fun bt161 => ((fix_Of.f ((mx x7_1 t152) % 4294967296)).bind fun t164 => ((fix_F_Add.f t164 (IntKind.u64.wrap ((l1.length : Int)))).bind fun t165 => (if bt161.1 > t165 then (some false) else (terracelaw16_TripBetween.l0 k1 l1 ji14 (mx x7_1 t152) l1 (l1.length : Int) (wrap64 (x21_1 + 1)) bt161.2.1 bt161.2.2))))))))))) = some r := by first | (rw [hji14] at H; exact H) | (simp only [hji14] at H ⊢; exact H)
                (try rw [hji14] at A11)
                (try rw [hji14] at A13)
                have hji14_ : (if t152 < x6_1 then t152 else x6_1) = ji14 := hji14
                obtain ⟨ji15, hji15⟩ : ∃ j_ : Int, (mx x7_1 t152) = j_ := ⟨_, rfl⟩
                replace H : ((trip_Trip_Get.f t150 t151).bind fun bt153 => (if bt153.1 < 4294967296 then (some false) else ((trip_Trip_Get.f bt153.2.1 bt153.2.2).bind fun bt156 => ((fix_F_Add.f bt156.1 (IntKind.u64.wrap ((l1.length : Int)))).bind fun t159 => ((fix_Of.f ((ji14) % 4294967296)).bind fun t160 => (if t159 < t160 then (some false) else ((trip_Trip_Get.f bt156.2.1 bt156.2.2).bind fun bt161 => ((fix_Of.f ((ji15) % 4294967296)).bind fun t164 => ((fix_F_Add.f t164 (IntKind.u64.wrap ((l1.length : Int)))).bind fun t165 => (if bt161.1 > t165 then (some false) else (terracelaw16_TripBetween.l0 k1 l1 ji14 ji15 l1 (l1.length : Int) (wrap64 (x21_1 + 1)) bt161.2.1 bt161.2.2))))))))))) = some r := by first | (rw [hji15] at H; exact H) | (simp only [hji15] at H ⊢; exact H)
                (try rw [hji15] at A11)
                (try rw [hji15] at A13)
                have hji15_ : (if x7_1 < t152 then t152 else x7_1) = ji15 := hji15
                replace H := Option.bind_eq_some_iff.mp H
                obtain ⟨⟨t153, t154, t155⟩, A160, H⟩ := H
                replace H : (if t153 < 4294967296 then (some false) else ((trip_Trip_Get.f t154 t155).bind fun bt156 => ((fix_F_Add.f bt156.1 (IntKind.u64.wrap ((l1.length : Int)))).bind fun t159 => ((fix_Of.f ((ji14) % 4294967296)).bind fun t160 => (if t159 < t160 then (some false) else ((trip_Trip_Get.f bt156.2.1 bt156.2.2).bind fun bt161 => ((fix_Of.f ((ji15) % 4294967296)).bind fun t164 => ((fix_F_Add.f t164 (IntKind.u64.wrap ((l1.length : Int)))).bind fun t165 => (if bt161.1 > t165 then (some false) else (terracelaw16_TripBetween.l0 k1 l1 ji14 ji15 l1 (l1.length : Int) (wrap64 (x21_1 + 1)) bt161.2.1 bt161.2.2)))))))))) = some r := H
                have A16 := Aside0.mk A160
                clear A160
                by_cases c17 : t153 < 4294967296
                · rw [if_pos c17] at H
                  have c17b0 : decide (t153 < 4294967296) = true := decide_eq_true c17
                  clear c17
                  obtain rfl := Option.some.inj H
                  have p147 : 0 ≤ (x21_1 : Int) := of_decide_eq_true (by first | (with_reducible assumption) | assumption)
                  have q147 : x21_1 < (l1.length : Int) := of_decide_eq_true (by first | (with_reducible assumption) | assumption)
                  obtain ⟨ad147, e147, hx147_0, hx147_1, hx147_2⟩ := at_T35 HR1.out x21_1 p147 q147
                  cases e147
                  replace hx147_0 := (HB.out.cell (World.block_lt_of_cell? w _ hx147_0)).trans hx147_0
                  replace hx147_1 := (HB.out.cell (World.block_lt_of_cell? w _ hx147_1)).trans hx147_1
                  replace hx147_2 := (HB.out.cell (World.block_lt_of_cell? w _ hx147_2)).trans hx147_2
                  replace p147 := eq_true p147
                  replace q147 := eq_true q147
                  go_wp2_with (first | ((with_reducible refine gate_dst (N := 9) rfl ?_); (try (refine gate_guard (by rfl) ?_; dsimp only)); refine box_event ?hg (N := 9) ?hd (cs := #[.int .i64 0, .int .i64 0, .int .i64 0]) (t := 35) ?hr ?_; (case hd => rfl); (case hg => rfl); (case hr => first | (go_simp; done) | (go_simp; rfl)); intro gb148 hg w18 hbox hb; have n0_ := Aside0.mk (IsS47.below (by repeat (first | (with_reducible first | exact HI145.out | apply IsS47.alloc | apply IsS47.drewN | apply IsS47.drew | apply IsS47.set_0 | apply IsS47.set_1) | exact HI145.out)) hb); have n1_ := Aside0.mk (below_step (by repeat (first | (with_reducible first | exact HB.out | apply below_alloc | apply pw_below_drewN | apply below_drew1 | refine below_set ?_ (IsS47.ge HI145.out)) | exact HB.out)) hb); have n2_ := Aside0.mk (hbox); have n3_ := Aside0.mk ((by rw [hg]; exact (below_size (by repeat (first | (with_reducible first | exact HB.out | apply below_alloc | apply pw_below_drewN | apply below_drew1 | refine below_set ?_ (IsS47.ge HI145.out)) | exact HB.out))) : w.heap.size ≤ gb148)); have n4_ := Aside0.mk ((by rw [hg]; exact (below_size (by repeat (first | (with_reducible first | exact HB.out | apply below_alloc | apply pw_below_drewN | apply below_drew1 | refine below_set ?_ (IsS47.ge HI145.out)) | exact HB.out))) : w.heap.size ≤ gb148)); have n5_ := Aside0.mk ((by rw [hg]; exact Nat.ne_of_lt (IsS47.lt (show IsS47 w _ g145 x146000_1 x146001_1 from by repeat (first | (with_reducible first | exact HI145.out | apply IsS47.alloc | apply IsS47.drewN | apply IsS47.drew | apply IsS47.set_0 | apply IsS47.set_1) | exact HI145.out))) : g145 ≠ gb148)); have n6_ := Aside0.mk ((by rw [hg]; exact Nat.ne_of_gt (IsS47.lt (show IsS47 w _ g145 x146000_1 x146001_1 from by repeat (first | (with_reducible first | exact HI145.out | apply IsS47.alloc | apply IsS47.drewN | apply IsS47.drew | apply IsS47.set_0 | apply IsS47.set_1) | exact HI145.out))) : gb148 ≠ g145)); clear HI145; clear HB; have HI145 := n0_; have HB := n1_; have BK148 := n2_; have GW148 := n3_; have GE148 := n4_; have NB145_148 := n5_; have NB148_145 := n6_; clear n0_ n1_ n2_ n3_ n4_ n5_ n6_; clear hb hbox hg; have hnb19 := NB148_145.out; have hnc19 := NB145_148.out; have hcz20_0 : w18.cell? ⟨gb148, 0, none⟩ = some (.int .i64 0) := (blk_cell BK148.out 0).trans rfl; have hcz20_1 : w18.cell? ⟨gb148, 1, none⟩ = some (.int .i64 0) := (blk_cell BK148.out 1).trans rfl; have hcz20_2 : w18.cell? ⟨gb148, 2, none⟩ = some (.int .i64 0) := (blk_cell BK148.out 2).trans rfl; have hfz20_0 := blk_frozen BK148.out 0; have hfz20_1 := blk_frozen BK148.out 1; have hfz20_2 := blk_frozen BK148.out 2) | ((with_reducible refine gate_callee (f := 13) rfl ?_); refine goesL_ (some 32) rfl rfl Try.func13 (by kernel_rfl) rfl #[.pointer (some ⟨g145, 0, none⟩), .int .i64 ((rd_T35 l1 x21_1).f0), .int .i64 ((rd_T35 l1 x21_1).f1), .int .i64 ((rd_T35 l1 x21_1).f2)] rfl (by (try simp only [List.map_toArray, List.map_cons, List.map_nil]); first | done | rfl | (simp only [List.length_drop, List.length_take]; rfl)) ?_; (with_reducible refine (trip_Trip_Sample.calls k1 g145 x146000_1 x146001_1 ((rd_T35 l1 x21_1).f0) ((rd_T35 l1 x21_1).f1) ((rd_T35 l1 x21_1).f2) t149 t150 t151 w _ ?side1 ?side2 A11.out).mono ?_); (case side1 => repeat (first | (with_reducible first | exact HI145.out | apply IsS47.alloc | apply IsS47.drewN | apply IsS47.drew | apply IsS47.set_0 | apply IsS47.set_1 | refine IsS47.far ?_ NB145_148.out _) | exact HI145.out)); (case side2 => repeat (first | (with_reducible first | exact HB.out | apply below_alloc | apply pw_below_drewN | apply below_drew1 | refine below_set ?_ (IsS47.ge HI145.out) | refine below_set ?_ GE148.out) | exact HB.out)); rintro e w21 ⟨rfl, hi, hb, hk⟩; refine ⟨_, rfl, ?_⟩; have n0_ := Aside0.mk (KeepBut.blk hk (g' := gb148) (o := .cells #[.int .i64 ((rd_T35 l1 x21_1).f0), .int .i64 ((rd_T35 l1 x21_1).f1), .int .i64 ((rd_T35 l1 x21_1).f2)] 35 (0, 0)) (by (with_reducible repeat (first | refine blk_drewN ?_ _ | refine blk_drew ?_ | refine blk_alloc ?_ _)); refine blk_put (cs := #[.int .i64 ((rd_T35 l1 x21_1).f0), .int .i64 ((rd_T35 l1 x21_1).f1), .int .i64 0]) ?_ 2 _ rfl; (with_reducible repeat (first | refine blk_drewN ?_ _ | refine blk_drew ?_ | refine blk_alloc ?_ _)); refine blk_put (cs := #[.int .i64 ((rd_T35 l1 x21_1).f0), .int .i64 0, .int .i64 0]) ?_ 1 _ rfl; (with_reducible repeat (first | refine blk_drewN ?_ _ | refine blk_drew ?_ | refine blk_alloc ?_ _)); refine blk_put (cs := #[.int .i64 0, .int .i64 0, .int .i64 0]) ?_ 0 _ rfl; (with_reducible repeat (first | refine blk_drewN ?_ _ | refine blk_drew ?_ | refine blk_alloc ?_ _)); exact BK148.out) NB148_145.out (by simp)); have n1_ := Aside0.mk (hb); have n2_ := Aside0.mk (hi); clear BK148; clear HB; clear HI145; have BK148 := n0_; have HB := n1_; have HI145 := n2_; clear n0_ n1_ n2_; (try clear hb); (try clear hb2); (try clear hk); (try clear hi); have hcz22_0 : w21.cell? ⟨gb148, 0, none⟩ = some (.int .i64 ((rd_T35 l1 x21_1).f0)) := (blk_cell BK148.out 0).trans rfl; have hcz22_1 : w21.cell? ⟨gb148, 1, none⟩ = some (.int .i64 ((rd_T35 l1 x21_1).f1)) := (blk_cell BK148.out 1).trans rfl; have hcz22_2 : w21.cell? ⟨gb148, 2, none⟩ = some (.int .i64 ((rd_T35 l1 x21_1).f2)) := (blk_cell BK148.out 2).trans rfl; have hfz22_0 := blk_frozen BK148.out 0; have hfz22_1 := blk_frozen BK148.out 1; have hfz22_2 := blk_frozen BK148.out 2) | ((with_reducible refine gate_callee (f := 14) rfl ?_); refine goesL_ (some 40) rfl rfl Try.func14 (by kernel_rfl) rfl #[.int .i64 ((rd_T35 l1 x21_1).f0), .int .i64 ((rd_T35 l1 x21_1).f1), .int .i64 ((rd_T35 l1 x21_1).f2)] rfl (by (try simp only [List.map_toArray, List.map_cons, List.map_nil]); first | done | rfl | (simp only [List.length_drop, List.length_take]; rfl)) ?_; (with_reducible refine (terraceref16_Lasted.calls ((rd_T35 l1 x21_1).f0) ((rd_T35 l1 x21_1).f1) ((rd_T35 l1 x21_1).f2) t152 _ A13.out).mono ?_); rintro e w23 ⟨rfl, hb⟩; refine ⟨_, rfl, ?_⟩; have n0_ := Aside0.mk (IsS47.below (by repeat (first | (with_reducible first | exact HI145.out | apply IsS47.alloc | apply IsS47.drewN | apply IsS47.drew | apply IsS47.set_0 | apply IsS47.set_1 | refine IsS47.far ?_ NB145_148.out _) | exact HI145.out)) hb); have n1_ := Aside0.mk (blk_below (g := gb148) (o := .cells #[.int .i64 ((rd_T35 l1 x21_1).f0), .int .i64 ((rd_T35 l1 x21_1).f1), .int .i64 ((rd_T35 l1 x21_1).f2)] 35 (0, 0)) (by (with_reducible repeat (first | refine blk_drewN ?_ _ | refine blk_drew ?_ | refine blk_alloc ?_ _)); exact BK148.out) hb); have n2_ := Aside0.mk (below_step (by repeat (first | (with_reducible first | exact HB.out | apply below_alloc | apply pw_below_drewN | apply below_drew1 | refine below_set ?_ (IsS47.ge HI145.out) | refine below_set ?_ GE148.out) | exact HB.out)) hb); clear HI145; clear BK148; clear HB; have HI145 := n0_; have BK148 := n1_; have HB := n2_; clear n0_ n1_ n2_; (try clear hb); (try clear hb2); (try clear hk); (try clear hi)) | ((with_reducible refine gate_callee (f := 9) rfl ?_); refine goesL_ (some 48) rfl rfl Try.func9 (by kernel_rfl) rfl #[.pointer (some ⟨g145, 0, none⟩)] rfl (by (try simp only [List.map_toArray, List.map_cons, List.map_nil]); first | done | rfl | (simp only [List.length_drop, List.length_take]; rfl)) ?_; (with_reducible refine (trip_Trip_Get.calls g145 t150 t151 t153 t154 t155 w _ ?side1 ?side2 A16.out).mono ?_); (case side1 => repeat (first | (with_reducible first | exact HI145.out | apply IsS47.alloc | apply IsS47.drewN | apply IsS47.drew | apply IsS47.set_0 | apply IsS47.set_1 | refine IsS47.far ?_ NB145_148.out _) | exact HI145.out)); (case side2 => repeat (first | (with_reducible first | exact HB.out | apply below_alloc | apply pw_below_drewN | apply below_drew1 | refine below_set ?_ (IsS47.ge HI145.out) | refine below_set ?_ GE148.out) | exact HB.out)); rintro e w24 ⟨rfl, hi, hb, hk⟩; refine ⟨_, rfl, ?_⟩; have n0_ := Aside0.mk (KeepBut.blk hk (g' := gb148) (o := .cells #[.int .i64 ((rd_T35 l1 x21_1).f0), .int .i64 ((rd_T35 l1 x21_1).f1), .int .i64 ((rd_T35 l1 x21_1).f2)] 35 (0, 0)) (by (with_reducible repeat (first | refine blk_drewN ?_ _ | refine blk_drew ?_ | refine blk_alloc ?_ _)); exact BK148.out) NB148_145.out (by simp)); have n1_ := Aside0.mk (hb); have n2_ := Aside0.mk (hi); clear BK148; clear HB; clear HI145; have BK148 := n0_; have HB := n1_; have HI145 := n2_; clear n0_ n1_ n2_; (try clear hb); (try clear hb2); (try clear hk); (try clear hi)))
                  go_ret
                  exact ⟨by first | rfl | (simp [errW_none, errW_some] <;> rfl) | (simp only [← hji14, ← hji15]; first | rfl | (simp [errW_none, errW_some] <;> rfl)) | (simp [*, errW_none, errW_some] <;> rfl), by repeat (first | (with_reducible first | exact HB.out | apply below_alloc | apply pw_below_drewN | apply below_drew1 | refine below_set ?_ (IsS47.ge HI145.out) | refine below_set ?_ GE148.out) | exact HB.out)⟩
                · rw [if_neg c17] at H
                  have c17b0 : decide (t153 < 4294967296) = false := decide_eq_false c17
                  clear c17
                  replace H := Option.bind_eq_some_iff.mp H
                  obtain ⟨⟨t156, t157, t158⟩, A250, H⟩ := H
                  replace H : ((fix_F_Add.f t156 (IntKind.u64.wrap ((l1.length : Int)))).bind fun t159 => ((fix_Of.f ((ji14) % 4294967296)).bind fun t160 => (if t159 < t160 then (some false) else ((trip_Trip_Get.f t157 t158).bind fun bt161 => ((fix_Of.f ((ji15) % 4294967296)).bind fun t164 => ((fix_F_Add.f t164 (IntKind.u64.wrap ((l1.length : Int)))).bind fun t165 => (if bt161.1 > t165 then (some false) else (terracelaw16_TripBetween.l0 k1 l1 ji14 ji15 l1 (l1.length : Int) (wrap64 (x21_1 + 1)) bt161.2.1 bt161.2.2)))))))) = some r := H
                  have A25 := Aside0.mk A250
                  clear A250
                  replace H := Option.bind_eq_some_iff.mp H
                  obtain ⟨t159, A260, H⟩ := H
                  replace H : ((fix_Of.f ((ji14) % 4294967296)).bind fun t160 => (if t159 < t160 then (some false) else ((trip_Trip_Get.f t157 t158).bind fun bt161 => ((fix_Of.f ((ji15) % 4294967296)).bind fun t164 => ((fix_F_Add.f t164 (IntKind.u64.wrap ((l1.length : Int)))).bind fun t165 => (if bt161.1 > t165 then (some false) else (terracelaw16_TripBetween.l0 k1 l1 ji14 ji15 l1 (l1.length : Int) (wrap64 (x21_1 + 1)) bt161.2.1 bt161.2.2))))))) = some r := H
                  have A26 := Aside0.mk A260
                  clear A260
                  replace H := Option.bind_eq_some_iff.mp H
                  obtain ⟨t160, A270, H⟩ := H
                  replace H : (if t159 < t160 then (some false) else ((trip_Trip_Get.f t157 t158).bind fun bt161 => ((fix_Of.f ((ji15) % 4294967296)).bind fun t164 => ((fix_F_Add.f t164 (IntKind.u64.wrap ((l1.length : Int)))).bind fun t165 => (if bt161.1 > t165 then (some false) else (terracelaw16_TripBetween.l0 k1 l1 ji14 ji15 l1 (l1.length : Int) (wrap64 (x21_1 + 1)) bt161.2.1 bt161.2.2)))))) = some r := H
                  have A27 := Aside0.mk A270
                  clear A270
                  by_cases c28 : t159 < t160
                  · rw [if_pos c28] at H
                    have c28b0 : decide (t159 < t160) = true := decide_eq_true c28
                    clear c28
                    obtain rfl := Option.some.inj H
                    have p147 : 0 ≤ (x21_1 : Int) := of_decide_eq_true (by first | (with_reducible assumption) | assumption)
                    have q147 : x21_1 < (l1.length : Int) := of_decide_eq_true (by first | (with_reducible assumption) | assumption)
                    obtain ⟨ad147, e147, hx147_0, hx147_1, hx147_2⟩ := at_T35 HR1.out x21_1 p147 q147
                    cases e147
                    replace hx147_0 := (HB.out.cell (World.block_lt_of_cell? w _ hx147_0)).trans hx147_0
                    replace hx147_1 := (HB.out.cell (World.block_lt_of_cell? w _ hx147_1)).trans hx147_1
                    replace hx147_2 := (HB.out.cell (World.block_lt_of_cell? w _ hx147_2)).trans hx147_2
                    replace p147 := eq_true p147
                    replace q147 := eq_true q147
                    go_wp2_with (first | ((with_reducible refine gate_dst (N := 9) rfl ?_); (try (refine gate_guard (by rfl) ?_; dsimp only)); refine box_event ?hg (N := 9) ?hd (cs := #[.int .i64 0, .int .i64 0, .int .i64 0]) (t := 35) ?hr ?_; (case hd => rfl); (case hg => rfl); (case hr => first | (go_simp; done) | (go_simp; rfl)); intro gb148 hg w29 hbox hb; have n0_ := Aside0.mk (IsS47.below (by repeat (first | (with_reducible first | exact HI145.out | apply IsS47.alloc | apply IsS47.drewN | apply IsS47.drew | apply IsS47.set_0 | apply IsS47.set_1) | exact HI145.out)) hb); have n1_ := Aside0.mk (below_step (by repeat (first | (with_reducible first | exact HB.out | apply below_alloc | apply pw_below_drewN | apply below_drew1 | refine below_set ?_ (IsS47.ge HI145.out)) | exact HB.out)) hb); have n2_ := Aside0.mk (hbox); have n3_ := Aside0.mk ((by rw [hg]; exact (below_size (by repeat (first | (with_reducible first | exact HB.out | apply below_alloc | apply pw_below_drewN | apply below_drew1 | refine below_set ?_ (IsS47.ge HI145.out)) | exact HB.out))) : w.heap.size ≤ gb148)); have n4_ := Aside0.mk ((by rw [hg]; exact (below_size (by repeat (first | (with_reducible first | exact HB.out | apply below_alloc | apply pw_below_drewN | apply below_drew1 | refine below_set ?_ (IsS47.ge HI145.out)) | exact HB.out))) : w.heap.size ≤ gb148)); have n5_ := Aside0.mk ((by rw [hg]; exact Nat.ne_of_lt (IsS47.lt (show IsS47 w _ g145 x146000_1 x146001_1 from by repeat (first | (with_reducible first | exact HI145.out | apply IsS47.alloc | apply IsS47.drewN | apply IsS47.drew | apply IsS47.set_0 | apply IsS47.set_1) | exact HI145.out))) : g145 ≠ gb148)); have n6_ := Aside0.mk ((by rw [hg]; exact Nat.ne_of_gt (IsS47.lt (show IsS47 w _ g145 x146000_1 x146001_1 from by repeat (first | (with_reducible first | exact HI145.out | apply IsS47.alloc | apply IsS47.drewN | apply IsS47.drew | apply IsS47.set_0 | apply IsS47.set_1) | exact HI145.out))) : gb148 ≠ g145)); clear HI145; clear HB; have HI145 := n0_; have HB := n1_; have BK148 := n2_; have GW148 := n3_; have GE148 := n4_; have NB145_148 := n5_; have NB148_145 := n6_; clear n0_ n1_ n2_ n3_ n4_ n5_ n6_; clear hb hbox hg; have hnb30 := NB148_145.out; have hnc30 := NB145_148.out; have hcz31_0 : w29.cell? ⟨gb148, 0, none⟩ = some (.int .i64 0) := (blk_cell BK148.out 0).trans rfl; have hcz31_1 : w29.cell? ⟨gb148, 1, none⟩ = some (.int .i64 0) := (blk_cell BK148.out 1).trans rfl; have hcz31_2 : w29.cell? ⟨gb148, 2, none⟩ = some (.int .i64 0) := (blk_cell BK148.out 2).trans rfl; have hfz31_0 := blk_frozen BK148.out 0; have hfz31_1 := blk_frozen BK148.out 1; have hfz31_2 := blk_frozen BK148.out 2) | ((with_reducible refine gate_callee (f := 13) rfl ?_); refine goesL_ (some 32) rfl rfl Try.func13 (by kernel_rfl) rfl #[.pointer (some ⟨g145, 0, none⟩), .int .i64 ((rd_T35 l1 x21_1).f0), .int .i64 ((rd_T35 l1 x21_1).f1), .int .i64 ((rd_T35 l1 x21_1).f2)] rfl (by (try simp only [List.map_toArray, List.map_cons, List.map_nil]); first | done | rfl | (simp only [List.length_drop, List.length_take]; rfl)) ?_; (with_reducible refine (trip_Trip_Sample.calls k1 g145 x146000_1 x146001_1 ((rd_T35 l1 x21_1).f0) ((rd_T35 l1 x21_1).f1) ((rd_T35 l1 x21_1).f2) t149 t150 t151 w _ ?side1 ?side2 A11.out).mono ?_); (case side1 => repeat (first | (with_reducible first | exact HI145.out | apply IsS47.alloc | apply IsS47.drewN | apply IsS47.drew | apply IsS47.set_0 | apply IsS47.set_1 | refine IsS47.far ?_ NB145_148.out _) | exact HI145.out)); (case side2 => repeat (first | (with_reducible first | exact HB.out | apply below_alloc | apply pw_below_drewN | apply below_drew1 | refine below_set ?_ (IsS47.ge HI145.out) | refine below_set ?_ GE148.out) | exact HB.out)); rintro e w32 ⟨rfl, hi, hb, hk⟩; refine ⟨_, rfl, ?_⟩; have n0_ := Aside0.mk (KeepBut.blk hk (g' := gb148) (o := .cells #[.int .i64 ((rd_T35 l1 x21_1).f0), .int .i64 ((rd_T35 l1 x21_1).f1), .int .i64 ((rd_T35 l1 x21_1).f2)] 35 (0, 0)) (by (with_reducible repeat (first | refine blk_drewN ?_ _ | refine blk_drew ?_ | refine blk_alloc ?_ _)); refine blk_put (cs := #[.int .i64 ((rd_T35 l1 x21_1).f0), .int .i64 ((rd_T35 l1 x21_1).f1), .int .i64 0]) ?_ 2 _ rfl; (with_reducible repeat (first | refine blk_drewN ?_ _ | refine blk_drew ?_ | refine blk_alloc ?_ _)); refine blk_put (cs := #[.int .i64 ((rd_T35 l1 x21_1).f0), .int .i64 0, .int .i64 0]) ?_ 1 _ rfl; (with_reducible repeat (first | refine blk_drewN ?_ _ | refine blk_drew ?_ | refine blk_alloc ?_ _)); refine blk_put (cs := #[.int .i64 0, .int .i64 0, .int .i64 0]) ?_ 0 _ rfl; (with_reducible repeat (first | refine blk_drewN ?_ _ | refine blk_drew ?_ | refine blk_alloc ?_ _)); exact BK148.out) NB148_145.out (by simp)); have n1_ := Aside0.mk (hb); have n2_ := Aside0.mk (hi); clear BK148; clear HB; clear HI145; have BK148 := n0_; have HB := n1_; have HI145 := n2_; clear n0_ n1_ n2_; (try clear hb); (try clear hb2); (try clear hk); (try clear hi); have hcz33_0 : w32.cell? ⟨gb148, 0, none⟩ = some (.int .i64 ((rd_T35 l1 x21_1).f0)) := (blk_cell BK148.out 0).trans rfl; have hcz33_1 : w32.cell? ⟨gb148, 1, none⟩ = some (.int .i64 ((rd_T35 l1 x21_1).f1)) := (blk_cell BK148.out 1).trans rfl; have hcz33_2 : w32.cell? ⟨gb148, 2, none⟩ = some (.int .i64 ((rd_T35 l1 x21_1).f2)) := (blk_cell BK148.out 2).trans rfl; have hfz33_0 := blk_frozen BK148.out 0; have hfz33_1 := blk_frozen BK148.out 1; have hfz33_2 := blk_frozen BK148.out 2) | ((with_reducible refine gate_callee (f := 14) rfl ?_); refine goesL_ (some 40) rfl rfl Try.func14 (by kernel_rfl) rfl #[.int .i64 ((rd_T35 l1 x21_1).f0), .int .i64 ((rd_T35 l1 x21_1).f1), .int .i64 ((rd_T35 l1 x21_1).f2)] rfl (by (try simp only [List.map_toArray, List.map_cons, List.map_nil]); first | done | rfl | (simp only [List.length_drop, List.length_take]; rfl)) ?_; (with_reducible refine (terraceref16_Lasted.calls ((rd_T35 l1 x21_1).f0) ((rd_T35 l1 x21_1).f1) ((rd_T35 l1 x21_1).f2) t152 _ A13.out).mono ?_); rintro e w34 ⟨rfl, hb⟩; refine ⟨_, rfl, ?_⟩; have n0_ := Aside0.mk (IsS47.below (by repeat (first | (with_reducible first | exact HI145.out | apply IsS47.alloc | apply IsS47.drewN | apply IsS47.drew | apply IsS47.set_0 | apply IsS47.set_1 | refine IsS47.far ?_ NB145_148.out _) | exact HI145.out)) hb); have n1_ := Aside0.mk (blk_below (g := gb148) (o := .cells #[.int .i64 ((rd_T35 l1 x21_1).f0), .int .i64 ((rd_T35 l1 x21_1).f1), .int .i64 ((rd_T35 l1 x21_1).f2)] 35 (0, 0)) (by (with_reducible repeat (first | refine blk_drewN ?_ _ | refine blk_drew ?_ | refine blk_alloc ?_ _)); exact BK148.out) hb); have n2_ := Aside0.mk (below_step (by repeat (first | (with_reducible first | exact HB.out | apply below_alloc | apply pw_below_drewN | apply below_drew1 | refine below_set ?_ (IsS47.ge HI145.out) | refine below_set ?_ GE148.out) | exact HB.out)) hb); clear HI145; clear BK148; clear HB; have HI145 := n0_; have BK148 := n1_; have HB := n2_; clear n0_ n1_ n2_; (try clear hb); (try clear hb2); (try clear hk); (try clear hi)) | ((with_reducible refine gate_callee (f := 9) rfl ?_); refine goesL_ (some 48) rfl rfl Try.func9 (by kernel_rfl) rfl #[.pointer (some ⟨g145, 0, none⟩)] rfl (by (try simp only [List.map_toArray, List.map_cons, List.map_nil]); first | done | rfl | (simp only [List.length_drop, List.length_take]; rfl)) ?_; (with_reducible refine (trip_Trip_Get.calls g145 t150 t151 t153 t154 t155 w _ ?side1 ?side2 A16.out).mono ?_); (case side1 => repeat (first | (with_reducible first | exact HI145.out | apply IsS47.alloc | apply IsS47.drewN | apply IsS47.drew | apply IsS47.set_0 | apply IsS47.set_1 | refine IsS47.far ?_ NB145_148.out _) | exact HI145.out)); (case side2 => repeat (first | (with_reducible first | exact HB.out | apply below_alloc | apply pw_below_drewN | apply below_drew1 | refine below_set ?_ (IsS47.ge HI145.out) | refine below_set ?_ GE148.out) | exact HB.out)); rintro e w35 ⟨rfl, hi, hb, hk⟩; refine ⟨_, rfl, ?_⟩; have n0_ := Aside0.mk (KeepBut.blk hk (g' := gb148) (o := .cells #[.int .i64 ((rd_T35 l1 x21_1).f0), .int .i64 ((rd_T35 l1 x21_1).f1), .int .i64 ((rd_T35 l1 x21_1).f2)] 35 (0, 0)) (by (with_reducible repeat (first | refine blk_drewN ?_ _ | refine blk_drew ?_ | refine blk_alloc ?_ _)); exact BK148.out) NB148_145.out (by simp)); have n1_ := Aside0.mk (hb); have n2_ := Aside0.mk (hi); clear BK148; clear HB; clear HI145; have BK148 := n0_; have HB := n1_; have HI145 := n2_; clear n0_ n1_ n2_; (try clear hb); (try clear hb2); (try clear hk); (try clear hi)) | (go_at_call 9; (with_reducible refine (trip_Trip_Get.calls g145 t154 t155 t156 t157 t158 w _ ?side1 ?side2 A25.out).mono ?_); (case side1 => repeat (first | (with_reducible first | exact HI145.out | apply IsS47.alloc | apply IsS47.drewN | apply IsS47.drew | apply IsS47.set_0 | apply IsS47.set_1 | refine IsS47.far ?_ NB145_148.out _) | exact HI145.out)); (case side2 => repeat (first | (with_reducible first | exact HB.out | apply below_alloc | apply pw_below_drewN | apply below_drew1 | refine below_set ?_ (IsS47.ge HI145.out) | refine below_set ?_ GE148.out) | exact HB.out)); rintro e w36 ⟨rfl, hi, hb, hk⟩; have n0_ := Aside0.mk (KeepBut.blk hk (g' := gb148) (o := .cells #[.int .i64 ((rd_T35 l1 x21_1).f0), .int .i64 ((rd_T35 l1 x21_1).f1), .int .i64 ((rd_T35 l1 x21_1).f2)] 35 (0, 0)) (by (with_reducible repeat (first | refine blk_drewN ?_ _ | refine blk_drew ?_ | refine blk_alloc ?_ _)); exact BK148.out) NB148_145.out (by simp)); have n1_ := Aside0.mk (hb); have n2_ := Aside0.mk (hi); clear BK148; clear HB; clear HI145; have BK148 := n0_; have HB := n1_; have HI145 := n2_; clear n0_ n1_ n2_; (try clear hb); (try clear hb2); (try clear hk); (try clear hi)) | (go_at_call 15; (with_reducible refine (fix_F_Add.calls t156 (IntKind.u64.wrap ((l1.length : Int))) t159 _ A26.out).mono ?_); rintro e w' ⟨rfl, ⟨nd, rfl⟩⟩) | (go_at_call 16; (with_reducible refine (fix_Of.calls ((ji14) % 4294967296) t160 _ A27.out).mono ?_); rintro e w' ⟨rfl, ⟨nd, rfl⟩⟩))
                    go_ret
                    exact ⟨by first | rfl | (simp [errW_none, errW_some] <;> rfl) | (simp only [← hji14, ← hji15]; first | rfl | (simp [errW_none, errW_some] <;> rfl)) | (simp [*, errW_none, errW_some] <;> rfl), by repeat (first | (with_reducible first | exact HB.out | apply below_alloc | apply pw_below_drewN | apply below_drew1 | refine below_set ?_ (IsS47.ge HI145.out) | refine below_set ?_ GE148.out) | exact HB.out)⟩
                  · rw [if_neg c28] at H
                    have c28b0 : decide (t159 < t160) = false := decide_eq_false c28
                    clear c28
                    replace H := Option.bind_eq_some_iff.mp H
                    obtain ⟨⟨t161, t162, t163⟩, A370, H⟩ := H
                    replace H : ((fix_Of.f ((ji15) % 4294967296)).bind fun t164 => ((fix_F_Add.f t164 (IntKind.u64.wrap ((l1.length : Int)))).bind fun t165 => (if t161 > t165 then (some false) else (terracelaw16_TripBetween.l0 k1 l1 ji14 ji15 l1 (l1.length : Int) (wrap64 (x21_1 + 1)) t162 t163)))) = some r := H
                    have A37 := Aside0.mk A370
                    clear A370
                    replace H := Option.bind_eq_some_iff.mp H
                    obtain ⟨t164, A380, H⟩ := H
                    replace H : ((fix_F_Add.f t164 (IntKind.u64.wrap ((l1.length : Int)))).bind fun t165 => (if t161 > t165 then (some false) else (terracelaw16_TripBetween.l0 k1 l1 ji14 ji15 l1 (l1.length : Int) (wrap64 (x21_1 + 1)) t162 t163))) = some r := H
                    have A38 := Aside0.mk A380
                    clear A380
                    replace H := Option.bind_eq_some_iff.mp H
                    obtain ⟨t165, A390, H⟩ := H
                    replace H : (if t161 > t165 then (some false) else (terracelaw16_TripBetween.l0 k1 l1 ji14 ji15 l1 (l1.length : Int) (wrap64 (x21_1 + 1)) t162 t163)) = some r := H
                    have A39 := Aside0.mk A390
                    clear A390
                    by_cases c40 : t161 > t165
                    · rw [if_pos c40] at H
                      have c40b0 : decide (t165 < t161) = true := decide_eq_true c40
                      clear c40
                      obtain rfl := Option.some.inj H
                      have p147 : 0 ≤ (x21_1 : Int) := of_decide_eq_true (by first | (with_reducible assumption) | assumption)
                      have q147 : x21_1 < (l1.length : Int) := of_decide_eq_true (by first | (with_reducible assumption) | assumption)
                      obtain ⟨ad147, e147, hx147_0, hx147_1, hx147_2⟩ := at_T35 HR1.out x21_1 p147 q147
                      cases e147
                      replace hx147_0 := (HB.out.cell (World.block_lt_of_cell? w _ hx147_0)).trans hx147_0
                      replace hx147_1 := (HB.out.cell (World.block_lt_of_cell? w _ hx147_1)).trans hx147_1
                      replace hx147_2 := (HB.out.cell (World.block_lt_of_cell? w _ hx147_2)).trans hx147_2
                      replace p147 := eq_true p147
                      replace q147 := eq_true q147
                      go_wp2_with (first | ((with_reducible refine gate_dst (N := 9) rfl ?_); (try (refine gate_guard (by rfl) ?_; dsimp only)); refine box_event ?hg (N := 9) ?hd (cs := #[.int .i64 0, .int .i64 0, .int .i64 0]) (t := 35) ?hr ?_; (case hd => rfl); (case hg => rfl); (case hr => first | (go_simp; done) | (go_simp; rfl)); intro gb148 hg w41 hbox hb; have n0_ := Aside0.mk (IsS47.below (by repeat (first | (with_reducible first | exact HI145.out | apply IsS47.alloc | apply IsS47.drewN | apply IsS47.drew | apply IsS47.set_0 | apply IsS47.set_1) | exact HI145.out)) hb); have n1_ := Aside0.mk (below_step (by repeat (first | (with_reducible first | exact HB.out | apply below_alloc | apply pw_below_drewN | apply below_drew1 | refine below_set ?_ (IsS47.ge HI145.out)) | exact HB.out)) hb); have n2_ := Aside0.mk (hbox); have n3_ := Aside0.mk ((by rw [hg]; exact (below_size (by repeat (first | (with_reducible first | exact HB.out | apply below_alloc | apply pw_below_drewN | apply below_drew1 | refine below_set ?_ (IsS47.ge HI145.out)) | exact HB.out))) : w.heap.size ≤ gb148)); have n4_ := Aside0.mk ((by rw [hg]; exact (below_size (by repeat (first | (with_reducible first | exact HB.out | apply below_alloc | apply pw_below_drewN | apply below_drew1 | refine below_set ?_ (IsS47.ge HI145.out)) | exact HB.out))) : w.heap.size ≤ gb148)); have n5_ := Aside0.mk ((by rw [hg]; exact Nat.ne_of_lt (IsS47.lt (show IsS47 w _ g145 x146000_1 x146001_1 from by repeat (first | (with_reducible first | exact HI145.out | apply IsS47.alloc | apply IsS47.drewN | apply IsS47.drew | apply IsS47.set_0 | apply IsS47.set_1) | exact HI145.out))) : g145 ≠ gb148)); have n6_ := Aside0.mk ((by rw [hg]; exact Nat.ne_of_gt (IsS47.lt (show IsS47 w _ g145 x146000_1 x146001_1 from by repeat (first | (with_reducible first | exact HI145.out | apply IsS47.alloc | apply IsS47.drewN | apply IsS47.drew | apply IsS47.set_0 | apply IsS47.set_1) | exact HI145.out))) : gb148 ≠ g145)); clear HI145; clear HB; have HI145 := n0_; have HB := n1_; have BK148 := n2_; have GW148 := n3_; have GE148 := n4_; have NB145_148 := n5_; have NB148_145 := n6_; clear n0_ n1_ n2_ n3_ n4_ n5_ n6_; clear hb hbox hg; have hnb42 := NB148_145.out; have hnc42 := NB145_148.out; have hcz43_0 : w41.cell? ⟨gb148, 0, none⟩ = some (.int .i64 0) := (blk_cell BK148.out 0).trans rfl; have hcz43_1 : w41.cell? ⟨gb148, 1, none⟩ = some (.int .i64 0) := (blk_cell BK148.out 1).trans rfl; have hcz43_2 : w41.cell? ⟨gb148, 2, none⟩ = some (.int .i64 0) := (blk_cell BK148.out 2).trans rfl; have hfz43_0 := blk_frozen BK148.out 0; have hfz43_1 := blk_frozen BK148.out 1; have hfz43_2 := blk_frozen BK148.out 2) | ((with_reducible refine gate_callee (f := 13) rfl ?_); refine goesL_ (some 32) rfl rfl Try.func13 (by kernel_rfl) rfl #[.pointer (some ⟨g145, 0, none⟩), .int .i64 ((rd_T35 l1 x21_1).f0), .int .i64 ((rd_T35 l1 x21_1).f1), .int .i64 ((rd_T35 l1 x21_1).f2)] rfl (by (try simp only [List.map_toArray, List.map_cons, List.map_nil]); first | done | rfl | (simp only [List.length_drop, List.length_take]; rfl)) ?_; (with_reducible refine (trip_Trip_Sample.calls k1 g145 x146000_1 x146001_1 ((rd_T35 l1 x21_1).f0) ((rd_T35 l1 x21_1).f1) ((rd_T35 l1 x21_1).f2) t149 t150 t151 w _ ?side1 ?side2 A11.out).mono ?_); (case side1 => repeat (first | (with_reducible first | exact HI145.out | apply IsS47.alloc | apply IsS47.drewN | apply IsS47.drew | apply IsS47.set_0 | apply IsS47.set_1 | refine IsS47.far ?_ NB145_148.out _) | exact HI145.out)); (case side2 => repeat (first | (with_reducible first | exact HB.out | apply below_alloc | apply pw_below_drewN | apply below_drew1 | refine below_set ?_ (IsS47.ge HI145.out) | refine below_set ?_ GE148.out) | exact HB.out)); rintro e w44 ⟨rfl, hi, hb, hk⟩; refine ⟨_, rfl, ?_⟩; have n0_ := Aside0.mk (KeepBut.blk hk (g' := gb148) (o := .cells #[.int .i64 ((rd_T35 l1 x21_1).f0), .int .i64 ((rd_T35 l1 x21_1).f1), .int .i64 ((rd_T35 l1 x21_1).f2)] 35 (0, 0)) (by (with_reducible repeat (first | refine blk_drewN ?_ _ | refine blk_drew ?_ | refine blk_alloc ?_ _)); refine blk_put (cs := #[.int .i64 ((rd_T35 l1 x21_1).f0), .int .i64 ((rd_T35 l1 x21_1).f1), .int .i64 0]) ?_ 2 _ rfl; (with_reducible repeat (first | refine blk_drewN ?_ _ | refine blk_drew ?_ | refine blk_alloc ?_ _)); refine blk_put (cs := #[.int .i64 ((rd_T35 l1 x21_1).f0), .int .i64 0, .int .i64 0]) ?_ 1 _ rfl; (with_reducible repeat (first | refine blk_drewN ?_ _ | refine blk_drew ?_ | refine blk_alloc ?_ _)); refine blk_put (cs := #[.int .i64 0, .int .i64 0, .int .i64 0]) ?_ 0 _ rfl; (with_reducible repeat (first | refine blk_drewN ?_ _ | refine blk_drew ?_ | refine blk_alloc ?_ _)); exact BK148.out) NB148_145.out (by simp)); have n1_ := Aside0.mk (hb); have n2_ := Aside0.mk (hi); clear BK148; clear HB; clear HI145; have BK148 := n0_; have HB := n1_; have HI145 := n2_; clear n0_ n1_ n2_; (try clear hb); (try clear hb2); (try clear hk); (try clear hi); have hcz45_0 : w44.cell? ⟨gb148, 0, none⟩ = some (.int .i64 ((rd_T35 l1 x21_1).f0)) := (blk_cell BK148.out 0).trans rfl; have hcz45_1 : w44.cell? ⟨gb148, 1, none⟩ = some (.int .i64 ((rd_T35 l1 x21_1).f1)) := (blk_cell BK148.out 1).trans rfl; have hcz45_2 : w44.cell? ⟨gb148, 2, none⟩ = some (.int .i64 ((rd_T35 l1 x21_1).f2)) := (blk_cell BK148.out 2).trans rfl; have hfz45_0 := blk_frozen BK148.out 0; have hfz45_1 := blk_frozen BK148.out 1; have hfz45_2 := blk_frozen BK148.out 2) | ((with_reducible refine gate_callee (f := 14) rfl ?_); refine goesL_ (some 40) rfl rfl Try.func14 (by kernel_rfl) rfl #[.int .i64 ((rd_T35 l1 x21_1).f0), .int .i64 ((rd_T35 l1 x21_1).f1), .int .i64 ((rd_T35 l1 x21_1).f2)] rfl (by (try simp only [List.map_toArray, List.map_cons, List.map_nil]); first | done | rfl | (simp only [List.length_drop, List.length_take]; rfl)) ?_; (with_reducible refine (terraceref16_Lasted.calls ((rd_T35 l1 x21_1).f0) ((rd_T35 l1 x21_1).f1) ((rd_T35 l1 x21_1).f2) t152 _ A13.out).mono ?_); rintro e w46 ⟨rfl, hb⟩; refine ⟨_, rfl, ?_⟩; have n0_ := Aside0.mk (IsS47.below (by repeat (first | (with_reducible first | exact HI145.out | apply IsS47.alloc | apply IsS47.drewN | apply IsS47.drew | apply IsS47.set_0 | apply IsS47.set_1 | refine IsS47.far ?_ NB145_148.out _) | exact HI145.out)) hb); have n1_ := Aside0.mk (blk_below (g := gb148) (o := .cells #[.int .i64 ((rd_T35 l1 x21_1).f0), .int .i64 ((rd_T35 l1 x21_1).f1), .int .i64 ((rd_T35 l1 x21_1).f2)] 35 (0, 0)) (by (with_reducible repeat (first | refine blk_drewN ?_ _ | refine blk_drew ?_ | refine blk_alloc ?_ _)); exact BK148.out) hb); have n2_ := Aside0.mk (below_step (by repeat (first | (with_reducible first | exact HB.out | apply below_alloc | apply pw_below_drewN | apply below_drew1 | refine below_set ?_ (IsS47.ge HI145.out) | refine below_set ?_ GE148.out) | exact HB.out)) hb); clear HI145; clear BK148; clear HB; have HI145 := n0_; have BK148 := n1_; have HB := n2_; clear n0_ n1_ n2_; (try clear hb); (try clear hb2); (try clear hk); (try clear hi)) | ((with_reducible refine gate_callee (f := 9) rfl ?_); refine goesL_ (some 48) rfl rfl Try.func9 (by kernel_rfl) rfl #[.pointer (some ⟨g145, 0, none⟩)] rfl (by (try simp only [List.map_toArray, List.map_cons, List.map_nil]); first | done | rfl | (simp only [List.length_drop, List.length_take]; rfl)) ?_; (with_reducible refine (trip_Trip_Get.calls g145 t150 t151 t153 t154 t155 w _ ?side1 ?side2 A16.out).mono ?_); (case side1 => repeat (first | (with_reducible first | exact HI145.out | apply IsS47.alloc | apply IsS47.drewN | apply IsS47.drew | apply IsS47.set_0 | apply IsS47.set_1 | refine IsS47.far ?_ NB145_148.out _) | exact HI145.out)); (case side2 => repeat (first | (with_reducible first | exact HB.out | apply below_alloc | apply pw_below_drewN | apply below_drew1 | refine below_set ?_ (IsS47.ge HI145.out) | refine below_set ?_ GE148.out) | exact HB.out)); rintro e w47 ⟨rfl, hi, hb, hk⟩; refine ⟨_, rfl, ?_⟩; have n0_ := Aside0.mk (KeepBut.blk hk (g' := gb148) (o := .cells #[.int .i64 ((rd_T35 l1 x21_1).f0), .int .i64 ((rd_T35 l1 x21_1).f1), .int .i64 ((rd_T35 l1 x21_1).f2)] 35 (0, 0)) (by (with_reducible repeat (first | refine blk_drewN ?_ _ | refine blk_drew ?_ | refine blk_alloc ?_ _)); exact BK148.out) NB148_145.out (by simp)); have n1_ := Aside0.mk (hb); have n2_ := Aside0.mk (hi); clear BK148; clear HB; clear HI145; have BK148 := n0_; have HB := n1_; have HI145 := n2_; clear n0_ n1_ n2_; (try clear hb); (try clear hb2); (try clear hk); (try clear hi)) | (go_at_call 9; (with_reducible refine (trip_Trip_Get.calls g145 t154 t155 t156 t157 t158 w _ ?side1 ?side2 A25.out).mono ?_); (case side1 => repeat (first | (with_reducible first | exact HI145.out | apply IsS47.alloc | apply IsS47.drewN | apply IsS47.drew | apply IsS47.set_0 | apply IsS47.set_1 | refine IsS47.far ?_ NB145_148.out _) | exact HI145.out)); (case side2 => repeat (first | (with_reducible first | exact HB.out | apply below_alloc | apply pw_below_drewN | apply below_drew1 | refine below_set ?_ (IsS47.ge HI145.out) | refine below_set ?_ GE148.out) | exact HB.out)); rintro e w48 ⟨rfl, hi, hb, hk⟩; have n0_ := Aside0.mk (KeepBut.blk hk (g' := gb148) (o := .cells #[.int .i64 ((rd_T35 l1 x21_1).f0), .int .i64 ((rd_T35 l1 x21_1).f1), .int .i64 ((rd_T35 l1 x21_1).f2)] 35 (0, 0)) (by (with_reducible repeat (first | refine blk_drewN ?_ _ | refine blk_drew ?_ | refine blk_alloc ?_ _)); exact BK148.out) NB148_145.out (by simp)); have n1_ := Aside0.mk (hb); have n2_ := Aside0.mk (hi); clear BK148; clear HB; clear HI145; have BK148 := n0_; have HB := n1_; have HI145 := n2_; clear n0_ n1_ n2_; (try clear hb); (try clear hb2); (try clear hk); (try clear hi)) | (go_at_call 15; (with_reducible refine (fix_F_Add.calls t156 (IntKind.u64.wrap ((l1.length : Int))) t159 _ A26.out).mono ?_); rintro e w' ⟨rfl, ⟨nd, rfl⟩⟩) | (go_at_call 16; (with_reducible refine (fix_Of.calls ((ji14) % 4294967296) t160 _ A27.out).mono ?_); rintro e w' ⟨rfl, ⟨nd, rfl⟩⟩) | (go_at_call 9; (with_reducible refine (trip_Trip_Get.calls g145 t157 t158 t161 t162 t163 w _ ?side1 ?side2 A37.out).mono ?_); (case side1 => repeat (first | (with_reducible first | exact HI145.out | apply IsS47.alloc | apply IsS47.drewN | apply IsS47.drew | apply IsS47.set_0 | apply IsS47.set_1 | refine IsS47.far ?_ NB145_148.out _) | exact HI145.out)); (case side2 => repeat (first | (with_reducible first | exact HB.out | apply below_alloc | apply pw_below_drewN | apply below_drew1 | refine below_set ?_ (IsS47.ge HI145.out) | refine below_set ?_ GE148.out) | exact HB.out)); rintro e w49 ⟨rfl, hi, hb, hk⟩; have n0_ := Aside0.mk (KeepBut.blk hk (g' := gb148) (o := .cells #[.int .i64 ((rd_T35 l1 x21_1).f0), .int .i64 ((rd_T35 l1 x21_1).f1), .int .i64 ((rd_T35 l1 x21_1).f2)] 35 (0, 0)) (by (with_reducible repeat (first | refine blk_drewN ?_ _ | refine blk_drew ?_ | refine blk_alloc ?_ _)); exact BK148.out) NB148_145.out (by simp)); have n1_ := Aside0.mk (hb); have n2_ := Aside0.mk (hi); clear BK148; clear HB; clear HI145; have BK148 := n0_; have HB := n1_; have HI145 := n2_; clear n0_ n1_ n2_; (try clear hb); (try clear hb2); (try clear hk); (try clear hi)) | (go_at_call 16; (with_reducible refine (fix_Of.calls ((ji15) % 4294967296) t164 _ A38.out).mono ?_); rintro e w' ⟨rfl, ⟨nd, rfl⟩⟩) | (go_at_call 15; (with_reducible refine (fix_F_Add.calls t164 (IntKind.u64.wrap ((l1.length : Int))) t165 _ A39.out).mono ?_); rintro e w' ⟨rfl, ⟨nd, rfl⟩⟩))
                      go_ret
                      exact ⟨by first | rfl | (simp [errW_none, errW_some] <;> rfl) | (simp only [← hji14, ← hji15]; first | rfl | (simp [errW_none, errW_some] <;> rfl)) | (simp [*, errW_none, errW_some] <;> rfl), by repeat (first | (with_reducible first | exact HB.out | apply below_alloc | apply pw_below_drewN | apply below_drew1 | refine below_set ?_ (IsS47.ge HI145.out) | refine below_set ?_ GE148.out) | exact HB.out)⟩
                    · rw [if_neg c40] at H
                      have c40b0 : decide (t165 < t161) = false := decide_eq_false c40
                      clear c40
                      have H' := Aside0.mk H
                      clear H
                      have p147 : 0 ≤ (x21_1 : Int) := of_decide_eq_true (by first | (with_reducible assumption) | assumption)
                      have q147 : x21_1 < (l1.length : Int) := of_decide_eq_true (by first | (with_reducible assumption) | assumption)
                      obtain ⟨ad147, e147, hx147_0, hx147_1, hx147_2⟩ := at_T35 HR1.out x21_1 p147 q147
                      cases e147
                      replace hx147_0 := (HB.out.cell (World.block_lt_of_cell? w _ hx147_0)).trans hx147_0
                      replace hx147_1 := (HB.out.cell (World.block_lt_of_cell? w _ hx147_1)).trans hx147_1
                      replace hx147_2 := (HB.out.cell (World.block_lt_of_cell? w _ hx147_2)).trans hx147_2
                      replace p147 := eq_true p147
                      replace q147 := eq_true q147
                      go_wp2_with (first | ((with_reducible refine gate_dst (N := 9) rfl ?_); (try (refine gate_guard (by rfl) ?_; dsimp only)); refine box_event ?hg (N := 9) ?hd (cs := #[.int .i64 0, .int .i64 0, .int .i64 0]) (t := 35) ?hr ?_; (case hd => rfl); (case hg => rfl); (case hr => first | (go_simp; done) | (go_simp; rfl)); intro gb148 hg w50 hbox hb; have n0_ := Aside0.mk (IsS47.below (by repeat (first | (with_reducible first | exact HI145.out | apply IsS47.alloc | apply IsS47.drewN | apply IsS47.drew | apply IsS47.set_0 | apply IsS47.set_1) | exact HI145.out)) hb); have n1_ := Aside0.mk (below_step (by repeat (first | (with_reducible first | exact HB.out | apply below_alloc | apply pw_below_drewN | apply below_drew1 | refine below_set ?_ (IsS47.ge HI145.out)) | exact HB.out)) hb); have n2_ := Aside0.mk (hbox); have n3_ := Aside0.mk ((by rw [hg]; exact (below_size (by repeat (first | (with_reducible first | exact HB.out | apply below_alloc | apply pw_below_drewN | apply below_drew1 | refine below_set ?_ (IsS47.ge HI145.out)) | exact HB.out))) : w.heap.size ≤ gb148)); have n4_ := Aside0.mk ((by rw [hg]; exact (below_size (by repeat (first | (with_reducible first | exact HB.out | apply below_alloc | apply pw_below_drewN | apply below_drew1 | refine below_set ?_ (IsS47.ge HI145.out)) | exact HB.out))) : w.heap.size ≤ gb148)); have n5_ := Aside0.mk ((by rw [hg]; exact Nat.ne_of_lt (IsS47.lt (show IsS47 w _ g145 x146000_1 x146001_1 from by repeat (first | (with_reducible first | exact HI145.out | apply IsS47.alloc | apply IsS47.drewN | apply IsS47.drew | apply IsS47.set_0 | apply IsS47.set_1) | exact HI145.out))) : g145 ≠ gb148)); have n6_ := Aside0.mk ((by rw [hg]; exact Nat.ne_of_gt (IsS47.lt (show IsS47 w _ g145 x146000_1 x146001_1 from by repeat (first | (with_reducible first | exact HI145.out | apply IsS47.alloc | apply IsS47.drewN | apply IsS47.drew | apply IsS47.set_0 | apply IsS47.set_1) | exact HI145.out))) : gb148 ≠ g145)); clear HI145; clear HB; have HI145 := n0_; have HB := n1_; have BK148 := n2_; have GW148 := n3_; have GE148 := n4_; have NB145_148 := n5_; have NB148_145 := n6_; clear n0_ n1_ n2_ n3_ n4_ n5_ n6_; clear hb hbox hg; have hnb51 := NB148_145.out; have hnc51 := NB145_148.out; have hcz52_0 : w50.cell? ⟨gb148, 0, none⟩ = some (.int .i64 0) := (blk_cell BK148.out 0).trans rfl; have hcz52_1 : w50.cell? ⟨gb148, 1, none⟩ = some (.int .i64 0) := (blk_cell BK148.out 1).trans rfl; have hcz52_2 : w50.cell? ⟨gb148, 2, none⟩ = some (.int .i64 0) := (blk_cell BK148.out 2).trans rfl; have hfz52_0 := blk_frozen BK148.out 0; have hfz52_1 := blk_frozen BK148.out 1; have hfz52_2 := blk_frozen BK148.out 2) | ((with_reducible refine gate_callee (f := 13) rfl ?_); refine goesL_ (some 32) rfl rfl Try.func13 (by kernel_rfl) rfl #[.pointer (some ⟨g145, 0, none⟩), .int .i64 ((rd_T35 l1 x21_1).f0), .int .i64 ((rd_T35 l1 x21_1).f1), .int .i64 ((rd_T35 l1 x21_1).f2)] rfl (by (try simp only [List.map_toArray, List.map_cons, List.map_nil]); first | done | rfl | (simp only [List.length_drop, List.length_take]; rfl)) ?_; (with_reducible refine (trip_Trip_Sample.calls k1 g145 x146000_1 x146001_1 ((rd_T35 l1 x21_1).f0) ((rd_T35 l1 x21_1).f1) ((rd_T35 l1 x21_1).f2) t149 t150 t151 w _ ?side1 ?side2 A11.out).mono ?_); (case side1 => repeat (first | (with_reducible first | exact HI145.out | apply IsS47.alloc | apply IsS47.drewN | apply IsS47.drew | apply IsS47.set_0 | apply IsS47.set_1 | refine IsS47.far ?_ NB145_148.out _) | exact HI145.out)); (case side2 => repeat (first | (with_reducible first | exact HB.out | apply below_alloc | apply pw_below_drewN | apply below_drew1 | refine below_set ?_ (IsS47.ge HI145.out) | refine below_set ?_ GE148.out) | exact HB.out)); rintro e w53 ⟨rfl, hi, hb, hk⟩; refine ⟨_, rfl, ?_⟩; have n0_ := Aside0.mk (KeepBut.blk hk (g' := gb148) (o := .cells #[.int .i64 ((rd_T35 l1 x21_1).f0), .int .i64 ((rd_T35 l1 x21_1).f1), .int .i64 ((rd_T35 l1 x21_1).f2)] 35 (0, 0)) (by (with_reducible repeat (first | refine blk_drewN ?_ _ | refine blk_drew ?_ | refine blk_alloc ?_ _)); refine blk_put (cs := #[.int .i64 ((rd_T35 l1 x21_1).f0), .int .i64 ((rd_T35 l1 x21_1).f1), .int .i64 0]) ?_ 2 _ rfl; (with_reducible repeat (first | refine blk_drewN ?_ _ | refine blk_drew ?_ | refine blk_alloc ?_ _)); refine blk_put (cs := #[.int .i64 ((rd_T35 l1 x21_1).f0), .int .i64 0, .int .i64 0]) ?_ 1 _ rfl; (with_reducible repeat (first | refine blk_drewN ?_ _ | refine blk_drew ?_ | refine blk_alloc ?_ _)); refine blk_put (cs := #[.int .i64 0, .int .i64 0, .int .i64 0]) ?_ 0 _ rfl; (with_reducible repeat (first | refine blk_drewN ?_ _ | refine blk_drew ?_ | refine blk_alloc ?_ _)); exact BK148.out) NB148_145.out (by simp)); have n1_ := Aside0.mk (hb); have n2_ := Aside0.mk (hi); clear BK148; clear HB; clear HI145; have BK148 := n0_; have HB := n1_; have HI145 := n2_; clear n0_ n1_ n2_; (try clear hb); (try clear hb2); (try clear hk); (try clear hi); have hcz54_0 : w53.cell? ⟨gb148, 0, none⟩ = some (.int .i64 ((rd_T35 l1 x21_1).f0)) := (blk_cell BK148.out 0).trans rfl; have hcz54_1 : w53.cell? ⟨gb148, 1, none⟩ = some (.int .i64 ((rd_T35 l1 x21_1).f1)) := (blk_cell BK148.out 1).trans rfl; have hcz54_2 : w53.cell? ⟨gb148, 2, none⟩ = some (.int .i64 ((rd_T35 l1 x21_1).f2)) := (blk_cell BK148.out 2).trans rfl; have hfz54_0 := blk_frozen BK148.out 0; have hfz54_1 := blk_frozen BK148.out 1; have hfz54_2 := blk_frozen BK148.out 2) | ((with_reducible refine gate_callee (f := 14) rfl ?_); refine goesL_ (some 40) rfl rfl Try.func14 (by kernel_rfl) rfl #[.int .i64 ((rd_T35 l1 x21_1).f0), .int .i64 ((rd_T35 l1 x21_1).f1), .int .i64 ((rd_T35 l1 x21_1).f2)] rfl (by (try simp only [List.map_toArray, List.map_cons, List.map_nil]); first | done | rfl | (simp only [List.length_drop, List.length_take]; rfl)) ?_; (with_reducible refine (terraceref16_Lasted.calls ((rd_T35 l1 x21_1).f0) ((rd_T35 l1 x21_1).f1) ((rd_T35 l1 x21_1).f2) t152 _ A13.out).mono ?_); rintro e w55 ⟨rfl, hb⟩; refine ⟨_, rfl, ?_⟩; have n0_ := Aside0.mk (IsS47.below (by repeat (first | (with_reducible first | exact HI145.out | apply IsS47.alloc | apply IsS47.drewN | apply IsS47.drew | apply IsS47.set_0 | apply IsS47.set_1 | refine IsS47.far ?_ NB145_148.out _) | exact HI145.out)) hb); have n1_ := Aside0.mk (blk_below (g := gb148) (o := .cells #[.int .i64 ((rd_T35 l1 x21_1).f0), .int .i64 ((rd_T35 l1 x21_1).f1), .int .i64 ((rd_T35 l1 x21_1).f2)] 35 (0, 0)) (by (with_reducible repeat (first | refine blk_drewN ?_ _ | refine blk_drew ?_ | refine blk_alloc ?_ _)); exact BK148.out) hb); have n2_ := Aside0.mk (below_step (by repeat (first | (with_reducible first | exact HB.out | apply below_alloc | apply pw_below_drewN | apply below_drew1 | refine below_set ?_ (IsS47.ge HI145.out) | refine below_set ?_ GE148.out) | exact HB.out)) hb); clear HI145; clear BK148; clear HB; have HI145 := n0_; have BK148 := n1_; have HB := n2_; clear n0_ n1_ n2_; (try clear hb); (try clear hb2); (try clear hk); (try clear hi)) | ((with_reducible refine gate_callee (f := 9) rfl ?_); refine goesL_ (some 48) rfl rfl Try.func9 (by kernel_rfl) rfl #[.pointer (some ⟨g145, 0, none⟩)] rfl (by (try simp only [List.map_toArray, List.map_cons, List.map_nil]); first | done | rfl | (simp only [List.length_drop, List.length_take]; rfl)) ?_; (with_reducible refine (trip_Trip_Get.calls g145 t150 t151 t153 t154 t155 w _ ?side1 ?side2 A16.out).mono ?_); (case side1 => repeat (first | (with_reducible first | exact HI145.out | apply IsS47.alloc | apply IsS47.drewN | apply IsS47.drew | apply IsS47.set_0 | apply IsS47.set_1 | refine IsS47.far ?_ NB145_148.out _) | exact HI145.out)); (case side2 => repeat (first | (with_reducible first | exact HB.out | apply below_alloc | apply pw_below_drewN | apply below_drew1 | refine below_set ?_ (IsS47.ge HI145.out) | refine below_set ?_ GE148.out) | exact HB.out)); rintro e w56 ⟨rfl, hi, hb, hk⟩; refine ⟨_, rfl, ?_⟩; have n0_ := Aside0.mk (KeepBut.blk hk (g' := gb148) (o := .cells #[.int .i64 ((rd_T35 l1 x21_1).f0), .int .i64 ((rd_T35 l1 x21_1).f1), .int .i64 ((rd_T35 l1 x21_1).f2)] 35 (0, 0)) (by (with_reducible repeat (first | refine blk_drewN ?_ _ | refine blk_drew ?_ | refine blk_alloc ?_ _)); exact BK148.out) NB148_145.out (by simp)); have n1_ := Aside0.mk (hb); have n2_ := Aside0.mk (hi); clear BK148; clear HB; clear HI145; have BK148 := n0_; have HB := n1_; have HI145 := n2_; clear n0_ n1_ n2_; (try clear hb); (try clear hb2); (try clear hk); (try clear hi)) | (go_at_call 9; (with_reducible refine (trip_Trip_Get.calls g145 t154 t155 t156 t157 t158 w _ ?side1 ?side2 A25.out).mono ?_); (case side1 => repeat (first | (with_reducible first | exact HI145.out | apply IsS47.alloc | apply IsS47.drewN | apply IsS47.drew | apply IsS47.set_0 | apply IsS47.set_1 | refine IsS47.far ?_ NB145_148.out _) | exact HI145.out)); (case side2 => repeat (first | (with_reducible first | exact HB.out | apply below_alloc | apply pw_below_drewN | apply below_drew1 | refine below_set ?_ (IsS47.ge HI145.out) | refine below_set ?_ GE148.out) | exact HB.out)); rintro e w57 ⟨rfl, hi, hb, hk⟩; have n0_ := Aside0.mk (KeepBut.blk hk (g' := gb148) (o := .cells #[.int .i64 ((rd_T35 l1 x21_1).f0), .int .i64 ((rd_T35 l1 x21_1).f1), .int .i64 ((rd_T35 l1 x21_1).f2)] 35 (0, 0)) (by (with_reducible repeat (first | refine blk_drewN ?_ _ | refine blk_drew ?_ | refine blk_alloc ?_ _)); exact BK148.out) NB148_145.out (by simp)); have n1_ := Aside0.mk (hb); have n2_ := Aside0.mk (hi); clear BK148; clear HB; clear HI145; have BK148 := n0_; have HB := n1_; have HI145 := n2_; clear n0_ n1_ n2_; (try clear hb); (try clear hb2); (try clear hk); (try clear hi)) | (go_at_call 15; (with_reducible refine (fix_F_Add.calls t156 (IntKind.u64.wrap ((l1.length : Int))) t159 _ A26.out).mono ?_); rintro e w' ⟨rfl, ⟨nd, rfl⟩⟩) | (go_at_call 16; (with_reducible refine (fix_Of.calls ((ji14) % 4294967296) t160 _ A27.out).mono ?_); rintro e w' ⟨rfl, ⟨nd, rfl⟩⟩) | (go_at_call 9; (with_reducible refine (trip_Trip_Get.calls g145 t157 t158 t161 t162 t163 w _ ?side1 ?side2 A37.out).mono ?_); (case side1 => repeat (first | (with_reducible first | exact HI145.out | apply IsS47.alloc | apply IsS47.drewN | apply IsS47.drew | apply IsS47.set_0 | apply IsS47.set_1 | refine IsS47.far ?_ NB145_148.out _) | exact HI145.out)); (case side2 => repeat (first | (with_reducible first | exact HB.out | apply below_alloc | apply pw_below_drewN | apply below_drew1 | refine below_set ?_ (IsS47.ge HI145.out) | refine below_set ?_ GE148.out) | exact HB.out)); rintro e w58 ⟨rfl, hi, hb, hk⟩; have n0_ := Aside0.mk (KeepBut.blk hk (g' := gb148) (o := .cells #[.int .i64 ((rd_T35 l1 x21_1).f0), .int .i64 ((rd_T35 l1 x21_1).f1), .int .i64 ((rd_T35 l1 x21_1).f2)] 35 (0, 0)) (by (with_reducible repeat (first | refine blk_drewN ?_ _ | refine blk_drew ?_ | refine blk_alloc ?_ _)); exact BK148.out) NB148_145.out (by simp)); have n1_ := Aside0.mk (hb); have n2_ := Aside0.mk (hi); clear BK148; clear HB; clear HI145; have BK148 := n0_; have HB := n1_; have HI145 := n2_; clear n0_ n1_ n2_; (try clear hb); (try clear hb2); (try clear hk); (try clear hi)) | (go_at_call 16; (with_reducible refine (fix_Of.calls ((ji15) % 4294967296) t164 _ A38.out).mono ?_); rintro e w' ⟨rfl, ⟨nd, rfl⟩⟩) | (go_at_call 15; (with_reducible refine (fix_F_Add.calls t164 (IntKind.u64.wrap ((l1.length : Int))) t165 _ A39.out).mono ?_); rintro e w' ⟨rfl, ⟨nd, rfl⟩⟩))
                      go_roundg k1
                      case measure => have := HK1.out; omega
                      case rel => exact ⟨(ji14), (ji15), (wrap64 (x21_1 + 1)), (t162), (t163), (by first | rfl | (simp; done) | (simp only [← hji14] <;> (first | rfl | simp)) | (simp [*]; done)), (by first | rfl | (simp; done) | (simp only [← hji15] <;> (first | rfl | simp)) | (simp [*]; done)), (by first | rfl | (simp; done) | (simp [*]; done)), H', ⟨by have := HK1.out; omega⟩, ⟨by repeat (first | (with_reducible first | exact HI145.out | apply IsS47.alloc | apply IsS47.drewN | apply IsS47.drew | apply IsS47.set_0 | apply IsS47.set_1 | refine IsS47.far ?_ NB145_148.out _) | exact HI145.out)⟩, ⟨by repeat (first | (with_reducible first | exact HB.out | apply below_alloc | apply pw_below_drewN | apply below_drew1 | refine below_set ?_ (IsS47.ge HI145.out) | refine below_set ?_ GE148.out) | exact HB.out)⟩⟩
              · rw [if_neg c12] at H
                have c12b0 : (t149 == 0) = false := beq_eq_false_iff_ne.mpr c12
                have c12b1 : (t149 != 0) = true := bne_iff_ne.mpr c12
                have H' := Aside0.mk H
                clear H
                have p147 : 0 ≤ (x21_1 : Int) := of_decide_eq_true (by first | (with_reducible assumption) | assumption)
                have q147 : x21_1 < (l1.length : Int) := of_decide_eq_true (by first | (with_reducible assumption) | assumption)
                obtain ⟨ad147, e147, hx147_0, hx147_1, hx147_2⟩ := at_T35 HR1.out x21_1 p147 q147
                cases e147
                replace hx147_0 := (HB.out.cell (World.block_lt_of_cell? w _ hx147_0)).trans hx147_0
                replace hx147_1 := (HB.out.cell (World.block_lt_of_cell? w _ hx147_1)).trans hx147_1
                replace hx147_2 := (HB.out.cell (World.block_lt_of_cell? w _ hx147_2)).trans hx147_2
                replace p147 := eq_true p147
                replace q147 := eq_true q147
                go_wp2_with (first | ((with_reducible refine gate_dst (N := 9) rfl ?_); (try (refine gate_guard (by rfl) ?_; dsimp only)); refine box_event ?hg (N := 9) ?hd (cs := #[.int .i64 0, .int .i64 0, .int .i64 0]) (t := 35) ?hr ?_; (case hd => rfl); (case hg => rfl); (case hr => first | (go_simp; done) | (go_simp; rfl)); intro gb148 hg w59 hbox hb; have n0_ := Aside0.mk (IsS47.below (by repeat (first | (with_reducible first | exact HI145.out | apply IsS47.alloc | apply IsS47.drewN | apply IsS47.drew | apply IsS47.set_0 | apply IsS47.set_1) | exact HI145.out)) hb); have n1_ := Aside0.mk (below_step (by repeat (first | (with_reducible first | exact HB.out | apply below_alloc | apply pw_below_drewN | apply below_drew1 | refine below_set ?_ (IsS47.ge HI145.out)) | exact HB.out)) hb); have n2_ := Aside0.mk (hbox); have n3_ := Aside0.mk ((by rw [hg]; exact (below_size (by repeat (first | (with_reducible first | exact HB.out | apply below_alloc | apply pw_below_drewN | apply below_drew1 | refine below_set ?_ (IsS47.ge HI145.out)) | exact HB.out))) : w.heap.size ≤ gb148)); have n4_ := Aside0.mk ((by rw [hg]; exact (below_size (by repeat (first | (with_reducible first | exact HB.out | apply below_alloc | apply pw_below_drewN | apply below_drew1 | refine below_set ?_ (IsS47.ge HI145.out)) | exact HB.out))) : w.heap.size ≤ gb148)); have n5_ := Aside0.mk ((by rw [hg]; exact Nat.ne_of_lt (IsS47.lt (show IsS47 w _ g145 x146000_1 x146001_1 from by repeat (first | (with_reducible first | exact HI145.out | apply IsS47.alloc | apply IsS47.drewN | apply IsS47.drew | apply IsS47.set_0 | apply IsS47.set_1) | exact HI145.out))) : g145 ≠ gb148)); have n6_ := Aside0.mk ((by rw [hg]; exact Nat.ne_of_gt (IsS47.lt (show IsS47 w _ g145 x146000_1 x146001_1 from by repeat (first | (with_reducible first | exact HI145.out | apply IsS47.alloc | apply IsS47.drewN | apply IsS47.drew | apply IsS47.set_0 | apply IsS47.set_1) | exact HI145.out))) : gb148 ≠ g145)); clear HI145; clear HB; have HI145 := n0_; have HB := n1_; have BK148 := n2_; have GW148 := n3_; have GE148 := n4_; have NB145_148 := n5_; have NB148_145 := n6_; clear n0_ n1_ n2_ n3_ n4_ n5_ n6_; clear hb hbox hg; have hnb60 := NB148_145.out; have hnc60 := NB145_148.out; have hcz61_0 : w59.cell? ⟨gb148, 0, none⟩ = some (.int .i64 0) := (blk_cell BK148.out 0).trans rfl; have hcz61_1 : w59.cell? ⟨gb148, 1, none⟩ = some (.int .i64 0) := (blk_cell BK148.out 1).trans rfl; have hcz61_2 : w59.cell? ⟨gb148, 2, none⟩ = some (.int .i64 0) := (blk_cell BK148.out 2).trans rfl; have hfz61_0 := blk_frozen BK148.out 0; have hfz61_1 := blk_frozen BK148.out 1; have hfz61_2 := blk_frozen BK148.out 2) | ((with_reducible refine gate_callee (f := 13) rfl ?_); refine goesL_ (some 32) rfl rfl Try.func13 (by kernel_rfl) rfl #[.pointer (some ⟨g145, 0, none⟩), .int .i64 ((rd_T35 l1 x21_1).f0), .int .i64 ((rd_T35 l1 x21_1).f1), .int .i64 ((rd_T35 l1 x21_1).f2)] rfl (by (try simp only [List.map_toArray, List.map_cons, List.map_nil]); first | done | rfl | (simp only [List.length_drop, List.length_take]; rfl)) ?_; (with_reducible refine (trip_Trip_Sample.calls k1 g145 x146000_1 x146001_1 ((rd_T35 l1 x21_1).f0) ((rd_T35 l1 x21_1).f1) ((rd_T35 l1 x21_1).f2) t149 t150 t151 w _ ?side1 ?side2 A11.out).mono ?_); (case side1 => repeat (first | (with_reducible first | exact HI145.out | apply IsS47.alloc | apply IsS47.drewN | apply IsS47.drew | apply IsS47.set_0 | apply IsS47.set_1 | refine IsS47.far ?_ NB145_148.out _) | exact HI145.out)); (case side2 => repeat (first | (with_reducible first | exact HB.out | apply below_alloc | apply pw_below_drewN | apply below_drew1 | refine below_set ?_ (IsS47.ge HI145.out) | refine below_set ?_ GE148.out) | exact HB.out)); rintro e w62 ⟨rfl, hi, hb, hk⟩; refine ⟨_, rfl, ?_⟩; have n0_ := Aside0.mk (KeepBut.blk hk (g' := gb148) (o := .cells #[.int .i64 ((rd_T35 l1 x21_1).f0), .int .i64 ((rd_T35 l1 x21_1).f1), .int .i64 ((rd_T35 l1 x21_1).f2)] 35 (0, 0)) (by (with_reducible repeat (first | refine blk_drewN ?_ _ | refine blk_drew ?_ | refine blk_alloc ?_ _)); refine blk_put (cs := #[.int .i64 ((rd_T35 l1 x21_1).f0), .int .i64 ((rd_T35 l1 x21_1).f1), .int .i64 0]) ?_ 2 _ rfl; (with_reducible repeat (first | refine blk_drewN ?_ _ | refine blk_drew ?_ | refine blk_alloc ?_ _)); refine blk_put (cs := #[.int .i64 ((rd_T35 l1 x21_1).f0), .int .i64 0, .int .i64 0]) ?_ 1 _ rfl; (with_reducible repeat (first | refine blk_drewN ?_ _ | refine blk_drew ?_ | refine blk_alloc ?_ _)); refine blk_put (cs := #[.int .i64 0, .int .i64 0, .int .i64 0]) ?_ 0 _ rfl; (with_reducible repeat (first | refine blk_drewN ?_ _ | refine blk_drew ?_ | refine blk_alloc ?_ _)); exact BK148.out) NB148_145.out (by simp)); have n1_ := Aside0.mk (hb); have n2_ := Aside0.mk (hi); clear BK148; clear HB; clear HI145; have BK148 := n0_; have HB := n1_; have HI145 := n2_; clear n0_ n1_ n2_; (try clear hb); (try clear hb2); (try clear hk); (try clear hi)))
                go_roundg k1
                case measure => have := HK1.out; omega
                case rel => exact ⟨(x6_1), (x7_1), (wrap64 (x21_1 + 1)), (t150), (t151), (by first | rfl | (simp; done) | (simp [*]; done)), (by first | rfl | (simp; done) | (simp [*]; done)), (by first | rfl | (simp; done) | (simp [*]; done)), H', ⟨by have := HK1.out; omega⟩, ⟨by repeat (first | (with_reducible first | exact HI145.out | apply IsS47.alloc | apply IsS47.drewN | apply IsS47.drew | apply IsS47.set_0 | apply IsS47.set_1 | refine IsS47.far ?_ NB145_148.out _) | exact HI145.out)⟩, ⟨by repeat (first | (with_reducible first | exact HB.out | apply below_alloc | apply pw_below_drewN | apply below_drew1 | refine below_set ?_ (IsS47.ge HI145.out) | refine below_set ?_ GE148.out) | exact HB.out)⟩⟩
            · rw [if_neg c10] at H
              exact absurd H (by simp)
          · rw [if_neg c9] at H
            exact absurd H (by simp)
        · rw [if_neg c8] at H
          have c8b0 : decide (x21_1 < (l1.length : Int)) = false := decide_eq_false c8
          clear c8
          replace H := Option.bind_eq_some_iff.mp H
          obtain ⟨t146, A630, H⟩ := H
          replace H : (some t146) = some r := H
          have A63 := Aside0.mk A630
          clear A630
          obtain rfl := Option.some.inj H
          go_wp2_with (first | ((with_reducible refine gate_callee (f := 7) rfl ?_); refine goesL_ (some 75) rfl rfl Try.func7 (by kernel_rfl) rfl #[] rfl (by (try simp only [List.map_toArray, List.map_cons, List.map_nil]); first | done | rfl | (simp only [List.length_drop, List.length_take]; rfl)) ?_; (with_reducible refine (terracelaw16_awake.calls k1  t146 _ A63.out).mono ?_); rintro e w64 ⟨rfl, hb⟩; refine ⟨_, rfl, ?_⟩; have n0_ := Aside0.mk (IsS47.below (by repeat (first | (with_reducible first | exact HI145.out | apply IsS47.alloc | apply IsS47.drewN | apply IsS47.drew | apply IsS47.set_0 | apply IsS47.set_1) | exact HI145.out)) hb); have n1_ := Aside0.mk (below_step (by repeat (first | (with_reducible first | exact HB.out | apply below_alloc | apply pw_below_drewN | apply below_drew1 | refine below_set ?_ (IsS47.ge HI145.out)) | exact HB.out)) hb); clear HI145; clear HB; have HI145 := n0_; have HB := n1_; clear n0_ n1_; (try clear hb); (try clear hb2); (try clear hk); (try clear hi)))
          go_ret
          exact ⟨by first | rfl | (simp [errW_none, errW_some] <;> rfl) | (simp [*, errW_none, errW_some] <;> rfl), by repeat (first | (with_reducible first | exact HB.out | apply below_alloc | apply pw_below_drewN | apply below_drew1 | refine below_set ?_ (IsS47.ge HI145.out)) | exact HB.out)⟩

def okS35 (x : S35) : Prop := ((Lit.int .i64 x.f0).wf = true) ∧ ((Lit.int .i64 x.f1).wf = true) ∧ ((Lit.int .i64 x.f2).wf = true)
/-- THE ONE PURE STATEMENT of terracelaw16_TripBetween. -/
def terracelaw16_TripBetween.Pure : Prop := ∀ (a0 : Int) (l1 : List (S35)), (Lit.int .u64 a0).wf = true → l1.length ≤ maxLen → (∀ y_ ∈ l1, okS35 y_) → ∃ k, terracelaw16_TripBetween.f k a0 l1 = some true

end Go.Proofs.Ytbcbmgdnkagmmaa.PTripBetween
