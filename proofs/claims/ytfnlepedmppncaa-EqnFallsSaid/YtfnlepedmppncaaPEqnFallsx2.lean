-- Written by ext.sh (the session's own program, over the kit's printer) out of the translation. Lean checks it.
import Derived.Test.YtfnlepedmppncaaPEqnFallsx0
import Derived.Test.YtfnlepedmppncaaPEqnFallsx1
namespace Go.Proofs.Ytfnlepedmppncaa.PEqnFalls
open Go.RowKit Go.Proofs.YtfnlepedmppncaaW.PrintWords Go.Proofs.YtfnlepedmppncaaW.PrintLast Go.Proofs.YtfnlepedmppncaaW.PrintMore
attribute [local go_sem] max2_int min2_int max_two min_two max_three min_three max_four min_four   -- for this text's walks alone
set_option linter.unusedVariables false
set_option linter.unusedSimpArgs false

/-! ### fix_F_Root: function 29 -/
def fix_F_Root.l0 : Nat → Int → Int → Int → Option (Int)
  | 0, _, _, _ => none
  | k + 1, x0, x3, x4 => if x4 ≥ 0 then (if 0 ≤ x4 then ((bits_Mul64.f (Go.bits .or .u64 x3 (shl .u64 1 x4)) (Go.bits .or .u64 x3 (shl .u64 1 x4))).bind fun bt109 => (if bt109.1 < (x0 / 4294967296) then (fix_F_Root.l0 k x0 (Go.bits .or .u64 x3 (shl .u64 1 x4)) (wrap64 (x4 - 1))) else (if bt109.1 = (x0 / 4294967296) then (if bt109.2 ≤ (IntKind.u64.wrap (x0 * 4294967296)) then (fix_F_Root.l0 k x0 (Go.bits .or .u64 x3 (shl .u64 1 x4)) (wrap64 (x4 - 1))) else (fix_F_Root.l0 k x0 x3 (wrap64 (x4 - 1)))) else (fix_F_Root.l0 k x0 x3 (wrap64 (x4 - 1)))))) else (none)) else (some x3)
def fix_F_Root.f (k : Nat) (a0 : Int) : Option (Int) := fix_F_Root.l0 k a0 0 47
theorem fix_F_Root.mono_l : ∀ k, (∀ y0 y1 y2, LeO (fix_F_Root.l0 k y0 y1 y2) (fix_F_Root.l0 (k + 1) y0 y1 y2))
  | 0 => fun _ _ _ r h => by simp [fix_F_Root.l0] at h
  | k + 1 => by
    have ih0 := fix_F_Root.mono_l k
    · intro y0 y1 y2
      unfold fix_F_Root.l0
      repeat' first
      | (with_reducible exact ih0 _ _ _)
      | (with_reducible exact LeO.refl _)
      | (with_reducible exact LeO.none _)
      | (with_reducible refine LeO.ite ?_ ?_)
      | (with_reducible refine LeO.bind ?_ (fun _ => ?_))
      | exact ih0 _ _ _
      | exact LeO.none _
      | refine LeO.ite ?_ ?_
      | refine LeO.bind ?_ (fun _ => ?_)
theorem fix_F_Root.mono : ∀ a0 k, LeO (fix_F_Root.f k a0) (fix_F_Root.f (k + 1) a0) := by
  intro a0 k
  have ih0 := fix_F_Root.mono_l k
  unfold fix_F_Root.f
  repeat' first
      | (with_reducible exact ih0 _ _ _)
      | (with_reducible exact LeO.refl _)
      | (with_reducible exact LeO.none _)
      | (with_reducible refine LeO.ite ?_ ?_)
      | (with_reducible refine LeO.bind ?_ (fun _ => ?_))
      | exact ih0 _ _ _
      | exact LeO.none _
      | refine LeO.ite ?_ ?_
      | refine LeO.bind ?_ (fun _ => ?_)
set_option maxHeartbeats 8000000 in
set_option maxRecDepth 100000 in
theorem fix_F_Root.calls (k : Nat) (a0 : Int) (r : Int) (w : World) (h : fix_F_Root.f k a0 = some r) :
    Calls Try.prog 29 #[.int .u64 a0] w fun e w' => e = .returned (.int .u64 r) ∧ Drawn0 w w' := by
  have H : (fix_F_Root.l0 k a0 0 47) = some r := h
  clear h
  have H' := Aside0.mk H
  clear H
  go_enter Try.func29, Try.ntmps29
  go_wp2
  go_loopg [3, 4] k (fun kq v3 v4 w' => ∃ (x3_1 : Int) (x4_1 : Int), v3 = .int .u64 x3_1 ∧ v4 = .int .i64 x4_1 ∧ Aside0 (fix_F_Root.l0 kq a0 x3_1 x4_1 = some r) ∧ Aside0 (kq ≤ k) ∧ Drawn0 w w')
  case atStart => exact ⟨(0), (47), (by first | rfl | (simp; done) | (simp [*]; done)), (by first | rfl | (simp; done) | (simp [*]; done)), H', ⟨Nat.le_refl _⟩, by repeat (first | exact Drawn0.refl _ | apply Drawn0.step)⟩
  case round =>
    clear H'
    obtain ⟨x3_1, x4_1, rfl, rfl, HA, HK1, ⟨m1, rfl⟩⟩ := hrel
    cases gk with
    | zero => exact absurd HA.out (by simp [fix_F_Root.l0])
    | succ k1 =>
      have H := HA.out
      clear HA
      simp only [fix_F_Root.l0] at H
      by_cases c2 : x4_1 ≥ 0
      · rw [if_pos c2] at H
        have c2b0 : decide (0 ≤ x4_1) = true := decide_eq_true c2
        clear c2
        by_cases c3 : 0 ≤ x4_1
        · rw [if_pos c3] at H
          have c3b0 := eq_true c3
          have c3b1 : decide (0 ≤ x4_1) = true := decide_eq_true c3
          clear c3
          obtain ⟨ji4, hji4⟩ : ∃ j_ : Int, (shl .u64 1 x4_1) = j_ := ⟨_, rfl⟩
          replace H : ((bits_Mul64.f (Go.bits .or .u64 x3_1 (ji4)) (Go.bits .or .u64 x3_1 (ji4))).bind fun bt109 => (if bt109.1 < (a0 / 4294967296) then (fix_F_Root.l0 k1 a0 (Go.bits .or .u64 x3_1 (ji4)) (wrap64 (x4_1 - 1))) else (if bt109.1 = (a0 / 4294967296) then (if bt109.2 ≤ (IntKind.u64.wrap (a0 * 4294967296)) then (fix_F_Root.l0 k1 a0 (Go.bits .or .u64 x3_1 (ji4)) (wrap64 (x4_1 - 1))) else (fix_F_Root.l0 k1 a0 x3_1 (wrap64 (x4_1 - 1)))) else (fix_F_Root.l0 k1 a0 x3_1 (wrap64 (x4_1 - 1)))))) = some r := by first | (rw [hji4] at H; exact H) | (simp only [hji4] at H ⊢; exact H)
          have hji4_ : (IntKind.u64.wrap (1 * 2 ^ min x4_1.toNat 64)) = ji4 := hji4
          have hji4z : x4_1 ≤ 64 → (IntKind.u64.wrap (1 * 2 ^ x4_1.toNat)) = ji4 := shl_small hji4
          have hji4u : (IntKind.u64.wrap (2 ^ min x4_1.toNat 64)) = ji4 := by have h_ := hji4_; rw [Int.one_mul] at h_; exact h_
          have hji4v : x4_1 ≤ 64 → (IntKind.u64.wrap (2 ^ x4_1.toNat)) = ji4 := fun hle_ => by have h_ := hji4z hle_; rw [Int.one_mul] at h_; exact h_
          replace H := Option.bind_eq_some_iff.mp H
          obtain ⟨⟨t109, t110⟩, A50, H⟩ := H
          replace H : (if t109 < (a0 / 4294967296) then (fix_F_Root.l0 k1 a0 (Go.bits .or .u64 x3_1 (ji4)) (wrap64 (x4_1 - 1))) else (if t109 = (a0 / 4294967296) then (if t110 ≤ (IntKind.u64.wrap (a0 * 4294967296)) then (fix_F_Root.l0 k1 a0 (Go.bits .or .u64 x3_1 (ji4)) (wrap64 (x4_1 - 1))) else (fix_F_Root.l0 k1 a0 x3_1 (wrap64 (x4_1 - 1)))) else (fix_F_Root.l0 k1 a0 x3_1 (wrap64 (x4_1 - 1))))) = some r := H
          have A5 := Aside0.mk A50
          clear A50
          by_cases c6 : t109 < (a0 / 4294967296)
          · rw [if_pos c6] at H
            have c6b0 : decide (t109 < (a0 / 4294967296)) = true := decide_eq_true c6
            clear c6
            have H' := Aside0.mk H
            clear H
            go_wp2_with (first | ((with_reducible refine gate_callee (f := 28) rfl ?_); refine goesL_ (some 19) rfl rfl Try.func28 (by kernel_rfl) rfl #[.int .u64 (Go.bits .or .u64 x3_1 (ji4)), .int .u64 (Go.bits .or .u64 x3_1 (ji4))] rfl (by (try simp only [List.map_toArray, List.map_cons, List.map_nil]); first | done | (simp only [hji4]; rfl) | rfl | (simp only [List.length_drop, List.length_take]; rfl)) ?_; (with_reducible refine (bits_Mul64.calls (Go.bits .or .u64 x3_1 (ji4)) (Go.bits .or .u64 x3_1 (ji4)) t109 t110 _ A5.out).mono ?_); rintro e w' ⟨rfl, ⟨nd, rfl⟩⟩; refine ⟨_, rfl, ?_⟩))
            go_roundg k1
            case measure => have := HK1.out; omega
            case rel => exact ⟨(Go.bits .or .u64 x3_1 (ji4)), (wrap64 (x4_1 - 1)), (by first | rfl | (simp; done) | (simp only [← hji4] <;> (first | rfl | simp)) | (simp [*]; done)), (by first | rfl | (simp; done) | (simp [*]; done)), H', ⟨by have := HK1.out; omega⟩, by repeat (first | exact Drawn0.refl _ | apply Drawn0.step)⟩
          · rw [if_neg c6] at H
            have c6b0 : decide (t109 < (a0 / 4294967296)) = false := decide_eq_false c6
            clear c6
            by_cases c7 : t109 = (a0 / 4294967296)
            · rw [if_pos c7] at H
              have c7b0 : (t109 == (a0 / 4294967296)) = true := beq_iff_eq.mpr c7
              have c7b1 : (t109 != (a0 / 4294967296)) = false := bne_eq_false_iff_eq.mpr c7
              clear c7
              by_cases c8 : t110 ≤ (IntKind.u64.wrap (a0 * 4294967296))
              · rw [if_pos c8] at H
                have c8b0 : decide (t110 ≤ (IntKind.u64.wrap (a0 * 4294967296))) = true := decide_eq_true c8
                clear c8
                have H' := Aside0.mk H
                clear H
                go_wp2_with (first | ((with_reducible refine gate_callee (f := 28) rfl ?_); refine goesL_ (some 19) rfl rfl Try.func28 (by kernel_rfl) rfl #[.int .u64 (Go.bits .or .u64 x3_1 (ji4)), .int .u64 (Go.bits .or .u64 x3_1 (ji4))] rfl (by (try simp only [List.map_toArray, List.map_cons, List.map_nil]); first | done | (simp only [hji4]; rfl) | rfl | (simp only [List.length_drop, List.length_take]; rfl)) ?_; (with_reducible refine (bits_Mul64.calls (Go.bits .or .u64 x3_1 (ji4)) (Go.bits .or .u64 x3_1 (ji4)) t109 t110 _ A5.out).mono ?_); rintro e w' ⟨rfl, ⟨nd, rfl⟩⟩; refine ⟨_, rfl, ?_⟩))
                go_roundg k1
                case measure => have := HK1.out; omega
                case rel => exact ⟨(Go.bits .or .u64 x3_1 (ji4)), (wrap64 (x4_1 - 1)), (by first | rfl | (simp; done) | (simp only [← hji4] <;> (first | rfl | simp)) | (simp [*]; done)), (by first | rfl | (simp; done) | (simp [*]; done)), H', ⟨by have := HK1.out; omega⟩, by repeat (first | exact Drawn0.refl _ | apply Drawn0.step)⟩
              · rw [if_neg c8] at H
                have c8b0 : decide (t110 ≤ (IntKind.u64.wrap (a0 * 4294967296))) = false := decide_eq_false c8
                clear c8
                have H' := Aside0.mk H
                clear H
                go_wp2_with (first | ((with_reducible refine gate_callee (f := 28) rfl ?_); refine goesL_ (some 19) rfl rfl Try.func28 (by kernel_rfl) rfl #[.int .u64 (Go.bits .or .u64 x3_1 (ji4)), .int .u64 (Go.bits .or .u64 x3_1 (ji4))] rfl (by (try simp only [List.map_toArray, List.map_cons, List.map_nil]); first | done | (simp only [hji4]; rfl) | rfl | (simp only [List.length_drop, List.length_take]; rfl)) ?_; (with_reducible refine (bits_Mul64.calls (Go.bits .or .u64 x3_1 (ji4)) (Go.bits .or .u64 x3_1 (ji4)) t109 t110 _ A5.out).mono ?_); rintro e w' ⟨rfl, ⟨nd, rfl⟩⟩; refine ⟨_, rfl, ?_⟩))
                go_roundg k1
                case measure => have := HK1.out; omega
                case rel => exact ⟨(x3_1), (wrap64 (x4_1 - 1)), (by first | rfl | (simp; done) | (simp [*]; done)), (by first | rfl | (simp; done) | (simp [*]; done)), H', ⟨by have := HK1.out; omega⟩, by repeat (first | exact Drawn0.refl _ | apply Drawn0.step)⟩
            · rw [if_neg c7] at H
              have c7b0 : (t109 == (a0 / 4294967296)) = false := beq_eq_false_iff_ne.mpr c7
              have c7b1 : (t109 != (a0 / 4294967296)) = true := bne_iff_ne.mpr c7
              have H' := Aside0.mk H
              clear H
              go_wp2_with (first | ((with_reducible refine gate_callee (f := 28) rfl ?_); refine goesL_ (some 19) rfl rfl Try.func28 (by kernel_rfl) rfl #[.int .u64 (Go.bits .or .u64 x3_1 (ji4)), .int .u64 (Go.bits .or .u64 x3_1 (ji4))] rfl (by (try simp only [List.map_toArray, List.map_cons, List.map_nil]); first | done | (simp only [hji4]; rfl) | rfl | (simp only [List.length_drop, List.length_take]; rfl)) ?_; (with_reducible refine (bits_Mul64.calls (Go.bits .or .u64 x3_1 (ji4)) (Go.bits .or .u64 x3_1 (ji4)) t109 t110 _ A5.out).mono ?_); rintro e w' ⟨rfl, ⟨nd, rfl⟩⟩; refine ⟨_, rfl, ?_⟩))
              go_roundg k1
              case measure => have := HK1.out; omega
              case rel => exact ⟨(x3_1), (wrap64 (x4_1 - 1)), (by first | rfl | (simp; done) | (simp [*]; done)), (by first | rfl | (simp; done) | (simp [*]; done)), H', ⟨by have := HK1.out; omega⟩, by repeat (first | exact Drawn0.refl _ | apply Drawn0.step)⟩
        · rw [if_neg c3] at H
          exact absurd H (by simp)
      · rw [if_neg c2] at H
        have c2b0 : decide (0 ≤ x4_1) = false := decide_eq_false c2
        clear c2
        obtain rfl := Option.some.inj H
        go_wp2
        go_ret
        exact ⟨by first | rfl | (simp; done) | (simp [*]; done), by repeat (first | exact Drawn0.refl _ | apply Drawn0.step)⟩

/-! ### eqn_slope: function 18 -/
def eqn_slope.f (k : Nat) (a0 : Int) : Option (Int) := (fix_Ratio.f k 2 3).bind fun t111 => ((fix_F_Mul.f a0 t111).bind fun t112 => ((fix_F_Root.f k t112).bind fun t113 => ((fix_Of.f 12).bind fun t114 => ((fix_Ratio.f k 3 8).bind fun t115 => ((fix_F_Mul.f a0 t115).bind fun t116 => ((fix_F_Root.f k t116).bind fun t117 => ((fix_F_Mul.f t114 t117).bind fun t118 => ((fix_Of.f 32).bind fun t119 => ((fix_F_Mul.f a0 a0).bind fun t120 => ((fix_F_Mul.f t119 t120).bind fun t121 => ((fix_F_Add.f 4294967296 t121).bind fun t122 => ((fix_F_Mul.f a0 t122).bind fun t123 => ((fix_F_Mul.f t118 t123).bind fun t124 => ((fix_F_Add.f t113 t124).bind fun t125 => (some t125)))))))))))))))
theorem eqn_slope.mono : ∀ a0 k, LeO (eqn_slope.f k a0) (eqn_slope.f (k + 1) a0) := by
  intro a0 k
  unfold eqn_slope.f
  repeat' first
      | (with_reducible exact fix_F_Root.mono _ _)
      | (with_reducible exact fix_Ratio.mono _ _ _)
      | (with_reducible exact LeO.refl _)
      | (with_reducible exact LeO.none _)
      | (with_reducible refine LeO.ite ?_ ?_)
      | (with_reducible refine LeO.bind ?_ (fun _ => ?_))
      | exact fix_F_Root.mono _ _
      | exact fix_Ratio.mono _ _ _
      | exact LeO.none _
      | refine LeO.ite ?_ ?_
      | refine LeO.bind ?_ (fun _ => ?_)
set_option maxHeartbeats 8000000 in
set_option maxRecDepth 100000 in
theorem eqn_slope.calls (k : Nat) (a0 : Int) (r : Int) (w : World) (h : eqn_slope.f k a0 = some r) :
    Calls Try.prog 18 #[.int .u64 a0] w fun e w' => e = .returned (.int .u64 r) ∧ Drawn0 w w' := by
  have H : ((fix_Ratio.f k 2 3).bind fun t111 => ((fix_F_Mul.f a0 t111).bind fun t112 => ((fix_F_Root.f k t112).bind fun t113 => ((fix_Of.f 12).bind fun t114 => ((fix_Ratio.f k 3 8).bind fun t115 => ((fix_F_Mul.f a0 t115).bind fun t116 => ((fix_F_Root.f k t116).bind fun t117 => ((fix_F_Mul.f t114 t117).bind fun t118 => ((fix_Of.f 32).bind fun t119 => ((fix_F_Mul.f a0 a0).bind fun t120 => ((fix_F_Mul.f t119 t120).bind fun t121 => ((fix_F_Add.f 4294967296 t121).bind fun t122 => ((fix_F_Mul.f a0 t122).bind fun t123 => ((fix_F_Mul.f t118 t123).bind fun t124 => ((fix_F_Add.f t113 t124).bind fun t125 => (some t125)))))))))))))))) = some r := h
  clear h
  replace H := Option.bind_eq_some_iff.mp H
  obtain ⟨t111, A20, H⟩ := H
  replace H : ((fix_F_Mul.f a0 t111).bind fun t112 => ((fix_F_Root.f k t112).bind fun t113 => ((fix_Of.f 12).bind fun t114 => ((fix_Ratio.f k 3 8).bind fun t115 => ((fix_F_Mul.f a0 t115).bind fun t116 => ((fix_F_Root.f k t116).bind fun t117 => ((fix_F_Mul.f t114 t117).bind fun t118 => ((fix_Of.f 32).bind fun t119 => ((fix_F_Mul.f a0 a0).bind fun t120 => ((fix_F_Mul.f t119 t120).bind fun t121 => ((fix_F_Add.f 4294967296 t121).bind fun t122 => ((fix_F_Mul.f a0 t122).bind fun t123 => ((fix_F_Mul.f t118 t123).bind fun t124 => ((fix_F_Add.f t113 t124).bind fun t125 => (some t125))))))))))))))) = some r := H
  have A2 := Aside0.mk A20
  clear A20
  replace H := Option.bind_eq_some_iff.mp H
  obtain ⟨t112, A30, H⟩ := H
  replace H : ((fix_F_Root.f k t112).bind fun t113 => ((fix_Of.f 12).bind fun t114 => ((fix_Ratio.f k 3 8).bind fun t115 => ((fix_F_Mul.f a0 t115).bind fun t116 => ((fix_F_Root.f k t116).bind fun t117 => ((fix_F_Mul.f t114 t117).bind fun t118 => ((fix_Of.f 32).bind fun t119 => ((fix_F_Mul.f a0 a0).bind fun t120 => ((fix_F_Mul.f t119 t120).bind fun t121 => ((fix_F_Add.f 4294967296 t121).bind fun t122 => ((fix_F_Mul.f a0 t122).bind fun t123 => ((fix_F_Mul.f t118 t123).bind fun t124 => ((fix_F_Add.f t113 t124).bind fun t125 => (some t125)))))))))))))) = some r := H
  have A3 := Aside0.mk A30
  clear A30
  replace H := Option.bind_eq_some_iff.mp H
  obtain ⟨t113, A40, H⟩ := H
  replace H : ((fix_Of.f 12).bind fun t114 => ((fix_Ratio.f k 3 8).bind fun t115 => ((fix_F_Mul.f a0 t115).bind fun t116 => ((fix_F_Root.f k t116).bind fun t117 => ((fix_F_Mul.f t114 t117).bind fun t118 => ((fix_Of.f 32).bind fun t119 => ((fix_F_Mul.f a0 a0).bind fun t120 => ((fix_F_Mul.f t119 t120).bind fun t121 => ((fix_F_Add.f 4294967296 t121).bind fun t122 => ((fix_F_Mul.f a0 t122).bind fun t123 => ((fix_F_Mul.f t118 t123).bind fun t124 => ((fix_F_Add.f t113 t124).bind fun t125 => (some t125))))))))))))) = some r := H
  have A4 := Aside0.mk A40
  clear A40
  replace H := Option.bind_eq_some_iff.mp H
  obtain ⟨t114, A50, H⟩ := H
  replace H : ((fix_Ratio.f k 3 8).bind fun t115 => ((fix_F_Mul.f a0 t115).bind fun t116 => ((fix_F_Root.f k t116).bind fun t117 => ((fix_F_Mul.f t114 t117).bind fun t118 => ((fix_Of.f 32).bind fun t119 => ((fix_F_Mul.f a0 a0).bind fun t120 => ((fix_F_Mul.f t119 t120).bind fun t121 => ((fix_F_Add.f 4294967296 t121).bind fun t122 => ((fix_F_Mul.f a0 t122).bind fun t123 => ((fix_F_Mul.f t118 t123).bind fun t124 => ((fix_F_Add.f t113 t124).bind fun t125 => (some t125)))))))))))) = some r := H
  have A5 := Aside0.mk A50
  clear A50
  replace H := Option.bind_eq_some_iff.mp H
  obtain ⟨t115, A60, H⟩ := H
  replace H : ((fix_F_Mul.f a0 t115).bind fun t116 => ((fix_F_Root.f k t116).bind fun t117 => ((fix_F_Mul.f t114 t117).bind fun t118 => ((fix_Of.f 32).bind fun t119 => ((fix_F_Mul.f a0 a0).bind fun t120 => ((fix_F_Mul.f t119 t120).bind fun t121 => ((fix_F_Add.f 4294967296 t121).bind fun t122 => ((fix_F_Mul.f a0 t122).bind fun t123 => ((fix_F_Mul.f t118 t123).bind fun t124 => ((fix_F_Add.f t113 t124).bind fun t125 => (some t125))))))))))) = some r := H
  have A6 := Aside0.mk A60
  clear A60
  replace H := Option.bind_eq_some_iff.mp H
  obtain ⟨t116, A70, H⟩ := H
  replace H : ((fix_F_Root.f k t116).bind fun t117 => ((fix_F_Mul.f t114 t117).bind fun t118 => ((fix_Of.f 32).bind fun t119 => ((fix_F_Mul.f a0 a0).bind fun t120 => ((fix_F_Mul.f t119 t120).bind fun t121 => ((fix_F_Add.f 4294967296 t121).bind fun t122 => ((fix_F_Mul.f a0 t122).bind fun t123 => ((fix_F_Mul.f t118 t123).bind fun t124 => ((fix_F_Add.f t113 t124).bind fun t125 => (some t125)))))))))) = some r := H
  have A7 := Aside0.mk A70
  clear A70
  replace H := Option.bind_eq_some_iff.mp H
  obtain ⟨t117, A80, H⟩ := H
  replace H : ((fix_F_Mul.f t114 t117).bind fun t118 => ((fix_Of.f 32).bind fun t119 => ((fix_F_Mul.f a0 a0).bind fun t120 => ((fix_F_Mul.f t119 t120).bind fun t121 => ((fix_F_Add.f 4294967296 t121).bind fun t122 => ((fix_F_Mul.f a0 t122).bind fun t123 => ((fix_F_Mul.f t118 t123).bind fun t124 => ((fix_F_Add.f t113 t124).bind fun t125 => (some t125))))))))) = some r := H
  have A8 := Aside0.mk A80
  clear A80
  replace H := Option.bind_eq_some_iff.mp H
  obtain ⟨t118, A90, H⟩ := H
  replace H : ((fix_Of.f 32).bind fun t119 => ((fix_F_Mul.f a0 a0).bind fun t120 => ((fix_F_Mul.f t119 t120).bind fun t121 => ((fix_F_Add.f 4294967296 t121).bind fun t122 => ((fix_F_Mul.f a0 t122).bind fun t123 => ((fix_F_Mul.f t118 t123).bind fun t124 => ((fix_F_Add.f t113 t124).bind fun t125 => (some t125)))))))) = some r := H
  have A9 := Aside0.mk A90
  clear A90
  replace H := Option.bind_eq_some_iff.mp H
  obtain ⟨t119, A100, H⟩ := H
  replace H : ((fix_F_Mul.f a0 a0).bind fun t120 => ((fix_F_Mul.f t119 t120).bind fun t121 => ((fix_F_Add.f 4294967296 t121).bind fun t122 => ((fix_F_Mul.f a0 t122).bind fun t123 => ((fix_F_Mul.f t118 t123).bind fun t124 => ((fix_F_Add.f t113 t124).bind fun t125 => (some t125))))))) = some r := H
  have A10 := Aside0.mk A100
  clear A100
  replace H := Option.bind_eq_some_iff.mp H
  obtain ⟨t120, A110, H⟩ := H
  replace H : ((fix_F_Mul.f t119 t120).bind fun t121 => ((fix_F_Add.f 4294967296 t121).bind fun t122 => ((fix_F_Mul.f a0 t122).bind fun t123 => ((fix_F_Mul.f t118 t123).bind fun t124 => ((fix_F_Add.f t113 t124).bind fun t125 => (some t125)))))) = some r := H
  have A11 := Aside0.mk A110
  clear A110
  replace H := Option.bind_eq_some_iff.mp H
  obtain ⟨t121, A120, H⟩ := H
  replace H : ((fix_F_Add.f 4294967296 t121).bind fun t122 => ((fix_F_Mul.f a0 t122).bind fun t123 => ((fix_F_Mul.f t118 t123).bind fun t124 => ((fix_F_Add.f t113 t124).bind fun t125 => (some t125))))) = some r := H
  have A12 := Aside0.mk A120
  clear A120
  replace H := Option.bind_eq_some_iff.mp H
  obtain ⟨t122, A130, H⟩ := H
  replace H : ((fix_F_Mul.f a0 t122).bind fun t123 => ((fix_F_Mul.f t118 t123).bind fun t124 => ((fix_F_Add.f t113 t124).bind fun t125 => (some t125)))) = some r := H
  have A13 := Aside0.mk A130
  clear A130
  replace H := Option.bind_eq_some_iff.mp H
  obtain ⟨t123, A140, H⟩ := H
  replace H : ((fix_F_Mul.f t118 t123).bind fun t124 => ((fix_F_Add.f t113 t124).bind fun t125 => (some t125))) = some r := H
  have A14 := Aside0.mk A140
  clear A140
  replace H := Option.bind_eq_some_iff.mp H
  obtain ⟨t124, A150, H⟩ := H
  replace H : ((fix_F_Add.f t113 t124).bind fun t125 => (some t125)) = some r := H
  have A15 := Aside0.mk A150
  clear A150
  replace H := Option.bind_eq_some_iff.mp H
  obtain ⟨t125, A160, H⟩ := H
  replace H : (some t125) = some r := H
  have A16 := Aside0.mk A160
  clear A160
  obtain rfl := Option.some.inj H
  go_enter Try.func18, Try.ntmps18
  go_wp2_with (first | ((with_reducible refine gate_callee (f := 19) rfl ?_); refine goesL_ (some 7) rfl rfl Try.func19 (by kernel_rfl) rfl #[.int .u64 2, .int .u64 3] rfl (by (try simp only [List.map_toArray, List.map_cons, List.map_nil]); first | done | rfl | (simp only [List.length_drop, List.length_take]; rfl)) ?_; (with_reducible refine (fix_Ratio.calls k 2 3 t111 _ A2.out).mono ?_); rintro e w' ⟨rfl, ⟨nd, rfl⟩⟩; refine ⟨_, rfl, ?_⟩) | ((with_reducible refine gate_callee (f := 17) rfl ?_); refine goesL_ (some 8) rfl rfl Try.func17 (by kernel_rfl) rfl #[.int .u64 a0, .int .u64 t111] rfl (by (try simp only [List.map_toArray, List.map_cons, List.map_nil]); first | done | rfl | (simp only [List.length_drop, List.length_take]; rfl)) ?_; (with_reducible refine (fix_F_Mul.calls a0 t111 t112 _ A3.out).mono ?_); rintro e w' ⟨rfl, ⟨nd, rfl⟩⟩; refine ⟨_, rfl, ?_⟩) | ((with_reducible refine gate_callee (f := 29) rfl ?_); refine goesL_ (some 9) rfl rfl Try.func29 (by kernel_rfl) rfl #[.int .u64 t112] rfl (by (try simp only [List.map_toArray, List.map_cons, List.map_nil]); first | done | rfl | (simp only [List.length_drop, List.length_take]; rfl)) ?_; (with_reducible refine (fix_F_Root.calls k t112 t113 _ A4.out).mono ?_); rintro e w' ⟨rfl, ⟨nd, rfl⟩⟩; refine ⟨_, rfl, ?_⟩) | ((with_reducible refine gate_callee (f := 15) rfl ?_); refine goesL_ (some 10) rfl rfl Try.func15 (by kernel_rfl) rfl #[.int .u32 12] rfl (by (try simp only [List.map_toArray, List.map_cons, List.map_nil]); first | done | rfl | (simp only [List.length_drop, List.length_take]; rfl)) ?_; (with_reducible refine (fix_Of.calls 12 t114 _ A5.out).mono ?_); rintro e w' ⟨rfl, ⟨nd, rfl⟩⟩; refine ⟨_, rfl, ?_⟩) | ((with_reducible refine gate_callee (f := 19) rfl ?_); refine goesL_ (some 12) rfl rfl Try.func19 (by kernel_rfl) rfl #[.int .u64 3, .int .u64 8] rfl (by (try simp only [List.map_toArray, List.map_cons, List.map_nil]); first | done | rfl | (simp only [List.length_drop, List.length_take]; rfl)) ?_; (with_reducible refine (fix_Ratio.calls k 3 8 t115 _ A6.out).mono ?_); rintro e w' ⟨rfl, ⟨nd, rfl⟩⟩; refine ⟨_, rfl, ?_⟩) | ((with_reducible refine gate_callee (f := 17) rfl ?_); refine goesL_ (some 13) rfl rfl Try.func17 (by kernel_rfl) rfl #[.int .u64 a0, .int .u64 t115] rfl (by (try simp only [List.map_toArray, List.map_cons, List.map_nil]); first | done | rfl | (simp only [List.length_drop, List.length_take]; rfl)) ?_; (with_reducible refine (fix_F_Mul.calls a0 t115 t116 _ A7.out).mono ?_); rintro e w' ⟨rfl, ⟨nd, rfl⟩⟩; refine ⟨_, rfl, ?_⟩) | ((with_reducible refine gate_callee (f := 29) rfl ?_); refine goesL_ (some 14) rfl rfl Try.func29 (by kernel_rfl) rfl #[.int .u64 t116] rfl (by (try simp only [List.map_toArray, List.map_cons, List.map_nil]); first | done | rfl | (simp only [List.length_drop, List.length_take]; rfl)) ?_; (with_reducible refine (fix_F_Root.calls k t116 t117 _ A8.out).mono ?_); rintro e w' ⟨rfl, ⟨nd, rfl⟩⟩; refine ⟨_, rfl, ?_⟩) | ((with_reducible refine gate_callee (f := 17) rfl ?_); refine goesL_ (some 15) rfl rfl Try.func17 (by kernel_rfl) rfl #[.int .u64 t114, .int .u64 t117] rfl (by (try simp only [List.map_toArray, List.map_cons, List.map_nil]); first | done | rfl | (simp only [List.length_drop, List.length_take]; rfl)) ?_; (with_reducible refine (fix_F_Mul.calls t114 t117 t118 _ A9.out).mono ?_); rintro e w' ⟨rfl, ⟨nd, rfl⟩⟩; refine ⟨_, rfl, ?_⟩) | ((with_reducible refine gate_callee (f := 15) rfl ?_); refine goesL_ (some 17) rfl rfl Try.func15 (by kernel_rfl) rfl #[.int .u32 32] rfl (by (try simp only [List.map_toArray, List.map_cons, List.map_nil]); first | done | rfl | (simp only [List.length_drop, List.length_take]; rfl)) ?_; (with_reducible refine (fix_Of.calls 32 t119 _ A10.out).mono ?_); rintro e w' ⟨rfl, ⟨nd, rfl⟩⟩; refine ⟨_, rfl, ?_⟩) | ((with_reducible refine gate_callee (f := 17) rfl ?_); refine goesL_ (some 20) rfl rfl Try.func17 (by kernel_rfl) rfl #[.int .u64 a0, .int .u64 a0] rfl (by (try simp only [List.map_toArray, List.map_cons, List.map_nil]); first | done | rfl | (simp only [List.length_drop, List.length_take]; rfl)) ?_; (with_reducible refine (fix_F_Mul.calls a0 a0 t120 _ A11.out).mono ?_); rintro e w' ⟨rfl, ⟨nd, rfl⟩⟩; refine ⟨_, rfl, ?_⟩) | ((with_reducible refine gate_callee (f := 17) rfl ?_); refine goesL_ (some 21) rfl rfl Try.func17 (by kernel_rfl) rfl #[.int .u64 t119, .int .u64 t120] rfl (by (try simp only [List.map_toArray, List.map_cons, List.map_nil]); first | done | rfl | (simp only [List.length_drop, List.length_take]; rfl)) ?_; (with_reducible refine (fix_F_Mul.calls t119 t120 t121 _ A12.out).mono ?_); rintro e w' ⟨rfl, ⟨nd, rfl⟩⟩; refine ⟨_, rfl, ?_⟩) | ((with_reducible refine gate_callee (f := 11) rfl ?_); refine goesL_ (some 22) rfl rfl Try.func11 (by kernel_rfl) rfl #[.int .u64 4294967296, .int .u64 t121] rfl (by (try simp only [List.map_toArray, List.map_cons, List.map_nil]); first | done | rfl | (simp only [List.length_drop, List.length_take]; rfl)) ?_; (with_reducible refine (fix_F_Add.calls 4294967296 t121 t122 _ A13.out).mono ?_); rintro e w' ⟨rfl, ⟨nd, rfl⟩⟩; refine ⟨_, rfl, ?_⟩) | ((with_reducible refine gate_callee (f := 17) rfl ?_); refine goesL_ (some 23) rfl rfl Try.func17 (by kernel_rfl) rfl #[.int .u64 a0, .int .u64 t122] rfl (by (try simp only [List.map_toArray, List.map_cons, List.map_nil]); first | done | rfl | (simp only [List.length_drop, List.length_take]; rfl)) ?_; (with_reducible refine (fix_F_Mul.calls a0 t122 t123 _ A14.out).mono ?_); rintro e w' ⟨rfl, ⟨nd, rfl⟩⟩; refine ⟨_, rfl, ?_⟩) | ((with_reducible refine gate_callee (f := 17) rfl ?_); refine goesL_ (some 27) rfl rfl Try.func17 (by kernel_rfl) rfl #[.int .u64 t118, .int .u64 t123] rfl (by (try simp only [List.map_toArray, List.map_cons, List.map_nil]); first | done | rfl | (simp only [List.length_drop, List.length_take]; rfl)) ?_; (with_reducible refine (fix_F_Mul.calls t118 t123 t124 _ A15.out).mono ?_); rintro e w' ⟨rfl, ⟨nd, rfl⟩⟩; refine ⟨_, rfl, ?_⟩) | ((with_reducible refine gate_callee (f := 11) rfl ?_); refine goesL_ (some 28) rfl rfl Try.func11 (by kernel_rfl) rfl #[.int .u64 t113, .int .u64 t124] rfl (by (try simp only [List.map_toArray, List.map_cons, List.map_nil]); first | done | rfl | (simp only [List.length_drop, List.length_take]; rfl)) ?_; (with_reducible refine (fix_F_Add.calls t113 t124 t125 _ A16.out).mono ?_); rintro e w' ⟨rfl, ⟨nd, rfl⟩⟩; refine ⟨_, rfl, ?_⟩))
  go_ret
  exact ⟨by first | rfl | (simp; done) | (simp [*]; done), by repeat (first | exact Drawn0.refl _ | apply Drawn0.step)⟩

/-! ### eqn_Rate: function 8 -/
def eqn_Rate.f (k : Nat) (a0 : Int) (a1 : Int) (a2 : Int) : Option (Int) := if a2 = 0 then (some 18446744073709551615) else ((fix_Of.f a0).bind fun t126 => ((eqn_slope.f k a2).bind fun t127 => ((fix_F_Mul.f a1 t127).bind fun t128 => ((fix_F_Div.f k t126 t128).bind fun t129 => (some t129)))))
theorem eqn_Rate.mono : ∀ a0 a1 a2 k, LeO (eqn_Rate.f k a0 a1 a2) (eqn_Rate.f (k + 1) a0 a1 a2) := by
  intro a0 a1 a2 k
  unfold eqn_Rate.f
  repeat' first
      | (with_reducible exact eqn_slope.mono _ _)
      | (with_reducible exact fix_F_Div.mono _ _ _)
      | (with_reducible exact LeO.refl _)
      | (with_reducible exact LeO.none _)
      | (with_reducible refine LeO.ite ?_ ?_)
      | (with_reducible refine LeO.bind ?_ (fun _ => ?_))
      | exact eqn_slope.mono _ _
      | exact fix_F_Div.mono _ _ _
      | exact LeO.none _
      | refine LeO.ite ?_ ?_
      | refine LeO.bind ?_ (fun _ => ?_)
set_option maxHeartbeats 8000000 in
set_option maxRecDepth 100000 in
theorem eqn_Rate.calls (k : Nat) (a0 : Int) (a1 : Int) (a2 : Int) (r : Int) (w : World) (h : eqn_Rate.f k a0 a1 a2 = some r) :
    Calls Try.prog 8 #[.int .u32 a0, .int .u64 a1, .int .u64 a2] w fun e w' => e = .returned (.int .u64 r) ∧ Drawn0 w w' := by
  have H : (if a2 = 0 then (some 18446744073709551615) else ((fix_Of.f a0).bind fun t126 => ((eqn_slope.f k a2).bind fun t127 => ((fix_F_Mul.f a1 t127).bind fun t128 => ((fix_F_Div.f k t126 t128).bind fun t129 => (some t129)))))) = some r := h
  clear h
  by_cases c4 : a2 = 0
  · rw [if_pos c4] at H
    have c4b0 : (a2 == 0) = true := beq_iff_eq.mpr c4
    have c4b1 : (a2 != 0) = false := bne_eq_false_iff_eq.mpr c4
    clear c4
    obtain rfl := Option.some.inj H
    go_enter Try.func8, Try.ntmps8
    go_wp2
    go_ret
    exact ⟨by first | rfl | (simp; done) | (simp [*]; done), by repeat (first | exact Drawn0.refl _ | apply Drawn0.step)⟩
  · rw [if_neg c4] at H
    have c4b0 : (a2 == 0) = false := beq_eq_false_iff_ne.mpr c4
    have c4b1 : (a2 != 0) = true := bne_iff_ne.mpr c4
    replace H := Option.bind_eq_some_iff.mp H
    obtain ⟨t126, A50, H⟩ := H
    replace H : ((eqn_slope.f k a2).bind fun t127 => ((fix_F_Mul.f a1 t127).bind fun t128 => ((fix_F_Div.f k t126 t128).bind fun t129 => (some t129)))) = some r := H
    have A5 := Aside0.mk A50
    clear A50
    replace H := Option.bind_eq_some_iff.mp H
    obtain ⟨t127, A60, H⟩ := H
    replace H : ((fix_F_Mul.f a1 t127).bind fun t128 => ((fix_F_Div.f k t126 t128).bind fun t129 => (some t129))) = some r := H
    have A6 := Aside0.mk A60
    clear A60
    replace H := Option.bind_eq_some_iff.mp H
    obtain ⟨t128, A70, H⟩ := H
    replace H : ((fix_F_Div.f k t126 t128).bind fun t129 => (some t129)) = some r := H
    have A7 := Aside0.mk A70
    clear A70
    replace H := Option.bind_eq_some_iff.mp H
    obtain ⟨t129, A80, H⟩ := H
    replace H : (some t129) = some r := H
    have A8 := Aside0.mk A80
    clear A80
    obtain rfl := Option.some.inj H
    go_enter Try.func8, Try.ntmps8
    go_wp2_with (first | ((with_reducible refine gate_callee (f := 15) rfl ?_); refine goesL_ (some 10) rfl rfl Try.func15 (by kernel_rfl) rfl #[.int .u32 a0] rfl (by (try simp only [List.map_toArray, List.map_cons, List.map_nil]); first | done | rfl | (simp only [List.length_drop, List.length_take]; rfl)) ?_; (with_reducible refine (fix_Of.calls a0 t126 _ A5.out).mono ?_); rintro e w' ⟨rfl, ⟨nd, rfl⟩⟩; refine ⟨_, rfl, ?_⟩) | ((with_reducible refine gate_callee (f := 18) rfl ?_); refine goesL_ (some 13) rfl rfl Try.func18 (by kernel_rfl) rfl #[.int .u64 a2] rfl (by (try simp only [List.map_toArray, List.map_cons, List.map_nil]); first | done | rfl | (simp only [List.length_drop, List.length_take]; rfl)) ?_; (with_reducible refine (eqn_slope.calls k a2 t127 _ A6.out).mono ?_); rintro e w' ⟨rfl, ⟨nd, rfl⟩⟩; refine ⟨_, rfl, ?_⟩) | ((with_reducible refine gate_callee (f := 17) rfl ?_); refine goesL_ (some 14) rfl rfl Try.func17 (by kernel_rfl) rfl #[.int .u64 a1, .int .u64 t127] rfl (by (try simp only [List.map_toArray, List.map_cons, List.map_nil]); first | done | rfl | (simp only [List.length_drop, List.length_take]; rfl)) ?_; (with_reducible refine (fix_F_Mul.calls a1 t127 t128 _ A7.out).mono ?_); rintro e w' ⟨rfl, ⟨nd, rfl⟩⟩; refine ⟨_, rfl, ?_⟩) | ((with_reducible refine gate_callee (f := 16) rfl ?_); refine goesL_ (some 15) rfl rfl Try.func16 (by kernel_rfl) rfl #[.int .u64 t126, .int .u64 t128] rfl (by (try simp only [List.map_toArray, List.map_cons, List.map_nil]); first | done | rfl | (simp only [List.length_drop, List.length_take]; rfl)) ?_; (with_reducible refine (fix_F_Div.calls k t126 t128 t129 _ A8.out).mono ?_); rintro e w' ⟨rfl, ⟨nd, rfl⟩⟩; refine ⟨_, rfl, ?_⟩))
    go_ret
    exact ⟨by first | rfl | (simp; done) | (simp [*]; done), by repeat (first | exact Drawn0.refl _ | apply Drawn0.step)⟩

/-! ### eqn_Loss: function 12 -/
def eqn_Loss.l0 : Nat → Int → Int → Int → Int → Int → Option (Int)
  | 0, _, _, _, _, _ => none
  | k + 1, x0, x1, x2, x7, x8 => if x7 < x8 then ((eqn_Rate.f k x0 x1 (IntKind.u64.wrap (x7 + (IntKind.u64.wrap (Int.tdiv (IntKind.u64.wrap (x8 - x7)) 2))))).bind fun t130 => (if t130 ≤ x2 then (eqn_Loss.l0 k x0 x1 x2 x7 (IntKind.u64.wrap (x7 + (IntKind.u64.wrap (Int.tdiv (IntKind.u64.wrap (x8 - x7)) 2))))) else (eqn_Loss.l0 k x0 x1 x2 (IntKind.u64.wrap ((IntKind.u64.wrap (x7 + (IntKind.u64.wrap (Int.tdiv (IntKind.u64.wrap (x8 - x7)) 2)))) + 1)) x8))) else (some x7)
def eqn_Loss.f (k : Nat) (a0 : Int) (a1 : Int) (a2 : Int) : Option (Int) := eqn_Loss.l0 k a0 a1 a2 1 4294967296
theorem eqn_Loss.mono_l : ∀ k, (∀ y0 y1 y2 y3 y4, LeO (eqn_Loss.l0 k y0 y1 y2 y3 y4) (eqn_Loss.l0 (k + 1) y0 y1 y2 y3 y4))
  | 0 => fun _ _ _ _ _ r h => by simp [eqn_Loss.l0] at h
  | k + 1 => by
    have ih0 := eqn_Loss.mono_l k
    · intro y0 y1 y2 y3 y4
      unfold eqn_Loss.l0
      repeat' first
      | (with_reducible exact ih0 _ _ _ _ _)
      | (with_reducible exact eqn_Rate.mono _ _ _ _)
      | (with_reducible exact LeO.refl _)
      | (with_reducible exact LeO.none _)
      | (with_reducible refine LeO.ite ?_ ?_)
      | (with_reducible refine LeO.bind ?_ (fun _ => ?_))
      | exact ih0 _ _ _ _ _
      | exact eqn_Rate.mono _ _ _ _
      | exact LeO.none _
      | refine LeO.ite ?_ ?_
      | refine LeO.bind ?_ (fun _ => ?_)
theorem eqn_Loss.mono : ∀ a0 a1 a2 k, LeO (eqn_Loss.f k a0 a1 a2) (eqn_Loss.f (k + 1) a0 a1 a2) := by
  intro a0 a1 a2 k
  have ih0 := eqn_Loss.mono_l k
  unfold eqn_Loss.f
  repeat' first
      | (with_reducible exact ih0 _ _ _ _ _)
      | (with_reducible exact eqn_Rate.mono _ _ _ _)
      | (with_reducible exact LeO.refl _)
      | (with_reducible exact LeO.none _)
      | (with_reducible refine LeO.ite ?_ ?_)
      | (with_reducible refine LeO.bind ?_ (fun _ => ?_))
      | exact ih0 _ _ _ _ _
      | exact eqn_Rate.mono _ _ _ _
      | exact LeO.none _
      | refine LeO.ite ?_ ?_
      | refine LeO.bind ?_ (fun _ => ?_)
set_option maxHeartbeats 8000000 in
set_option maxRecDepth 100000 in
theorem eqn_Loss.calls (k : Nat) (a0 : Int) (a1 : Int) (a2 : Int) (r : Int) (w : World) (h : eqn_Loss.f k a0 a1 a2 = some r) :
    Calls Try.prog 12 #[.int .u32 a0, .int .u64 a1, .int .u64 a2] w fun e w' => e = .returned (.int .u64 r) ∧ Drawn0 w w' := by
  have H : (eqn_Loss.l0 k a0 a1 a2 1 4294967296) = some r := h
  clear h
  have H' := Aside0.mk H
  clear H
  go_enter Try.func12, Try.ntmps12
  go_wp2
  go_loopg [7, 8] k (fun kq v7 v8 w' => ∃ (x7_1 : Int) (x8_1 : Int), v7 = .int .u64 x7_1 ∧ v8 = .int .u64 x8_1 ∧ Aside0 (eqn_Loss.l0 kq a0 a1 a2 x7_1 x8_1 = some r) ∧ Aside0 (kq ≤ k) ∧ Drawn0 w w')
  case atStart => exact ⟨(1), (4294967296), (by first | rfl | (simp; done) | (simp [*]; done)), (by first | rfl | (simp; done) | (simp [*]; done)), H', ⟨Nat.le_refl _⟩, by repeat (first | exact Drawn0.refl _ | apply Drawn0.step)⟩
  case round =>
    clear H'
    try clear c1
    try clear p2
    obtain ⟨x7_1, x8_1, rfl, rfl, HA, HK1, ⟨m1, rfl⟩⟩ := hrel
    cases gk with
    | zero => exact absurd HA.out (by simp [eqn_Loss.l0])
    | succ k1 =>
      have H := HA.out
      clear HA
      simp only [eqn_Loss.l0] at H
      by_cases c4 : x7_1 < x8_1
      · rw [if_pos c4] at H
        have c4b0 : decide (x7_1 < x8_1) = true := decide_eq_true c4
        clear c4
        replace H := Option.bind_eq_some_iff.mp H
        obtain ⟨t130, A50, H⟩ := H
        replace H : (if t130 ≤ a2 then (eqn_Loss.l0 k1 a0 a1 a2 x7_1 (IntKind.u64.wrap (x7_1 + (IntKind.u64.wrap (Int.tdiv (IntKind.u64.wrap (x8_1 - x7_1)) 2))))) else (eqn_Loss.l0 k1 a0 a1 a2 (IntKind.u64.wrap ((IntKind.u64.wrap (x7_1 + (IntKind.u64.wrap (Int.tdiv (IntKind.u64.wrap (x8_1 - x7_1)) 2)))) + 1)) x8_1)) = some r := H
        have A5 := Aside0.mk A50
        clear A50
        by_cases c6 : t130 ≤ a2
        · rw [if_pos c6] at H
          have c6b0 : decide (t130 ≤ a2) = true := decide_eq_true c6
          clear c6
          have H' := Aside0.mk H
          clear H
          go_wp2_with (first | ((with_reducible refine gate_callee (f := 8) rfl ?_); refine goesL_ (some 22) rfl rfl Try.func8 (by kernel_rfl) rfl #[.int .u32 a0, .int .u64 a1, .int .u64 (IntKind.u64.wrap (x7_1 + (IntKind.u64.wrap (Int.tdiv (IntKind.u64.wrap (x8_1 - x7_1)) 2))))] rfl (by (try simp only [List.map_toArray, List.map_cons, List.map_nil]); first | done | rfl | (simp only [List.length_drop, List.length_take]; rfl)) ?_; (with_reducible refine (eqn_Rate.calls k1 a0 a1 (IntKind.u64.wrap (x7_1 + (IntKind.u64.wrap (Int.tdiv (IntKind.u64.wrap (x8_1 - x7_1)) 2)))) t130 _ A5.out).mono ?_); rintro e w' ⟨rfl, ⟨nd, rfl⟩⟩; refine ⟨_, rfl, ?_⟩))
          go_roundg k1
          case measure => have := HK1.out; omega
          case rel => exact ⟨(x7_1), (IntKind.u64.wrap (x7_1 + (IntKind.u64.wrap (Int.tdiv (IntKind.u64.wrap (x8_1 - x7_1)) 2)))), (by first | rfl | (simp; done) | (simp [*]; done)), (by first | rfl | (simp; done) | (simp [*]; done)), H', ⟨by have := HK1.out; omega⟩, by repeat (first | exact Drawn0.refl _ | apply Drawn0.step)⟩
        · rw [if_neg c6] at H
          have c6b0 : decide (t130 ≤ a2) = false := decide_eq_false c6
          clear c6
          have H' := Aside0.mk H
          clear H
          go_wp2_with (first | ((with_reducible refine gate_callee (f := 8) rfl ?_); refine goesL_ (some 22) rfl rfl Try.func8 (by kernel_rfl) rfl #[.int .u32 a0, .int .u64 a1, .int .u64 (IntKind.u64.wrap (x7_1 + (IntKind.u64.wrap (Int.tdiv (IntKind.u64.wrap (x8_1 - x7_1)) 2))))] rfl (by (try simp only [List.map_toArray, List.map_cons, List.map_nil]); first | done | rfl | (simp only [List.length_drop, List.length_take]; rfl)) ?_; (with_reducible refine (eqn_Rate.calls k1 a0 a1 (IntKind.u64.wrap (x7_1 + (IntKind.u64.wrap (Int.tdiv (IntKind.u64.wrap (x8_1 - x7_1)) 2)))) t130 _ A5.out).mono ?_); rintro e w' ⟨rfl, ⟨nd, rfl⟩⟩; refine ⟨_, rfl, ?_⟩))
          go_roundg k1
          case measure => have := HK1.out; omega
          case rel => exact ⟨(IntKind.u64.wrap ((IntKind.u64.wrap (x7_1 + (IntKind.u64.wrap (Int.tdiv (IntKind.u64.wrap (x8_1 - x7_1)) 2)))) + 1)), (x8_1), (by first | rfl | (simp; done) | (simp [*]; done)), (by first | rfl | (simp; done) | (simp [*]; done)), H', ⟨by have := HK1.out; omega⟩, by repeat (first | exact Drawn0.refl _ | apply Drawn0.step)⟩
      · rw [if_neg c4] at H
        have c4b0 : decide (x7_1 < x8_1) = false := decide_eq_false c4
        clear c4
        obtain rfl := Option.some.inj H
        go_wp2
        go_ret
        exact ⟨by first | rfl | (simp; done) | (simp [*]; done), by repeat (first | exact Drawn0.refl _ | apply Drawn0.step)⟩

/-! ### fix_F_Whole: function 25 -/
def fix_F_Whole.f (a0 : Int) : Option (Int) := some ((a0 / 4294967296) % 4294967296)
set_option maxHeartbeats 8000000 in
set_option maxRecDepth 100000 in
theorem fix_F_Whole.calls (a0 : Int) (r : Int) (w : World) (h : fix_F_Whole.f a0 = some r) :
    Calls Try.prog 25 #[.int .u64 a0] w fun e w' => e = .returned (.int .u32 r) ∧ Drawn0 w w' := by
  have H : (some ((a0 / 4294967296) % 4294967296)) = some r := h
  clear h
  obtain rfl := Option.some.inj H
  go_enter Try.func25, Try.ntmps25
  go_wp2
  go_ret
  exact ⟨by first | rfl | (simp; done) | (simp [*]; done), by repeat (first | exact Drawn0.refl _ | apply Drawn0.step)⟩

/-! ### eqn_First: function 14 -/
def eqn_First.f (k : Nat) (a0 : Int) (a1 : Int) (a2 : Int) : Option (Int) := (eqn_Loss.f k a0 a1 a2).bind fun t131 => ((fix_F_Div.f k 4294967296 t131).bind fun t132 => ((fix_F_Whole.f t132).bind fun t133 => (some (mx t133 1))))
theorem eqn_First.mono : ∀ a0 a1 a2 k, LeO (eqn_First.f k a0 a1 a2) (eqn_First.f (k + 1) a0 a1 a2) := by
  intro a0 a1 a2 k
  unfold eqn_First.f
  repeat' first
      | (with_reducible exact eqn_Loss.mono _ _ _ _)
      | (with_reducible exact fix_F_Div.mono _ _ _)
      | (with_reducible exact LeO.refl _)
      | (with_reducible exact LeO.none _)
      | (with_reducible refine LeO.ite ?_ ?_)
      | (with_reducible refine LeO.bind ?_ (fun _ => ?_))
      | exact eqn_Loss.mono _ _ _ _
      | exact fix_F_Div.mono _ _ _
      | exact LeO.none _
      | refine LeO.ite ?_ ?_
      | refine LeO.bind ?_ (fun _ => ?_)
set_option maxHeartbeats 8000000 in
set_option maxRecDepth 100000 in
theorem eqn_First.calls (k : Nat) (a0 : Int) (a1 : Int) (a2 : Int) (r : Int) (w : World) (h : eqn_First.f k a0 a1 a2 = some r) :
    Calls Try.prog 14 #[.int .u32 a0, .int .u64 a1, .int .u64 a2] w fun e w' => e = .returned (.int .u32 r) ∧ Below w.heap.size w w' := by
  have HB := Aside0.mk (Below.refl w.heap.size w)
  have H : ((eqn_Loss.f k a0 a1 a2).bind fun t131 => ((fix_F_Div.f k 4294967296 t131).bind fun t132 => ((fix_F_Whole.f t132).bind fun t133 => (some (mx t133 1))))) = some r := h
  clear h
  replace H := Option.bind_eq_some_iff.mp H
  obtain ⟨t131, A40, H⟩ := H
  replace H : ((fix_F_Div.f k 4294967296 t131).bind fun t132 => ((fix_F_Whole.f t132).bind fun t133 => (some (mx t133 1)))) = some r := H
  have A4 := Aside0.mk A40
  clear A40
  replace H := Option.bind_eq_some_iff.mp H
  obtain ⟨t132, A50, H⟩ := H
  replace H : ((fix_F_Whole.f t132).bind fun t133 => (some (mx t133 1))) = some r := H
  have A5 := Aside0.mk A50
  clear A50
  replace H := Option.bind_eq_some_iff.mp H
  obtain ⟨t133, A60, H⟩ := H
  replace H : (some (mx t133 1)) = some r := H
  have A6 := Aside0.mk A60
  clear A60
  obtain ⟨ji7, hji7⟩ : ∃ j_ : Int, (mx t133 1) = j_ := ⟨_, rfl⟩
  replace H : (some ji7) = some r := by first | (rw [hji7] at H; exact H) | (simp only [hji7] at H ⊢; exact H)
  (try rw [hji7] at A4)
  (try rw [hji7] at A5)
  (try rw [hji7] at A6)
  (try (have hji7l : 1 ≤ ji7 := by (rw [← hji7]; unfold mx; (repeat' split) <;> omega)))
  (try (have hji7m : 0 ≤ ji7 := by omega))
  have hji7_ : (if t133 < 1 then 1 else t133) = ji7 := hji7
  obtain rfl := Option.some.inj H
  go_enter Try.func14, Try.ntmps14
  go_wp2_with (first | ((with_reducible refine gate_callee (f := 12) rfl ?_); refine goesL_ (some 10) rfl rfl Try.func12 (by kernel_rfl) rfl #[.int .u32 a0, .int .u64 a1, .int .u64 a2] rfl (by (try simp only [List.map_toArray, List.map_cons, List.map_nil]); first | done | rfl | (simp only [List.length_drop, List.length_take]; rfl)) ?_; (with_reducible refine (eqn_Loss.calls k a0 a1 a2 t131 _ A4.out).mono ?_); rintro e w' ⟨rfl, ⟨nd, rfl⟩⟩; refine ⟨_, rfl, ?_⟩) | ((with_reducible refine gate_callee (f := 16) rfl ?_); refine goesL_ (some 11) rfl rfl Try.func16 (by kernel_rfl) rfl #[.int .u64 4294967296, .int .u64 t131] rfl (by (try simp only [List.map_toArray, List.map_cons, List.map_nil]); first | done | rfl | (simp only [List.length_drop, List.length_take]; rfl)) ?_; (with_reducible refine (fix_F_Div.calls k 4294967296 t131 t132 _ A5.out).mono ?_); rintro e w' ⟨rfl, ⟨nd, rfl⟩⟩; refine ⟨_, rfl, ?_⟩) | ((with_reducible refine gate_callee (f := 25) rfl ?_); refine goesL_ (some 12) rfl rfl Try.func25 (by kernel_rfl) rfl #[.int .u64 t132] rfl (by (try simp only [List.map_toArray, List.map_cons, List.map_nil]); first | done | rfl | (simp only [List.length_drop, List.length_take]; rfl)) ?_; (with_reducible refine (fix_F_Whole.calls t132 t133 _ A6.out).mono ?_); rintro e w' ⟨rfl, ⟨nd, rfl⟩⟩; refine ⟨_, rfl, ?_⟩))
  go_ret
  exact ⟨by first | rfl | (simp [errW_none, errW_some] <;> rfl) | (simp only [← hji7]; first | rfl | (simp [errW_none, errW_some] <;> rfl)) | (simp [*, errW_none, errW_some] <;> rfl), by repeat (first | (with_reducible first | exact HB.out | apply below_alloc | apply pw_below_drewN | apply below_drew1) | exact HB.out)⟩

/-! ### terracelaw03_awake: function 9 -/
def terracelaw03_awake.f (k : Nat)  : Option (Bool) := (fix_Ratio.f k 1 100).bind fun t134 => ((eqn_Rate.f k 1000 4294967296 t134).bind fun t135 => ((fix_Of.f 9000).bind fun t136 => (if t135 > t136 then ((fix_Of.f 13000).bind fun t137 => (if t135 < t137 then ((eqn_Loss.f k 1000 4294967296 t135).bind fun t138 => (if t138 ≤ t134 then ((eqn_Rate.f k 1 1 0).bind fun t139 => (if t139 = 18446744073709551615 then ((eqn_First.f k 1000 4294967296 t135).bind fun t140 => (some (decide (t140 ≥ 100)))) else (some false))) else (some false))) else (some false))) else (some false))))
theorem terracelaw03_awake.mono : ∀ k, LeO (terracelaw03_awake.f k ) (terracelaw03_awake.f (k + 1) ) := by
  intro  k
  unfold terracelaw03_awake.f
  repeat' first
      | (with_reducible exact eqn_First.mono _ _ _ _)
      | (with_reducible exact eqn_Loss.mono _ _ _ _)
      | (with_reducible exact eqn_Rate.mono _ _ _ _)
      | (with_reducible exact fix_Ratio.mono _ _ _)
      | (with_reducible exact LeO.refl _)
      | (with_reducible exact LeO.none _)
      | (with_reducible refine LeO.ite ?_ ?_)
      | (with_reducible refine LeO.bind ?_ (fun _ => ?_))
      | exact eqn_First.mono _ _ _ _
      | exact eqn_Loss.mono _ _ _ _
      | exact eqn_Rate.mono _ _ _ _
      | exact fix_Ratio.mono _ _ _
      | exact LeO.none _
      | refine LeO.ite ?_ ?_
      | refine LeO.bind ?_ (fun _ => ?_)
set_option maxHeartbeats 8000000 in
set_option maxRecDepth 100000 in
theorem terracelaw03_awake.calls (k : Nat)  (r : Bool) (w : World) (h : terracelaw03_awake.f k  = some r) :
    Calls Try.prog 9 #[] w fun e w' => e = .returned (.bool r) ∧ Below w.heap.size w w' := by
  have HB := Aside0.mk (Below.refl w.heap.size w)
  have H : ((fix_Ratio.f k 1 100).bind fun t134 => ((eqn_Rate.f k 1000 4294967296 t134).bind fun t135 => ((fix_Of.f 9000).bind fun t136 => (if t135 > t136 then ((fix_Of.f 13000).bind fun t137 => (if t135 < t137 then ((eqn_Loss.f k 1000 4294967296 t135).bind fun t138 => (if t138 ≤ t134 then ((eqn_Rate.f k 1 1 0).bind fun t139 => (if t139 = 18446744073709551615 then ((eqn_First.f k 1000 4294967296 t135).bind fun t140 => (some (decide (t140 ≥ 100)))) else (some false))) else (some false))) else (some false))) else (some false))))) = some r := h
  clear h
  replace H := Option.bind_eq_some_iff.mp H
  obtain ⟨t134, A10, H⟩ := H
  replace H : ((eqn_Rate.f k 1000 4294967296 t134).bind fun t135 => ((fix_Of.f 9000).bind fun t136 => (if t135 > t136 then ((fix_Of.f 13000).bind fun t137 => (if t135 < t137 then ((eqn_Loss.f k 1000 4294967296 t135).bind fun t138 => (if t138 ≤ t134 then ((eqn_Rate.f k 1 1 0).bind fun t139 => (if t139 = 18446744073709551615 then ((eqn_First.f k 1000 4294967296 t135).bind fun t140 => (some (decide (t140 ≥ 100)))) else (some false))) else (some false))) else (some false))) else (some false)))) = some r := H
  have A1 := Aside0.mk A10
  clear A10
  replace H := Option.bind_eq_some_iff.mp H
  obtain ⟨t135, A20, H⟩ := H
  replace H : ((fix_Of.f 9000).bind fun t136 => (if t135 > t136 then ((fix_Of.f 13000).bind fun t137 => (if t135 < t137 then ((eqn_Loss.f k 1000 4294967296 t135).bind fun t138 => (if t138 ≤ t134 then ((eqn_Rate.f k 1 1 0).bind fun t139 => (if t139 = 18446744073709551615 then ((eqn_First.f k 1000 4294967296 t135).bind fun t140 => (some (decide (t140 ≥ 100)))) else (some false))) else (some false))) else (some false))) else (some false))) = some r := H
  have A2 := Aside0.mk A20
  clear A20
  replace H := Option.bind_eq_some_iff.mp H
  obtain ⟨t136, A30, H⟩ := H
  replace H : (if t135 > t136 then ((fix_Of.f 13000).bind fun t137 => (if t135 < t137 then ((eqn_Loss.f k 1000 4294967296 t135).bind fun t138 => (if t138 ≤ t134 then ((eqn_Rate.f k 1 1 0).bind fun t139 => (if t139 = 18446744073709551615 then ((eqn_First.f k 1000 4294967296 t135).bind fun t140 => (some (decide (t140 ≥ 100)))) else (some false))) else (some false))) else (some false))) else (some false)) = some r := H
  have A3 := Aside0.mk A30
  clear A30
  by_cases c4 : t135 > t136
  · rw [if_pos c4] at H
    have c4b0 : decide (t136 < t135) = true := decide_eq_true c4
    clear c4
    replace H := Option.bind_eq_some_iff.mp H
    obtain ⟨t137, A50, H⟩ := H
    replace H : (if t135 < t137 then ((eqn_Loss.f k 1000 4294967296 t135).bind fun t138 => (if t138 ≤ t134 then ((eqn_Rate.f k 1 1 0).bind fun t139 => (if t139 = 18446744073709551615 then ((eqn_First.f k 1000 4294967296 t135).bind fun t140 => (some (decide (t140 ≥ 100)))) else (some false))) else (some false))) else (some false)) = some r := H
    have A5 := Aside0.mk A50
    clear A50
    by_cases c6 : t135 < t137
    · rw [if_pos c6] at H
      have c6b0 : decide (t135 < t137) = true := decide_eq_true c6
      clear c6
      replace H := Option.bind_eq_some_iff.mp H
      obtain ⟨t138, A70, H⟩ := H
      replace H : (if t138 ≤ t134 then ((eqn_Rate.f k 1 1 0).bind fun t139 => (if t139 = 18446744073709551615 then ((eqn_First.f k 1000 4294967296 t135).bind fun t140 => (some (decide (t140 ≥ 100)))) else (some false))) else (some false)) = some r := H
      have A7 := Aside0.mk A70
      clear A70
      by_cases c8 : t138 ≤ t134
      · rw [if_pos c8] at H
        have c8b0 : decide (t138 ≤ t134) = true := decide_eq_true c8
        clear c8
        replace H := Option.bind_eq_some_iff.mp H
        obtain ⟨t139, A90, H⟩ := H
        replace H : (if t139 = 18446744073709551615 then ((eqn_First.f k 1000 4294967296 t135).bind fun t140 => (some (decide (t140 ≥ 100)))) else (some false)) = some r := H
        have A9 := Aside0.mk A90
        clear A90
        by_cases c10 : t139 = 18446744073709551615
        · rw [if_pos c10] at H
          have c10b0 : (t139 == 18446744073709551615) = true := beq_iff_eq.mpr c10
          have c10b1 : (t139 != 18446744073709551615) = false := bne_eq_false_iff_eq.mpr c10
          clear c10
          replace H := Option.bind_eq_some_iff.mp H
          obtain ⟨t140, A110, H⟩ := H
          replace H : (some (decide (t140 ≥ 100))) = some r := H
          have A11 := Aside0.mk A110
          clear A110
          obtain rfl := Option.some.inj H
          go_enter Try.func9, Try.ntmps9
          go_wp2_with (first | ((with_reducible refine gate_callee (f := 19) rfl ?_); refine goesL_ (some 3) rfl rfl Try.func19 (by kernel_rfl) rfl #[.int .u64 1, .int .u64 100] rfl (by (try simp only [List.map_toArray, List.map_cons, List.map_nil]); first | done | rfl | (simp only [List.length_drop, List.length_take]; rfl)) ?_; (with_reducible refine (fix_Ratio.calls k 1 100 t134 _ A1.out).mono ?_); rintro e w' ⟨rfl, ⟨nd, rfl⟩⟩; refine ⟨_, rfl, ?_⟩) | ((with_reducible refine gate_callee (f := 8) rfl ?_); refine goesL_ (some 5) rfl rfl Try.func8 (by kernel_rfl) rfl #[.int .u32 1000, .int .u64 4294967296, .int .u64 t134] rfl (by (try simp only [List.map_toArray, List.map_cons, List.map_nil]); first | done | rfl | (simp only [List.length_drop, List.length_take]; rfl)) ?_; (with_reducible refine (eqn_Rate.calls k 1000 4294967296 t134 t135 _ A2.out).mono ?_); rintro e w' ⟨rfl, ⟨nd, rfl⟩⟩; refine ⟨_, rfl, ?_⟩) | ((with_reducible refine gate_callee (f := 15) rfl ?_); refine goesL_ (some 7) rfl rfl Try.func15 (by kernel_rfl) rfl #[.int .u32 9000] rfl (by (try simp only [List.map_toArray, List.map_cons, List.map_nil]); first | done | rfl | (simp only [List.length_drop, List.length_take]; rfl)) ?_; (with_reducible refine (fix_Of.calls 9000 t136 _ A3.out).mono ?_); rintro e w' ⟨rfl, ⟨nd, rfl⟩⟩; refine ⟨_, rfl, ?_⟩) | (go_at_call 15; (with_reducible refine (fix_Of.calls 13000 t137 _ A5.out).mono ?_); rintro e w' ⟨rfl, ⟨nd, rfl⟩⟩) | (go_at_call 12; (with_reducible refine (eqn_Loss.calls k 1000 4294967296 t135 t138 _ A7.out).mono ?_); rintro e w' ⟨rfl, ⟨nd, rfl⟩⟩) | (go_at_call 8; (with_reducible refine (eqn_Rate.calls k 1 1 0 t139 _ A9.out).mono ?_); rintro e w' ⟨rfl, ⟨nd, rfl⟩⟩) | (go_at_call 14; (with_reducible refine (eqn_First.calls k 1000 4294967296 t135 t140 _ A11.out).mono ?_); rintro e w12 ⟨rfl, hb⟩; have n0_ := Aside0.mk (below_step (by repeat (first | (with_reducible first | exact HB.out | apply below_alloc | apply pw_below_drewN | apply below_drew1) | exact HB.out)) hb); clear HB; have HB := n0_; clear n0_; (try clear hb); (try clear hb2); (try clear hk); (try clear hi)))
          go_ret
          exact ⟨by first | rfl | (simp [errW_none, errW_some] <;> rfl) | (simp [*, errW_none, errW_some] <;> rfl), by repeat (first | (with_reducible first | exact HB.out | apply below_alloc | apply pw_below_drewN | apply below_drew1) | exact HB.out)⟩
        · rw [if_neg c10] at H
          have c10b0 : (t139 == 18446744073709551615) = false := beq_eq_false_iff_ne.mpr c10
          have c10b1 : (t139 != 18446744073709551615) = true := bne_iff_ne.mpr c10
          obtain rfl := Option.some.inj H
          go_enter Try.func9, Try.ntmps9
          go_wp2_with (first | ((with_reducible refine gate_callee (f := 19) rfl ?_); refine goesL_ (some 3) rfl rfl Try.func19 (by kernel_rfl) rfl #[.int .u64 1, .int .u64 100] rfl (by (try simp only [List.map_toArray, List.map_cons, List.map_nil]); first | done | rfl | (simp only [List.length_drop, List.length_take]; rfl)) ?_; (with_reducible refine (fix_Ratio.calls k 1 100 t134 _ A1.out).mono ?_); rintro e w' ⟨rfl, ⟨nd, rfl⟩⟩; refine ⟨_, rfl, ?_⟩) | ((with_reducible refine gate_callee (f := 8) rfl ?_); refine goesL_ (some 5) rfl rfl Try.func8 (by kernel_rfl) rfl #[.int .u32 1000, .int .u64 4294967296, .int .u64 t134] rfl (by (try simp only [List.map_toArray, List.map_cons, List.map_nil]); first | done | rfl | (simp only [List.length_drop, List.length_take]; rfl)) ?_; (with_reducible refine (eqn_Rate.calls k 1000 4294967296 t134 t135 _ A2.out).mono ?_); rintro e w' ⟨rfl, ⟨nd, rfl⟩⟩; refine ⟨_, rfl, ?_⟩) | ((with_reducible refine gate_callee (f := 15) rfl ?_); refine goesL_ (some 7) rfl rfl Try.func15 (by kernel_rfl) rfl #[.int .u32 9000] rfl (by (try simp only [List.map_toArray, List.map_cons, List.map_nil]); first | done | rfl | (simp only [List.length_drop, List.length_take]; rfl)) ?_; (with_reducible refine (fix_Of.calls 9000 t136 _ A3.out).mono ?_); rintro e w' ⟨rfl, ⟨nd, rfl⟩⟩; refine ⟨_, rfl, ?_⟩) | (go_at_call 15; (with_reducible refine (fix_Of.calls 13000 t137 _ A5.out).mono ?_); rintro e w' ⟨rfl, ⟨nd, rfl⟩⟩) | (go_at_call 12; (with_reducible refine (eqn_Loss.calls k 1000 4294967296 t135 t138 _ A7.out).mono ?_); rintro e w' ⟨rfl, ⟨nd, rfl⟩⟩) | (go_at_call 8; (with_reducible refine (eqn_Rate.calls k 1 1 0 t139 _ A9.out).mono ?_); rintro e w' ⟨rfl, ⟨nd, rfl⟩⟩))
          go_ret
          exact ⟨by first | rfl | (simp [errW_none, errW_some] <;> rfl) | (simp [*, errW_none, errW_some] <;> rfl), by repeat (first | (with_reducible first | exact HB.out | apply below_alloc | apply pw_below_drewN | apply below_drew1) | exact HB.out)⟩
      · rw [if_neg c8] at H
        have c8b0 : decide (t138 ≤ t134) = false := decide_eq_false c8
        clear c8
        obtain rfl := Option.some.inj H
        go_enter Try.func9, Try.ntmps9
        go_wp2_with (first | ((with_reducible refine gate_callee (f := 19) rfl ?_); refine goesL_ (some 3) rfl rfl Try.func19 (by kernel_rfl) rfl #[.int .u64 1, .int .u64 100] rfl (by (try simp only [List.map_toArray, List.map_cons, List.map_nil]); first | done | rfl | (simp only [List.length_drop, List.length_take]; rfl)) ?_; (with_reducible refine (fix_Ratio.calls k 1 100 t134 _ A1.out).mono ?_); rintro e w' ⟨rfl, ⟨nd, rfl⟩⟩; refine ⟨_, rfl, ?_⟩) | ((with_reducible refine gate_callee (f := 8) rfl ?_); refine goesL_ (some 5) rfl rfl Try.func8 (by kernel_rfl) rfl #[.int .u32 1000, .int .u64 4294967296, .int .u64 t134] rfl (by (try simp only [List.map_toArray, List.map_cons, List.map_nil]); first | done | rfl | (simp only [List.length_drop, List.length_take]; rfl)) ?_; (with_reducible refine (eqn_Rate.calls k 1000 4294967296 t134 t135 _ A2.out).mono ?_); rintro e w' ⟨rfl, ⟨nd, rfl⟩⟩; refine ⟨_, rfl, ?_⟩) | ((with_reducible refine gate_callee (f := 15) rfl ?_); refine goesL_ (some 7) rfl rfl Try.func15 (by kernel_rfl) rfl #[.int .u32 9000] rfl (by (try simp only [List.map_toArray, List.map_cons, List.map_nil]); first | done | rfl | (simp only [List.length_drop, List.length_take]; rfl)) ?_; (with_reducible refine (fix_Of.calls 9000 t136 _ A3.out).mono ?_); rintro e w' ⟨rfl, ⟨nd, rfl⟩⟩; refine ⟨_, rfl, ?_⟩) | (go_at_call 15; (with_reducible refine (fix_Of.calls 13000 t137 _ A5.out).mono ?_); rintro e w' ⟨rfl, ⟨nd, rfl⟩⟩) | (go_at_call 12; (with_reducible refine (eqn_Loss.calls k 1000 4294967296 t135 t138 _ A7.out).mono ?_); rintro e w' ⟨rfl, ⟨nd, rfl⟩⟩))
        go_ret
        exact ⟨by first | rfl | (simp [errW_none, errW_some] <;> rfl) | (simp [*, errW_none, errW_some] <;> rfl), by repeat (first | (with_reducible first | exact HB.out | apply below_alloc | apply pw_below_drewN | apply below_drew1) | exact HB.out)⟩
    · rw [if_neg c6] at H
      have c6b0 : decide (t135 < t137) = false := decide_eq_false c6
      clear c6
      obtain rfl := Option.some.inj H
      go_enter Try.func9, Try.ntmps9
      go_wp2_with (first | ((with_reducible refine gate_callee (f := 19) rfl ?_); refine goesL_ (some 3) rfl rfl Try.func19 (by kernel_rfl) rfl #[.int .u64 1, .int .u64 100] rfl (by (try simp only [List.map_toArray, List.map_cons, List.map_nil]); first | done | rfl | (simp only [List.length_drop, List.length_take]; rfl)) ?_; (with_reducible refine (fix_Ratio.calls k 1 100 t134 _ A1.out).mono ?_); rintro e w' ⟨rfl, ⟨nd, rfl⟩⟩; refine ⟨_, rfl, ?_⟩) | ((with_reducible refine gate_callee (f := 8) rfl ?_); refine goesL_ (some 5) rfl rfl Try.func8 (by kernel_rfl) rfl #[.int .u32 1000, .int .u64 4294967296, .int .u64 t134] rfl (by (try simp only [List.map_toArray, List.map_cons, List.map_nil]); first | done | rfl | (simp only [List.length_drop, List.length_take]; rfl)) ?_; (with_reducible refine (eqn_Rate.calls k 1000 4294967296 t134 t135 _ A2.out).mono ?_); rintro e w' ⟨rfl, ⟨nd, rfl⟩⟩; refine ⟨_, rfl, ?_⟩) | ((with_reducible refine gate_callee (f := 15) rfl ?_); refine goesL_ (some 7) rfl rfl Try.func15 (by kernel_rfl) rfl #[.int .u32 9000] rfl (by (try simp only [List.map_toArray, List.map_cons, List.map_nil]); first | done | rfl | (simp only [List.length_drop, List.length_take]; rfl)) ?_; (with_reducible refine (fix_Of.calls 9000 t136 _ A3.out).mono ?_); rintro e w' ⟨rfl, ⟨nd, rfl⟩⟩; refine ⟨_, rfl, ?_⟩) | (go_at_call 15; (with_reducible refine (fix_Of.calls 13000 t137 _ A5.out).mono ?_); rintro e w' ⟨rfl, ⟨nd, rfl⟩⟩))
      go_ret
      exact ⟨by first | rfl | (simp [errW_none, errW_some] <;> rfl) | (simp [*, errW_none, errW_some] <;> rfl), by repeat (first | (with_reducible first | exact HB.out | apply below_alloc | apply pw_below_drewN | apply below_drew1) | exact HB.out)⟩
  · rw [if_neg c4] at H
    have c4b0 : decide (t136 < t135) = false := decide_eq_false c4
    clear c4
    obtain rfl := Option.some.inj H
    go_enter Try.func9, Try.ntmps9
    go_wp2_with (first | ((with_reducible refine gate_callee (f := 19) rfl ?_); refine goesL_ (some 3) rfl rfl Try.func19 (by kernel_rfl) rfl #[.int .u64 1, .int .u64 100] rfl (by (try simp only [List.map_toArray, List.map_cons, List.map_nil]); first | done | rfl | (simp only [List.length_drop, List.length_take]; rfl)) ?_; (with_reducible refine (fix_Ratio.calls k 1 100 t134 _ A1.out).mono ?_); rintro e w' ⟨rfl, ⟨nd, rfl⟩⟩; refine ⟨_, rfl, ?_⟩) | ((with_reducible refine gate_callee (f := 8) rfl ?_); refine goesL_ (some 5) rfl rfl Try.func8 (by kernel_rfl) rfl #[.int .u32 1000, .int .u64 4294967296, .int .u64 t134] rfl (by (try simp only [List.map_toArray, List.map_cons, List.map_nil]); first | done | rfl | (simp only [List.length_drop, List.length_take]; rfl)) ?_; (with_reducible refine (eqn_Rate.calls k 1000 4294967296 t134 t135 _ A2.out).mono ?_); rintro e w' ⟨rfl, ⟨nd, rfl⟩⟩; refine ⟨_, rfl, ?_⟩) | ((with_reducible refine gate_callee (f := 15) rfl ?_); refine goesL_ (some 7) rfl rfl Try.func15 (by kernel_rfl) rfl #[.int .u32 9000] rfl (by (try simp only [List.map_toArray, List.map_cons, List.map_nil]); first | done | rfl | (simp only [List.length_drop, List.length_take]; rfl)) ?_; (with_reducible refine (fix_Of.calls 9000 t136 _ A3.out).mono ?_); rintro e w' ⟨rfl, ⟨nd, rfl⟩⟩; refine ⟨_, rfl, ?_⟩))
    go_ret
    exact ⟨by first | rfl | (simp [errW_none, errW_some] <;> rfl) | (simp [*, errW_none, errW_some] <;> rfl), by repeat (first | (with_reducible first | exact HB.out | apply below_alloc | apply pw_below_drewN | apply below_drew1) | exact HB.out)⟩

end Go.Proofs.Ytfnlepedmppncaa.PEqnFalls
