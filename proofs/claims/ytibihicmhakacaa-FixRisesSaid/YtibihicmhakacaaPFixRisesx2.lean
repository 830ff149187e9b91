-- Written by ext.sh (the session's own program, over the kit's printer) out of the translation. Lean checks it.
import Derived.Test.YtibihicmhakacaaPFixRisesx0
import Derived.Test.YtibihicmhakacaaPFixRisesx1
namespace Go.Proofs.Ytibihicmhakacaa.PFixRises
open Go.RowKit Go.Proofs.YtibihicmhakacaaW.PrintWords Go.Proofs.YtibihicmhakacaaW.PrintLast Go.Proofs.YtibihicmhakacaaW.PrintMore
attribute [local go_sem] max2_int min2_int max_two min_two max_three min_three max_four min_four   -- for this text's walks alone
set_option linter.unusedVariables false
set_option linter.unusedSimpArgs false

/-! ### fix_shifted: function 30 -/
def fix_shifted.f (a0 : Int) (a1 : Int) : Option (Int) := if (a0 / 4294967296) = 0 then (some (Go.bits .or .u64 (IntKind.u64.wrap (a0 * 4294967296)) (a1 / 4294967296))) else (some 18446744073709551615)
set_option maxHeartbeats 8000000 in
set_option maxRecDepth 100000 in
theorem fix_shifted.calls (a0 : Int) (a1 : Int) (r : Int) (w : World) (h : fix_shifted.f a0 a1 = some r) :
    Calls Try.prog 30 #[.int .u64 a0, .int .u64 a1] w fun e w' => e = .returned (.int .u64 r) ∧ Drawn0 w w' := by
  have H : (if (a0 / 4294967296) = 0 then (some (Go.bits .or .u64 (IntKind.u64.wrap (a0 * 4294967296)) (a1 / 4294967296))) else (some 18446744073709551615)) = some r := h
  clear h
  by_cases c3 : (a0 / 4294967296) = 0
  · rw [if_pos c3] at H
    have c3b0 : ((a0 / 4294967296) == 0) = true := beq_iff_eq.mpr c3
    have c3b1 : ((a0 / 4294967296) != 0) = false := bne_eq_false_iff_eq.mpr c3
    clear c3
    obtain rfl := Option.some.inj H
    go_enter Try.func30, Try.ntmps30
    go_wp2
    go_ret
    exact ⟨by first | rfl | (simp; done) | (simp [*]; done), by repeat (first | exact Drawn0.refl _ | apply Drawn0.step)⟩
  · rw [if_neg c3] at H
    have c3b0 : ((a0 / 4294967296) == 0) = false := beq_eq_false_iff_ne.mpr c3
    have c3b1 : ((a0 / 4294967296) != 0) = true := bne_iff_ne.mpr c3
    obtain rfl := Option.some.inj H
    go_enter Try.func30, Try.ntmps30
    go_wp2
    go_ret
    exact ⟨by first | rfl | (simp; done) | (simp [*]; done), by repeat (first | exact Drawn0.refl _ | apply Drawn0.step)⟩

/-! ### fix_F_Mul: function 20 -/
def fix_F_Mul.f (a0 : Int) (a1 : Int) : Option (Int) := (bits_Mul64.f a0 a1).bind fun bt108 => ((fix_shifted.f bt108.1 bt108.2).bind fun t110 => (some t110))
set_option maxHeartbeats 8000000 in
set_option maxRecDepth 100000 in
theorem fix_F_Mul.calls (a0 : Int) (a1 : Int) (r : Int) (w : World) (h : fix_F_Mul.f a0 a1 = some r) :
    Calls Try.prog 20 #[.int .u64 a0, .int .u64 a1] w fun e w' => e = .returned (.int .u64 r) ∧ Drawn0 w w' := by
  have H : ((bits_Mul64.f a0 a1).bind fun bt108 => ((fix_shifted.f bt108.1 bt108.2).bind fun t110 => (some t110))) = some r := h
  clear h
  replace H := Option.bind_eq_some_iff.mp H
  obtain ⟨⟨t108, t109⟩, A30, H⟩ := H
  replace H : ((fix_shifted.f t108 t109).bind fun t110 => (some t110)) = some r := H
  have A3 := Aside0.mk A30
  clear A30
  replace H := Option.bind_eq_some_iff.mp H
  obtain ⟨t110, A40, H⟩ := H
  replace H : (some t110) = some r := H
  have A4 := Aside0.mk A40
  clear A40
  obtain rfl := Option.some.inj H
  go_enter Try.func20, Try.ntmps20
  go_wp2_with (first | ((with_reducible refine gate_callee (f := 28) rfl ?_); refine goesL_ (some 7) rfl rfl Try.func28 (by kernel_rfl) rfl #[.int .u64 a0, .int .u64 a1] rfl (by (try simp only [List.map_toArray, List.map_cons, List.map_nil]); first | done | rfl | (simp only [List.length_drop, List.length_take]; rfl)) ?_; (with_reducible refine (bits_Mul64.calls a0 a1 t108 t109 _ A3.out).mono ?_); rintro e w' ⟨rfl, ⟨nd, rfl⟩⟩; refine ⟨_, rfl, ?_⟩) | ((with_reducible refine gate_callee (f := 30) rfl ?_); refine goesL_ (some 10) rfl rfl Try.func30 (by kernel_rfl) rfl #[.int .u64 t108, .int .u64 t109] rfl (by (try simp only [List.map_toArray, List.map_cons, List.map_nil]); first | done | rfl | (simp only [List.length_drop, List.length_take]; rfl)) ?_; (with_reducible refine (fix_shifted.calls t108 t109 t110 _ A4.out).mono ?_); rintro e w' ⟨rfl, ⟨nd, rfl⟩⟩; refine ⟨_, rfl, ?_⟩))
  go_ret
  exact ⟨by first | rfl | (simp; done) | (simp [*]; done), by repeat (first | exact Drawn0.refl _ | apply Drawn0.step)⟩

/-! ### fix_F_Whole: function 22 -/
def fix_F_Whole.f (a0 : Int) : Option (Int) := some ((a0 / 4294967296) % 4294967296)
set_option maxHeartbeats 8000000 in
set_option maxRecDepth 100000 in
theorem fix_F_Whole.calls (a0 : Int) (r : Int) (w : World) (h : fix_F_Whole.f a0 = some r) :
    Calls Try.prog 22 #[.int .u64 a0] w fun e w' => e = .returned (.int .u32 r) ∧ Drawn0 w w' := by
  have H : (some ((a0 / 4294967296) % 4294967296)) = some r := h
  clear h
  obtain rfl := Option.some.inj H
  go_enter Try.func22, Try.ntmps22
  go_wp2
  go_ret
  exact ⟨by first | rfl | (simp; done) | (simp [*]; done), by repeat (first | exact Drawn0.refl _ | apply Drawn0.step)⟩

/-! ### fix_Of: function 23 -/
def fix_Of.f (a0 : Int) : Option (Int) := some (IntKind.u64.wrap ((IntKind.u64.wrap (a0)) * 4294967296))
set_option maxHeartbeats 8000000 in
set_option maxRecDepth 100000 in
theorem fix_Of.calls (a0 : Int) (r : Int) (w : World) (h : fix_Of.f a0 = some r) :
    Calls Try.prog 23 #[.int .u32 a0] w fun e w' => e = .returned (.int .u64 r) ∧ Drawn0 w w' := by
  have H : (some (IntKind.u64.wrap ((IntKind.u64.wrap (a0)) * 4294967296))) = some r := h
  clear h
  obtain rfl := Option.some.inj H
  go_enter Try.func23, Try.ntmps23
  go_wp2
  go_ret
  exact ⟨by first | rfl | (simp; done) | (simp [*]; done), by repeat (first | exact Drawn0.refl _ | apply Drawn0.step)⟩

/-! ### terracelaw01_awake: function 15 -/
def terracelaw01_awake.f (k : Nat)  : Option (Bool) := (fix_Ratio.f k 1 2).bind fun t111 => (if t111 = 2147483648 then ((fix_Of.f 2).bind fun t112 => ((fix_F_Root.f k t112).bind fun t113 => (if t113 = 6074000999 then ((fix_Of.f 3).bind fun t114 => ((fix_Of.f 4).bind fun t115 => ((fix_F_Mul.f t114 t115).bind fun t116 => ((fix_F_Whole.f t116).bind fun t117 => (if t117 = 12 then ((fix_F_Div.f k 4294967296 0).bind fun t118 => (some (t118 == 18446744073709551615))) else (some false)))))) else (some false)))) else (some false))
theorem terracelaw01_awake.mono : ∀ k, LeO (terracelaw01_awake.f k ) (terracelaw01_awake.f (k + 1) ) := by
  intro  k
  unfold terracelaw01_awake.f
  repeat' first
      | (with_reducible exact fix_F_Div.mono _ _ _)
      | (with_reducible exact fix_F_Root.mono _ _)
      | (with_reducible exact fix_Ratio.mono _ _ _)
      | (with_reducible exact LeO.refl _)
      | (with_reducible exact LeO.none _)
      | (with_reducible refine LeO.ite ?_ ?_)
      | (with_reducible refine LeO.bind ?_ (fun _ => ?_))
      | exact fix_F_Div.mono _ _ _
      | exact fix_F_Root.mono _ _
      | exact fix_Ratio.mono _ _ _
      | exact LeO.none _
      | refine LeO.ite ?_ ?_
      | refine LeO.bind ?_ (fun _ => ?_)
set_option maxHeartbeats 8000000 in
set_option maxRecDepth 100000 in
theorem terracelaw01_awake.calls (k : Nat)  (r : Bool) (w : World) (h : terracelaw01_awake.f k  = some r) :
    Calls Try.prog 15 #[] w fun e w' => e = .returned (.bool r) ∧ Drawn0 w w' := by
  have H : ((fix_Ratio.f k 1 2).bind fun t111 => (if t111 = 2147483648 then ((fix_Of.f 2).bind fun t112 => ((fix_F_Root.f k t112).bind fun t113 => (if t113 = 6074000999 then ((fix_Of.f 3).bind fun t114 => ((fix_Of.f 4).bind fun t115 => ((fix_F_Mul.f t114 t115).bind fun t116 => ((fix_F_Whole.f t116).bind fun t117 => (if t117 = 12 then ((fix_F_Div.f k 4294967296 0).bind fun t118 => (some (t118 == 18446744073709551615))) else (some false)))))) else (some false)))) else (some false))) = some r := h
  clear h
  replace H := Option.bind_eq_some_iff.mp H
  obtain ⟨t111, A10, H⟩ := H
  replace H : (if t111 = 2147483648 then ((fix_Of.f 2).bind fun t112 => ((fix_F_Root.f k t112).bind fun t113 => (if t113 = 6074000999 then ((fix_Of.f 3).bind fun t114 => ((fix_Of.f 4).bind fun t115 => ((fix_F_Mul.f t114 t115).bind fun t116 => ((fix_F_Whole.f t116).bind fun t117 => (if t117 = 12 then ((fix_F_Div.f k 4294967296 0).bind fun t118 => (some (t118 == 18446744073709551615))) else (some false)))))) else (some false)))) else (some false)) = some r := H
  have A1 := Aside0.mk A10
  clear A10
  by_cases c2 : t111 = 2147483648
  · rw [if_pos c2] at H
    have c2b0 : (t111 == 2147483648) = true := beq_iff_eq.mpr c2
    have c2b1 : (t111 != 2147483648) = false := bne_eq_false_iff_eq.mpr c2
    clear c2
    replace H := Option.bind_eq_some_iff.mp H
    obtain ⟨t112, A30, H⟩ := H
    replace H : ((fix_F_Root.f k t112).bind fun t113 => (if t113 = 6074000999 then ((fix_Of.f 3).bind fun t114 => ((fix_Of.f 4).bind fun t115 => ((fix_F_Mul.f t114 t115).bind fun t116 => ((fix_F_Whole.f t116).bind fun t117 => (if t117 = 12 then ((fix_F_Div.f k 4294967296 0).bind fun t118 => (some (t118 == 18446744073709551615))) else (some false)))))) else (some false))) = some r := H
    have A3 := Aside0.mk A30
    clear A30
    replace H := Option.bind_eq_some_iff.mp H
    obtain ⟨t113, A40, H⟩ := H
    replace H : (if t113 = 6074000999 then ((fix_Of.f 3).bind fun t114 => ((fix_Of.f 4).bind fun t115 => ((fix_F_Mul.f t114 t115).bind fun t116 => ((fix_F_Whole.f t116).bind fun t117 => (if t117 = 12 then ((fix_F_Div.f k 4294967296 0).bind fun t118 => (some (t118 == 18446744073709551615))) else (some false)))))) else (some false)) = some r := H
    have A4 := Aside0.mk A40
    clear A40
    by_cases c5 : t113 = 6074000999
    · rw [if_pos c5] at H
      have c5b0 : (t113 == 6074000999) = true := beq_iff_eq.mpr c5
      have c5b1 : (t113 != 6074000999) = false := bne_eq_false_iff_eq.mpr c5
      clear c5
      replace H := Option.bind_eq_some_iff.mp H
      obtain ⟨t114, A60, H⟩ := H
      replace H : ((fix_Of.f 4).bind fun t115 => ((fix_F_Mul.f t114 t115).bind fun t116 => ((fix_F_Whole.f t116).bind fun t117 => (if t117 = 12 then ((fix_F_Div.f k 4294967296 0).bind fun t118 => (some (t118 == 18446744073709551615))) else (some false))))) = some r := H
      have A6 := Aside0.mk A60
      clear A60
      replace H := Option.bind_eq_some_iff.mp H
      obtain ⟨t115, A70, H⟩ := H
      replace H : ((fix_F_Mul.f t114 t115).bind fun t116 => ((fix_F_Whole.f t116).bind fun t117 => (if t117 = 12 then ((fix_F_Div.f k 4294967296 0).bind fun t118 => (some (t118 == 18446744073709551615))) else (some false)))) = some r := H
      have A7 := Aside0.mk A70
      clear A70
      replace H := Option.bind_eq_some_iff.mp H
      obtain ⟨t116, A80, H⟩ := H
      replace H : ((fix_F_Whole.f t116).bind fun t117 => (if t117 = 12 then ((fix_F_Div.f k 4294967296 0).bind fun t118 => (some (t118 == 18446744073709551615))) else (some false))) = some r := H
      have A8 := Aside0.mk A80
      clear A80
      replace H := Option.bind_eq_some_iff.mp H
      obtain ⟨t117, A90, H⟩ := H
      replace H : (if t117 = 12 then ((fix_F_Div.f k 4294967296 0).bind fun t118 => (some (t118 == 18446744073709551615))) else (some false)) = some r := H
      have A9 := Aside0.mk A90
      clear A90
      by_cases c10 : t117 = 12
      · rw [if_pos c10] at H
        have c10b0 : (t117 == 12) = true := beq_iff_eq.mpr c10
        have c10b1 : (t117 != 12) = false := bne_eq_false_iff_eq.mpr c10
        clear c10
        replace H := Option.bind_eq_some_iff.mp H
        obtain ⟨t118, A110, H⟩ := H
        replace H : (some (t118 == 18446744073709551615)) = some r := H
        have A11 := Aside0.mk A110
        clear A110
        obtain rfl := Option.some.inj H
        go_enter Try.func15, Try.ntmps15
        go_wp2_with (first | ((with_reducible refine gate_callee (f := 13) rfl ?_); refine goesL_ (some 1) rfl rfl Try.func13 (by kernel_rfl) rfl #[.int .u64 1, .int .u64 2] rfl (by (try simp only [List.map_toArray, List.map_cons, List.map_nil]); first | done | rfl | (simp only [List.length_drop, List.length_take]; rfl)) ?_; (with_reducible refine (fix_Ratio.calls k 1 2 t111 _ A1.out).mono ?_); rintro e w' ⟨rfl, ⟨nd, rfl⟩⟩; refine ⟨_, rfl, ?_⟩) | (go_at_call 23; (with_reducible refine (fix_Of.calls 2 t112 _ A3.out).mono ?_); rintro e w' ⟨rfl, ⟨nd, rfl⟩⟩) | (go_at_call 16; (with_reducible refine (fix_F_Root.calls k t112 t113 _ A4.out).mono ?_); rintro e w' ⟨rfl, ⟨nd, rfl⟩⟩) | (go_at_call 23; (with_reducible refine (fix_Of.calls 3 t114 _ A6.out).mono ?_); rintro e w' ⟨rfl, ⟨nd, rfl⟩⟩) | (go_at_call 23; (with_reducible refine (fix_Of.calls 4 t115 _ A7.out).mono ?_); rintro e w' ⟨rfl, ⟨nd, rfl⟩⟩) | (go_at_call 20; (with_reducible refine (fix_F_Mul.calls t114 t115 t116 _ A8.out).mono ?_); rintro e w' ⟨rfl, ⟨nd, rfl⟩⟩) | (go_at_call 22; (with_reducible refine (fix_F_Whole.calls t116 t117 _ A9.out).mono ?_); rintro e w' ⟨rfl, ⟨nd, rfl⟩⟩) | (go_at_call 10; (with_reducible refine (fix_F_Div.calls k 4294967296 0 t118 _ A11.out).mono ?_); rintro e w' ⟨rfl, ⟨nd, rfl⟩⟩))
        go_ret
        exact ⟨by first | rfl | (simp; done) | (simp [*]; done), by repeat (first | exact Drawn0.refl _ | apply Drawn0.step)⟩
      · rw [if_neg c10] at H
        have c10b0 : (t117 == 12) = false := beq_eq_false_iff_ne.mpr c10
        have c10b1 : (t117 != 12) = true := bne_iff_ne.mpr c10
        obtain rfl := Option.some.inj H
        go_enter Try.func15, Try.ntmps15
        go_wp2_with (first | ((with_reducible refine gate_callee (f := 13) rfl ?_); refine goesL_ (some 1) rfl rfl Try.func13 (by kernel_rfl) rfl #[.int .u64 1, .int .u64 2] rfl (by (try simp only [List.map_toArray, List.map_cons, List.map_nil]); first | done | rfl | (simp only [List.length_drop, List.length_take]; rfl)) ?_; (with_reducible refine (fix_Ratio.calls k 1 2 t111 _ A1.out).mono ?_); rintro e w' ⟨rfl, ⟨nd, rfl⟩⟩; refine ⟨_, rfl, ?_⟩) | (go_at_call 23; (with_reducible refine (fix_Of.calls 2 t112 _ A3.out).mono ?_); rintro e w' ⟨rfl, ⟨nd, rfl⟩⟩) | (go_at_call 16; (with_reducible refine (fix_F_Root.calls k t112 t113 _ A4.out).mono ?_); rintro e w' ⟨rfl, ⟨nd, rfl⟩⟩) | (go_at_call 23; (with_reducible refine (fix_Of.calls 3 t114 _ A6.out).mono ?_); rintro e w' ⟨rfl, ⟨nd, rfl⟩⟩) | (go_at_call 23; (with_reducible refine (fix_Of.calls 4 t115 _ A7.out).mono ?_); rintro e w' ⟨rfl, ⟨nd, rfl⟩⟩) | (go_at_call 20; (with_reducible refine (fix_F_Mul.calls t114 t115 t116 _ A8.out).mono ?_); rintro e w' ⟨rfl, ⟨nd, rfl⟩⟩) | (go_at_call 22; (with_reducible refine (fix_F_Whole.calls t116 t117 _ A9.out).mono ?_); rintro e w' ⟨rfl, ⟨nd, rfl⟩⟩))
        go_ret
        exact ⟨by first | rfl | (simp; done) | (simp [*]; done), by repeat (first | exact Drawn0.refl _ | apply Drawn0.step)⟩
    · rw [if_neg c5] at H
      have c5b0 : (t113 == 6074000999) = false := beq_eq_false_iff_ne.mpr c5
      have c5b1 : (t113 != 6074000999) = true := bne_iff_ne.mpr c5
      obtain rfl := Option.some.inj H
      go_enter Try.func15, Try.ntmps15
      go_wp2_with (first | ((with_reducible refine gate_callee (f := 13) rfl ?_); refine goesL_ (some 1) rfl rfl Try.func13 (by kernel_rfl) rfl #[.int .u64 1, .int .u64 2] rfl (by (try simp only [List.map_toArray, List.map_cons, List.map_nil]); first | done | rfl | (simp only [List.length_drop, List.length_take]; rfl)) ?_; (with_reducible refine (fix_Ratio.calls k 1 2 t111 _ A1.out).mono ?_); rintro e w' ⟨rfl, ⟨nd, rfl⟩⟩; refine ⟨_, rfl, ?_⟩) | (go_at_call 23; (with_reducible refine (fix_Of.calls 2 t112 _ A3.out).mono ?_); rintro e w' ⟨rfl, ⟨nd, rfl⟩⟩) | (go_at_call 16; (with_reducible refine (fix_F_Root.calls k t112 t113 _ A4.out).mono ?_); rintro e w' ⟨rfl, ⟨nd, rfl⟩⟩))
      go_ret
      exact ⟨by first | rfl | (simp; done) | (simp [*]; done), by repeat (first | exact Drawn0.refl _ | apply Drawn0.step)⟩
  · rw [if_neg c2] at H
    have c2b0 : (t111 == 2147483648) = false := beq_eq_false_iff_ne.mpr c2
    have c2b1 : (t111 != 2147483648) = true := bne_iff_ne.mpr c2
    obtain rfl := Option.some.inj H
    go_enter Try.func15, Try.ntmps15
    go_wp2_with (first | ((with_reducible refine gate_callee (f := 13) rfl ?_); refine goesL_ (some 1) rfl rfl Try.func13 (by kernel_rfl) rfl #[.int .u64 1, .int .u64 2] rfl (by (try simp only [List.map_toArray, List.map_cons, List.map_nil]); first | done | rfl | (simp only [List.length_drop, List.length_take]; rfl)) ?_; (with_reducible refine (fix_Ratio.calls k 1 2 t111 _ A1.out).mono ?_); rintro e w' ⟨rfl, ⟨nd, rfl⟩⟩; refine ⟨_, rfl, ?_⟩))
    go_ret
    exact ⟨by first | rfl | (simp; done) | (simp [*]; done), by repeat (first | exact Drawn0.refl _ | apply Drawn0.step)⟩

-- NOT PRINTED: function 31 (bits_Add64)

/-! ### fix_F_Add: function 25 -/
def fix_F_Add.f (a0 : Int) (a1 : Int) : Option (Int) := if (addC a0 a1) = 0 then (some (addS a0 a1)) else (some 18446744073709551615)
set_option maxHeartbeats 8000000 in
set_option maxRecDepth 100000 in
theorem fix_F_Add.calls (a0 : Int) (a1 : Int) (r : Int) (w : World) (h : fix_F_Add.f a0 a1 = some r) :
    Calls Try.prog 25 #[.int .u64 a0, .int .u64 a1] w fun e w' => e = .returned (.int .u64 r) ∧ Drawn0 w w' := by
  have hx_add64 := fun x y W => add64_law x y W
  have H : (if (addC a0 a1) = 0 then (some (addS a0 a1)) else (some 18446744073709551615)) = some r := h
  clear h
  by_cases c3 : (addC a0 a1) = 0
  · rw [if_pos c3] at H
    have c3b0 : ((addC a0 a1) == 0) = true := beq_iff_eq.mpr c3
    have c3b1 : ((addC a0 a1) != 0) = false := bne_eq_false_iff_eq.mpr c3
    clear c3
    obtain rfl := Option.some.inj H
    go_enter Try.func25, Try.ntmps25
    go_wp2
    go_ret
    exact ⟨by first | rfl | (simp; done) | (simp [*]; done), by repeat (first | exact Drawn0.refl _ | apply Drawn0.step)⟩
  · rw [if_neg c3] at H
    have c3b0 : ((addC a0 a1) == 0) = false := beq_eq_false_iff_ne.mpr c3
    have c3b1 : ((addC a0 a1) != 0) = true := bne_iff_ne.mpr c3
    obtain rfl := Option.some.inj H
    go_enter Try.func25, Try.ntmps25
    go_wp2
    go_ret
    exact ⟨by first | rfl | (simp; done) | (simp [*]; done), by repeat (first | exact Drawn0.refl _ | apply Drawn0.step)⟩

/-! ### fix_F_Sub: function 26 -/
def fix_F_Sub.f (a0 : Int) (a1 : Int) : Option (Int) := if a1 > a0 then (some 0) else (some (IntKind.u64.wrap (a0 - a1)))
set_option maxHeartbeats 8000000 in
set_option maxRecDepth 100000 in
theorem fix_F_Sub.calls (a0 : Int) (a1 : Int) (r : Int) (w : World) (h : fix_F_Sub.f a0 a1 = some r) :
    Calls Try.prog 26 #[.int .u64 a0, .int .u64 a1] w fun e w' => e = .returned (.int .u64 r) ∧ Drawn0 w w' := by
  have H : (if a1 > a0 then (some 0) else (some (IntKind.u64.wrap (a0 - a1)))) = some r := h
  clear h
  by_cases c3 : a1 > a0
  · rw [if_pos c3] at H
    have c3b0 : decide (a0 < a1) = true := decide_eq_true c3
    clear c3
    obtain rfl := Option.some.inj H
    go_enter Try.func26, Try.ntmps26
    go_wp2
    go_ret
    exact ⟨by first | rfl | (simp; done) | (simp [*]; done), by repeat (first | exact Drawn0.refl _ | apply Drawn0.step)⟩
  · rw [if_neg c3] at H
    have c3b0 : decide (a0 < a1) = false := decide_eq_false c3
    clear c3
    obtain rfl := Option.some.inj H
    go_enter Try.func26, Try.ntmps26
    go_wp2
    go_ret
    exact ⟨by first | rfl | (simp; done) | (simp [*]; done), by repeat (first | exact Drawn0.refl _ | apply Drawn0.step)⟩

/-! ### terracelaw01_FixRises: function 8 -/
def terracelaw01_FixRises.f (k : Nat) (a0 : Int) (a1 : Int) (a2 : Int) : Option (Bool) := (fix_F_Add.f (mn a0 a1) a2).bind fun t119 => ((fix_F_Add.f (mx a0 a1) a2).bind fun t120 => (if t119 ≤ t120 then ((fix_F_Mul.f (mn a0 a1) a2).bind fun t121 => ((fix_F_Mul.f (mx a0 a1) a2).bind fun t122 => (if t121 ≤ t122 then ((fix_F_Div.f k (mn a0 a1) a2).bind fun t123 => ((fix_F_Div.f k (mx a0 a1) a2).bind fun t124 => (if t123 ≤ t124 then ((fix_F_Div.f k a2 (mn a0 a1)).bind fun t125 => ((fix_F_Div.f k a2 (mx a0 a1)).bind fun t126 => (if t125 ≥ t126 then ((fix_F_Sub.f (mn a0 a1) a2).bind fun t127 => ((fix_F_Sub.f (mx a0 a1) a2).bind fun t128 => (if t127 ≤ t128 then ((fix_F_Sub.f a2 (mn a0 a1)).bind fun t129 => ((fix_F_Sub.f a2 (mx a0 a1)).bind fun t130 => (if t129 ≥ t130 then ((fix_F_Root.f k (mn a0 a1)).bind fun t131 => ((fix_F_Root.f k (mx a0 a1)).bind fun t132 => (if t131 ≤ t132 then ((terracelaw01_awake.f k).bind fun t133 => (some t133)) else (some false)))) else (some false)))) else (some false)))) else (some false)))) else (some false)))) else (some false)))) else (some false)))
theorem terracelaw01_FixRises.mono : ∀ a0 a1 a2 k, LeO (terracelaw01_FixRises.f k a0 a1 a2) (terracelaw01_FixRises.f (k + 1) a0 a1 a2) := by
  intro a0 a1 a2 k
  unfold terracelaw01_FixRises.f
  repeat' first
      | (with_reducible exact fix_F_Div.mono _ _ _)
      | (with_reducible exact fix_F_Root.mono _ _)
      | (with_reducible exact terracelaw01_awake.mono _)
      | (with_reducible exact LeO.refl _)
      | (with_reducible exact LeO.none _)
      | (with_reducible refine LeO.ite ?_ ?_)
      | (with_reducible refine LeO.bind ?_ (fun _ => ?_))
      | exact fix_F_Div.mono _ _ _
      | exact fix_F_Root.mono _ _
      | exact terracelaw01_awake.mono _
      | exact LeO.none _
      | refine LeO.ite ?_ ?_
      | refine LeO.bind ?_ (fun _ => ?_)
set_option maxHeartbeats 8000000 in
set_option maxRecDepth 100000 in
theorem terracelaw01_FixRises.calls (k : Nat) (a0 : Int) (a1 : Int) (a2 : Int) (r : Bool) (w : World) (h : terracelaw01_FixRises.f k a0 a1 a2 = some r) :
    Calls Try.prog 8 #[.int .u64 a0, .int .u64 a1, .int .u64 a2] w fun e w' => e = .returned (.bool r) ∧ Below w.heap.size w w' := by
  have HB := Aside0.mk (Below.refl w.heap.size w)
  have H : ((fix_F_Add.f (mn a0 a1) a2).bind fun t119 => ((fix_F_Add.f (mx a0 a1) a2).bind fun t120 => (if t119 ≤ t120 then ((fix_F_Mul.f (mn a0 a1) a2).bind fun t121 => ((fix_F_Mul.f (mx a0 a1) a2).bind fun t122 => (if t121 ≤ t122 then ((fix_F_Div.f k (mn a0 a1) a2).bind fun t123 => ((fix_F_Div.f k (mx a0 a1) a2).bind fun t124 => (if t123 ≤ t124 then ((fix_F_Div.f k a2 (mn a0 a1)).bind fun t125 => ((fix_F_Div.f k a2 (mx a0 a1)).bind fun t126 => (if t125 ≥ t126 then ((fix_F_Sub.f (mn a0 a1) a2).bind fun t127 => ((fix_F_Sub.f (mx a0 a1) a2).bind fun t128 => (if t127 ≤ t128 then ((fix_F_Sub.f a2 (mn a0 a1)).bind fun t129 => ((fix_F_Sub.f a2 (mx a0 a1)).bind fun t130 => (if t129 ≥ t130 then ((fix_F_Root.f k (mn a0 a1)).bind fun t131 => ((fix_F_Root.f k (mx a0 a1)).bind fun t132 => (if t131 ≤ t132 then ((terracelaw01_awake.f k).bind fun t133 => (some t133)) else (some false)))) else (some false)))) else (some false)))) else (some false)))) else (some false)))) else (some false)))) else (some false)))) = some r := h
  clear h
  obtain ⟨ji4, hji4⟩ : ∃ j_ : Int, (mn a0 a1) = j_ := ⟨_, rfl⟩
  replace H : ((fix_F_Add.f (ji4) a2).bind fun t119 => ((fix_F_Add.f (mx a0 a1) a2).bind fun t120 => (if t119 ≤ t120 then ((fix_F_Mul.f (ji4) a2).bind fun t121 => ((fix_F_Mul.f (mx a0 a1) a2).bind fun t122 => (if t121 ≤ t122 then ((fix_F_Div.f k (ji4) a2).bind fun t123 => ((fix_F_Div.f k (mx a0 a1) a2).bind fun t124 => (if t123 ≤ t124 then ((fix_F_Div.f k a2 (ji4)).bind fun t125 => ((fix_F_Div.f k a2 (mx a0 a1)).bind fun t126 => (if t125 ≥ t126 then ((fix_F_Sub.f (ji4) a2).bind fun t127 => ((fix_F_Sub.f (mx a0 a1) a2).bind fun t128 => (if t127 ≤ t128 then ((fix_F_Sub.f a2 (ji4)).bind fun t129 => ((fix_F_Sub.f a2 (mx a0 a1)).bind fun t130 => (if t129 ≥ t130 then ((fix_F_Root.f k (ji4)).bind fun t131 => ((fix_F_Root.f k (mx a0 a1)).bind fun t132 => (if t131 ≤ t132 then ((terracelaw01_awake.f k).bind fun t133 => (some t133)) else (some false)))) else (some false)))) else (some false)))) else (some false)))) else (some false)))) else (some false)))) else (some false)))) = some r := by first | (rw [hji4] at H; exact H) | (simp only [hji4] at H ⊢; exact H)
  have hji4_ : (if a1 < a0 then a1 else a0) = ji4 := hji4
  obtain ⟨ji5, hji5⟩ : ∃ j_ : Int, (mx a0 a1) = j_ := ⟨_, rfl⟩
  replace H : ((fix_F_Add.f (ji4) a2).bind fun t119 => ((fix_F_Add.f (ji5) a2).bind fun t120 => (if t119 ≤ t120 then ((fix_F_Mul.f (ji4) a2).bind fun t121 => ((fix_F_Mul.f (ji5) a2).bind fun t122 => (if t121 ≤ t122 then ((fix_F_Div.f k (ji4) a2).bind fun t123 => ((fix_F_Div.f k (ji5) a2).bind fun t124 => (if t123 ≤ t124 then ((fix_F_Div.f k a2 (ji4)).bind fun t125 => ((fix_F_Div.f k a2 (ji5)).bind fun t126 => (if t125 ≥ t126 then ((fix_F_Sub.f (ji4) a2).bind fun t127 => ((fix_F_Sub.f (ji5) a2).bind fun t128 => (if t127 ≤ t128 then ((fix_F_Sub.f a2 (ji4)).bind fun t129 => ((fix_F_Sub.f a2 (ji5)).bind fun t130 => (if t129 ≥ t130 then ((fix_F_Root.f k (ji4)).bind fun t131 => ((fix_F_Root.f k (ji5)).bind fun t132 => (if t131 ≤ t132 then ((terracelaw01_awake.f k).bind fun t133 => (some t133)) else (some false)))) else (some false)))) else (some false)))) else (some false)))) else (some false)))) else (some false)))) else (some false)))) = some r := by first | (rw [hji5] at H; exact H) | (simp only [hji5] at H ⊢; exact H)
  have hji5_ : (if a0 < a1 then a1 else a0) = ji5 := hji5
  replace H := Option.bind_eq_some_iff.mp H
  obtain ⟨t119, A60, H⟩ := H
  replace H : ((fix_F_Add.f (ji5) a2).bind fun t120 => (if t119 ≤ t120 then ((fix_F_Mul.f (ji4) a2).bind fun t121 => ((fix_F_Mul.f (ji5) a2).bind fun t122 => (if t121 ≤ t122 then ((fix_F_Div.f k (ji4) a2).bind fun t123 => ((fix_F_Div.f k (ji5) a2).bind fun t124 => (if t123 ≤ t124 then ((fix_F_Div.f k a2 (ji4)).bind fun t125 => ((fix_F_Div.f k a2 (ji5)).bind fun t126 => (if t125 ≥ t126 then ((fix_F_Sub.f (ji4) a2).bind fun t127 => ((fix_F_Sub.f (ji5) a2).bind fun t128 => (if t127 ≤ t128 then ((fix_F_Sub.f a2 (ji4)).bind fun t129 => ((fix_F_Sub.f a2 (ji5)).bind fun t130 => (if t129 ≥ t130 then ((fix_F_Root.f k (ji4)).bind fun t131 => ((fix_F_Root.f k (ji5)).bind fun t132 => (if t131 ≤ t132 then ((terracelaw01_awake.f k).bind fun t133 => (some t133)) else (some false)))) else (some false)))) else (some false)))) else (some false)))) else (some false)))) else (some false)))) else (some false))) = some r := H
  have A6 := Aside0.mk A60
  clear A60
  replace H := Option.bind_eq_some_iff.mp H
  obtain ⟨t120, A70, H⟩ := H
  replace H : (if t119 ≤ t120 then ((fix_F_Mul.f (ji4) a2).bind fun t121 => ((fix_F_Mul.f (ji5) a2).bind fun t122 => (if t121 ≤ t122 then ((fix_F_Div.f k (ji4) a2).bind fun t123 => ((fix_F_Div.f k (ji5) a2).bind fun t124 => (if t123 ≤ t124 then ((fix_F_Div.f k a2 (ji4)).bind fun t125 => ((fix_F_Div.f k a2 (ji5)).bind fun t126 => (if t125 ≥ t126 then ((fix_F_Sub.f (ji4) a2).bind fun t127 => ((fix_F_Sub.f (ji5) a2).bind fun t128 => (if t127 ≤ t128 then ((fix_F_Sub.f a2 (ji4)).bind fun t129 => ((fix_F_Sub.f a2 (ji5)).bind fun t130 => (if t129 ≥ t130 then ((fix_F_Root.f k (ji4)).bind fun t131 => ((fix_F_Root.f k (ji5)).bind fun t132 => (if t131 ≤ t132 then ((terracelaw01_awake.f k).bind fun t133 => (some t133)) else (some false)))) else (some false)))) else (some false)))) else (some false)))) else (some false)))) else (some false)))) else (some false)) = some r := H
  have A7 := Aside0.mk A70
  clear A70
  by_cases c8 : t119 ≤ t120
  · rw [if_pos c8] at H
    have c8b0 : decide (t119 ≤ t120) = true := decide_eq_true c8
    clear c8
    replace H := Option.bind_eq_some_iff.mp H
    obtain ⟨t121, A90, H⟩ := H
    replace H : ((fix_F_Mul.f (ji5) a2).bind fun t122 => (if t121 ≤ t122 then ((fix_F_Div.f k (ji4) a2).bind fun t123 => ((fix_F_Div.f k (ji5) a2).bind fun t124 => (if t123 ≤ t124 then ((fix_F_Div.f k a2 (ji4)).bind fun t125 => ((fix_F_Div.f k a2 (ji5)).bind fun t126 => (if t125 ≥ t126 then ((fix_F_Sub.f (ji4) a2).bind fun t127 => ((fix_F_Sub.f (ji5) a2).bind fun t128 => (if t127 ≤ t128 then ((fix_F_Sub.f a2 (ji4)).bind fun t129 => ((fix_F_Sub.f a2 (ji5)).bind fun t130 => (if t129 ≥ t130 then ((fix_F_Root.f k (ji4)).bind fun t131 => ((fix_F_Root.f k (ji5)).bind fun t132 => (if t131 ≤ t132 then ((terracelaw01_awake.f k).bind fun t133 => (some t133)) else (some false)))) else (some false)))) else (some false)))) else (some false)))) else (some false)))) else (some false))) = some r := H
    have A9 := Aside0.mk A90
    clear A90
    replace H := Option.bind_eq_some_iff.mp H
    obtain ⟨t122, A100, H⟩ := H
    replace H : (if t121 ≤ t122 then ((fix_F_Div.f k (ji4) a2).bind fun t123 => ((fix_F_Div.f k (ji5) a2).bind fun t124 => (if t123 ≤ t124 then ((fix_F_Div.f k a2 (ji4)).bind fun t125 => ((fix_F_Div.f k a2 (ji5)).bind fun t126 => (if t125 ≥ t126 then ((fix_F_Sub.f (ji4) a2).bind fun t127 => ((fix_F_Sub.f (ji5) a2).bind fun t128 => (if t127 ≤ t128 then ((fix_F_Sub.f a2 (ji4)).bind fun t129 => ((fix_F_Sub.f a2 (ji5)).bind fun t130 => (if t129 ≥ t130 then ((fix_F_Root.f k (ji4)).bind fun t131 => ((fix_F_Root.f k (ji5)).bind fun t132 => (if t131 ≤ t132 then ((terracelaw01_awake.f k).bind fun t133 => (some t133)) else (some false)))) else (some false)))) else (some false)))) else (some false)))) else (some false)))) else (some false)) = some r := H
    have A10 := Aside0.mk A100
    clear A100
    by_cases c11 : t121 ≤ t122
    · rw [if_pos c11] at H
      have c11b0 : decide (t121 ≤ t122) = true := decide_eq_true c11
      clear c11
      replace H := Option.bind_eq_some_iff.mp H
      obtain ⟨t123, A120, H⟩ := H
      replace H : ((fix_F_Div.f k (ji5) a2).bind fun t124 => (if t123 ≤ t124 then ((fix_F_Div.f k a2 (ji4)).bind fun t125 => ((fix_F_Div.f k a2 (ji5)).bind fun t126 => (if t125 ≥ t126 then ((fix_F_Sub.f (ji4) a2).bind fun t127 => ((fix_F_Sub.f (ji5) a2).bind fun t128 => (if t127 ≤ t128 then ((fix_F_Sub.f a2 (ji4)).bind fun t129 => ((fix_F_Sub.f a2 (ji5)).bind fun t130 => (if t129 ≥ t130 then ((fix_F_Root.f k (ji4)).bind fun t131 => ((fix_F_Root.f k (ji5)).bind fun t132 => (if t131 ≤ t132 then ((terracelaw01_awake.f k).bind fun t133 => (some t133)) else (some false)))) else (some false)))) else (some false)))) else (some false)))) else (some false))) = some r := H
      have A12 := Aside0.mk A120
      clear A120
      replace H := Option.bind_eq_some_iff.mp H
      obtain ⟨t124, A130, H⟩ := H
      replace H : (if t123 ≤ t124 then ((fix_F_Div.f k a2 (ji4)).bind fun t125 => ((fix_F_Div.f k a2 (ji5)).bind fun t126 => (if t125 ≥ t126 then ((fix_F_Sub.f (ji4) a2).bind fun t127 => ((fix_F_Sub.f (ji5) a2).bind fun t128 => (if t127 ≤ t128 then ((fix_F_Sub.f a2 (ji4)).bind fun t129 => ((fix_F_Sub.f a2 (ji5)).bind fun t130 => (if t129 ≥ t130 then ((fix_F_Root.f k (ji4)).bind fun t131 => ((fix_F_Root.f k (ji5)).bind fun t132 => (if t131 ≤ t132 then ((terracelaw01_awake.f k).bind fun t133 => (some t133)) else (some false)))) else (some false)))) else (some false)))) else (some false)))) else (some false)) = some r := H
      have A13 := Aside0.mk A130
      clear A130
      by_cases c14 : t123 ≤ t124
      · rw [if_pos c14] at H
        have c14b0 : decide (t123 ≤ t124) = true := decide_eq_true c14
        clear c14
        replace H := Option.bind_eq_some_iff.mp H
        obtain ⟨t125, A150, H⟩ := H
        replace H : ((fix_F_Div.f k a2 (ji5)).bind fun t126 => (if t125 ≥ t126 then ((fix_F_Sub.f (ji4) a2).bind fun t127 => ((fix_F_Sub.f (ji5) a2).bind fun t128 => (if t127 ≤ t128 then ((fix_F_Sub.f a2 (ji4)).bind fun t129 => ((fix_F_Sub.f a2 (ji5)).bind fun t130 => (if t129 ≥ t130 then ((fix_F_Root.f k (ji4)).bind fun t131 => ((fix_F_Root.f k (ji5)).bind fun t132 => (if t131 ≤ t132 then ((terracelaw01_awake.f k).bind fun t133 => (some t133)) else (some false)))) else (some false)))) else (some false)))) else (some false))) = some r := H
        have A15 := Aside0.mk A150
        clear A150
        replace H := Option.bind_eq_some_iff.mp H
        obtain ⟨t126, A160, H⟩ := H
        replace H : (if t125 ≥ t126 then ((fix_F_Sub.f (ji4) a2).bind fun t127 => ((fix_F_Sub.f (ji5) a2).bind fun t128 => (if t127 ≤ t128 then ((fix_F_Sub.f a2 (ji4)).bind fun t129 => ((fix_F_Sub.f a2 (ji5)).bind fun t130 => (if t129 ≥ t130 then ((fix_F_Root.f k (ji4)).bind fun t131 => ((fix_F_Root.f k (ji5)).bind fun t132 => (if t131 ≤ t132 then ((terracelaw01_awake.f k).bind fun t133 => (some t133)) else (some false)))) else (some false)))) else (some false)))) else (some false)) = some r := H
        have A16 := Aside0.mk A160
        clear A160
        by_cases c17 : t125 ≥ t126
        · rw [if_pos c17] at H
          have c17b0 : decide (t126 ≤ t125) = true := decide_eq_true c17
          clear c17
          replace H := Option.bind_eq_some_iff.mp H
          obtain ⟨t127, A180, H⟩ := H
          replace H : ((fix_F_Sub.f (ji5) a2).bind fun t128 => (if t127 ≤ t128 then ((fix_F_Sub.f a2 (ji4)).bind fun t129 => ((fix_F_Sub.f a2 (ji5)).bind fun t130 => (if t129 ≥ t130 then ((fix_F_Root.f k (ji4)).bind fun t131 => ((fix_F_Root.f k (ji5)).bind fun t132 => (if t131 ≤ t132 then ((terracelaw01_awake.f k).bind fun t133 => (some t133)) else (some false)))) else (some false)))) else (some false))) = some r := H
          have A18 := Aside0.mk A180
          clear A180
          replace H := Option.bind_eq_some_iff.mp H
          obtain ⟨t128, A190, H⟩ := H
          replace H : (if t127 ≤ t128 then ((fix_F_Sub.f a2 (ji4)).bind fun t129 => ((fix_F_Sub.f a2 (ji5)).bind fun t130 => (if t129 ≥ t130 then ((fix_F_Root.f k (ji4)).bind fun t131 => ((fix_F_Root.f k (ji5)).bind fun t132 => (if t131 ≤ t132 then ((terracelaw01_awake.f k).bind fun t133 => (some t133)) else (some false)))) else (some false)))) else (some false)) = some r := H
          have A19 := Aside0.mk A190
          clear A190
          by_cases c20 : t127 ≤ t128
          · rw [if_pos c20] at H
            have c20b0 : decide (t127 ≤ t128) = true := decide_eq_true c20
            clear c20
            replace H := Option.bind_eq_some_iff.mp H
            obtain ⟨t129, A210, H⟩ := H
            replace H : ((fix_F_Sub.f a2 (ji5)).bind fun t130 => (if t129 ≥ t130 then ((fix_F_Root.f k (ji4)).bind fun t131 => ((fix_F_Root.f k (ji5)).bind fun t132 => (if t131 ≤ t132 then ((terracelaw01_awake.f k).bind fun t133 => (some t133)) else (some false)))) else (some false))) = some r := H
            have A21 := Aside0.mk A210
            clear A210
            replace H := Option.bind_eq_some_iff.mp H
            obtain ⟨t130, A220, H⟩ := H
            replace H : (if t129 ≥ t130 then ((fix_F_Root.f k (ji4)).bind fun t131 => ((fix_F_Root.f k (ji5)).bind fun t132 => (if t131 ≤ t132 then ((terracelaw01_awake.f k).bind fun t133 => (some t133)) else (some false)))) else (some false)) = some r := H
            have A22 := Aside0.mk A220
            clear A220
            by_cases c23 : t129 ≥ t130
            · rw [if_pos c23] at H
              have c23b0 : decide (t130 ≤ t129) = true := decide_eq_true c23
              clear c23
              replace H := Option.bind_eq_some_iff.mp H
              obtain ⟨t131, A240, H⟩ := H
              replace H : ((fix_F_Root.f k (ji5)).bind fun t132 => (if t131 ≤ t132 then ((terracelaw01_awake.f k).bind fun t133 => (some t133)) else (some false))) = some r := H
              have A24 := Aside0.mk A240
              clear A240
              replace H := Option.bind_eq_some_iff.mp H
              obtain ⟨t132, A250, H⟩ := H
              replace H : (if t131 ≤ t132 then ((terracelaw01_awake.f k).bind fun t133 => (some t133)) else (some false)) = some r := H
              have A25 := Aside0.mk A250
              clear A250
              by_cases c26 : t131 ≤ t132
              · rw [if_pos c26] at H
                have c26b0 : decide (t131 ≤ t132) = true := decide_eq_true c26
                clear c26
                replace H := Option.bind_eq_some_iff.mp H
                obtain ⟨t133, A270, H⟩ := H
                replace H : (some t133) = some r := H
                have A27 := Aside0.mk A270
                clear A270
                obtain rfl := Option.some.inj H
                go_enter Try.func8, Try.ntmps8
                go_wp2_with (first | ((with_reducible refine gate_callee (f := 25) rfl ?_); refine goesL_ (some 17) rfl rfl Try.func25 (by kernel_rfl) rfl #[.int .u64 ji4, .int .u64 a2] rfl (by (try simp only [List.map_toArray, List.map_cons, List.map_nil]); first | done | (simp only [hji4]; rfl) | rfl | (simp only [List.length_drop, List.length_take]; rfl)) ?_; (with_reducible refine (fix_F_Add.calls ji4 a2 t119 _ A6.out).mono ?_); rintro e w' ⟨rfl, ⟨nd, rfl⟩⟩; refine ⟨_, rfl, ?_⟩) | ((with_reducible refine gate_callee (f := 25) rfl ?_); refine goesL_ (some 20) rfl rfl Try.func25 (by kernel_rfl) rfl #[.int .u64 ji5, .int .u64 a2] rfl (by (try simp only [List.map_toArray, List.map_cons, List.map_nil]); first | done | (simp only [hji5]; rfl) | rfl | (simp only [List.length_drop, List.length_take]; rfl)) ?_; (with_reducible refine (fix_F_Add.calls ji5 a2 t120 _ A7.out).mono ?_); rintro e w' ⟨rfl, ⟨nd, rfl⟩⟩; refine ⟨_, rfl, ?_⟩) | (go_at_call 20; (with_reducible refine (fix_F_Mul.calls ji4 a2 t121 _ A9.out).mono ?_); rintro e w' ⟨rfl, ⟨nd, rfl⟩⟩) | (go_at_call 20; (with_reducible refine (fix_F_Mul.calls ji5 a2 t122 _ A10.out).mono ?_); rintro e w' ⟨rfl, ⟨nd, rfl⟩⟩) | (go_at_call 10; (with_reducible refine (fix_F_Div.calls k ji4 a2 t123 _ A12.out).mono ?_); rintro e w' ⟨rfl, ⟨nd, rfl⟩⟩) | (go_at_call 10; (with_reducible refine (fix_F_Div.calls k ji5 a2 t124 _ A13.out).mono ?_); rintro e w' ⟨rfl, ⟨nd, rfl⟩⟩) | (go_at_call 10; (with_reducible refine (fix_F_Div.calls k a2 ji4 t125 _ A15.out).mono ?_); rintro e w' ⟨rfl, ⟨nd, rfl⟩⟩) | (go_at_call 10; (with_reducible refine (fix_F_Div.calls k a2 ji5 t126 _ A16.out).mono ?_); rintro e w' ⟨rfl, ⟨nd, rfl⟩⟩) | (go_at_call 26; (with_reducible refine (fix_F_Sub.calls ji4 a2 t127 _ A18.out).mono ?_); rintro e w' ⟨rfl, ⟨nd, rfl⟩⟩) | (go_at_call 26; (with_reducible refine (fix_F_Sub.calls ji5 a2 t128 _ A19.out).mono ?_); rintro e w' ⟨rfl, ⟨nd, rfl⟩⟩) | (go_at_call 26; (with_reducible refine (fix_F_Sub.calls a2 ji4 t129 _ A21.out).mono ?_); rintro e w' ⟨rfl, ⟨nd, rfl⟩⟩) | (go_at_call 26; (with_reducible refine (fix_F_Sub.calls a2 ji5 t130 _ A22.out).mono ?_); rintro e w' ⟨rfl, ⟨nd, rfl⟩⟩) | (go_at_call 16; (with_reducible refine (fix_F_Root.calls k ji4 t131 _ A24.out).mono ?_); rintro e w' ⟨rfl, ⟨nd, rfl⟩⟩) | (go_at_call 16; (with_reducible refine (fix_F_Root.calls k ji5 t132 _ A25.out).mono ?_); rintro e w' ⟨rfl, ⟨nd, rfl⟩⟩) | (go_at_call 15; (with_reducible refine (terracelaw01_awake.calls k  t133 _ A27.out).mono ?_); rintro e w' ⟨rfl, ⟨nd, rfl⟩⟩))
                go_ret
                exact ⟨by first | rfl | (simp [errW_none, errW_some] <;> rfl) | (simp only [← hji4, ← hji5]; first | rfl | (simp [errW_none, errW_some] <;> rfl)) | (simp [*, errW_none, errW_some] <;> rfl), by repeat (first | (with_reducible first | exact HB.out | apply below_alloc | apply pw_below_drewN | apply below_drew1) | exact HB.out)⟩
              · rw [if_neg c26] at H
                have c26b0 : decide (t131 ≤ t132) = false := decide_eq_false c26
                clear c26
                obtain rfl := Option.some.inj H
                go_enter Try.func8, Try.ntmps8
                go_wp2_with (first | ((with_reducible refine gate_callee (f := 25) rfl ?_); refine goesL_ (some 17) rfl rfl Try.func25 (by kernel_rfl) rfl #[.int .u64 ji4, .int .u64 a2] rfl (by (try simp only [List.map_toArray, List.map_cons, List.map_nil]); first | done | (simp only [hji4]; rfl) | rfl | (simp only [List.length_drop, List.length_take]; rfl)) ?_; (with_reducible refine (fix_F_Add.calls ji4 a2 t119 _ A6.out).mono ?_); rintro e w' ⟨rfl, ⟨nd, rfl⟩⟩; refine ⟨_, rfl, ?_⟩) | ((with_reducible refine gate_callee (f := 25) rfl ?_); refine goesL_ (some 20) rfl rfl Try.func25 (by kernel_rfl) rfl #[.int .u64 ji5, .int .u64 a2] rfl (by (try simp only [List.map_toArray, List.map_cons, List.map_nil]); first | done | (simp only [hji5]; rfl) | rfl | (simp only [List.length_drop, List.length_take]; rfl)) ?_; (with_reducible refine (fix_F_Add.calls ji5 a2 t120 _ A7.out).mono ?_); rintro e w' ⟨rfl, ⟨nd, rfl⟩⟩; refine ⟨_, rfl, ?_⟩) | (go_at_call 20; (with_reducible refine (fix_F_Mul.calls ji4 a2 t121 _ A9.out).mono ?_); rintro e w' ⟨rfl, ⟨nd, rfl⟩⟩) | (go_at_call 20; (with_reducible refine (fix_F_Mul.calls ji5 a2 t122 _ A10.out).mono ?_); rintro e w' ⟨rfl, ⟨nd, rfl⟩⟩) | (go_at_call 10; (with_reducible refine (fix_F_Div.calls k ji4 a2 t123 _ A12.out).mono ?_); rintro e w' ⟨rfl, ⟨nd, rfl⟩⟩) | (go_at_call 10; (with_reducible refine (fix_F_Div.calls k ji5 a2 t124 _ A13.out).mono ?_); rintro e w' ⟨rfl, ⟨nd, rfl⟩⟩) | (go_at_call 10; (with_reducible refine (fix_F_Div.calls k a2 ji4 t125 _ A15.out).mono ?_); rintro e w' ⟨rfl, ⟨nd, rfl⟩⟩) | (go_at_call 10; (with_reducible refine (fix_F_Div.calls k a2 ji5 t126 _ A16.out).mono ?_); rintro e w' ⟨rfl, ⟨nd, rfl⟩⟩) | (go_at_call 26; (with_reducible refine (fix_F_Sub.calls ji4 a2 t127 _ A18.out).mono ?_); rintro e w' ⟨rfl, ⟨nd, rfl⟩⟩) | (go_at_call 26; (with_reducible refine (fix_F_Sub.calls ji5 a2 t128 _ A19.out).mono ?_); rintro e w' ⟨rfl, ⟨nd, rfl⟩⟩) | (go_at_call 26; (with_reducible refine (fix_F_Sub.calls a2 ji4 t129 _ A21.out).mono ?_); rintro e w' ⟨rfl, ⟨nd, rfl⟩⟩) | (go_at_call 26; (with_reducible refine (fix_F_Sub.calls a2 ji5 t130 _ A22.out).mono ?_); rintro e w' ⟨rfl, ⟨nd, rfl⟩⟩) | (go_at_call 16; (with_reducible refine (fix_F_Root.calls k ji4 t131 _ A24.out).mono ?_); rintro e w' ⟨rfl, ⟨nd, rfl⟩⟩) | (go_at_call 16; (with_reducible refine (fix_F_Root.calls k ji5 t132 _ A25.out).mono ?_); rintro e w' ⟨rfl, ⟨nd, rfl⟩⟩))
                go_ret
                exact ⟨by first | rfl | (simp [errW_none, errW_some] <;> rfl) | (simp only [← hji4, ← hji5]; first | rfl | (simp [errW_none, errW_some] <;> rfl)) | (simp [*, errW_none, errW_some] <;> rfl), by repeat (first | (with_reducible first | exact HB.out | apply below_alloc | apply pw_below_drewN | apply below_drew1) | exact HB.out)⟩
            · rw [if_neg c23] at H
              have c23b0 : decide (t130 ≤ t129) = false := decide_eq_false c23
              clear c23
              obtain rfl := Option.some.inj H
              go_enter Try.func8, Try.ntmps8
              go_wp2_with (first | ((with_reducible refine gate_callee (f := 25) rfl ?_); refine goesL_ (some 17) rfl rfl Try.func25 (by kernel_rfl) rfl #[.int .u64 ji4, .int .u64 a2] rfl (by (try simp only [List.map_toArray, List.map_cons, List.map_nil]); first | done | (simp only [hji4]; rfl) | rfl | (simp only [List.length_drop, List.length_take]; rfl)) ?_; (with_reducible refine (fix_F_Add.calls ji4 a2 t119 _ A6.out).mono ?_); rintro e w' ⟨rfl, ⟨nd, rfl⟩⟩; refine ⟨_, rfl, ?_⟩) | ((with_reducible refine gate_callee (f := 25) rfl ?_); refine goesL_ (some 20) rfl rfl Try.func25 (by kernel_rfl) rfl #[.int .u64 ji5, .int .u64 a2] rfl (by (try simp only [List.map_toArray, List.map_cons, List.map_nil]); first | done | (simp only [hji5]; rfl) | rfl | (simp only [List.length_drop, List.length_take]; rfl)) ?_; (with_reducible refine (fix_F_Add.calls ji5 a2 t120 _ A7.out).mono ?_); rintro e w' ⟨rfl, ⟨nd, rfl⟩⟩; refine ⟨_, rfl, ?_⟩) | (go_at_call 20; (with_reducible refine (fix_F_Mul.calls ji4 a2 t121 _ A9.out).mono ?_); rintro e w' ⟨rfl, ⟨nd, rfl⟩⟩) | (go_at_call 20; (with_reducible refine (fix_F_Mul.calls ji5 a2 t122 _ A10.out).mono ?_); rintro e w' ⟨rfl, ⟨nd, rfl⟩⟩) | (go_at_call 10; (with_reducible refine (fix_F_Div.calls k ji4 a2 t123 _ A12.out).mono ?_); rintro e w' ⟨rfl, ⟨nd, rfl⟩⟩) | (go_at_call 10; (with_reducible refine (fix_F_Div.calls k ji5 a2 t124 _ A13.out).mono ?_); rintro e w' ⟨rfl, ⟨nd, rfl⟩⟩) | (go_at_call 10; (with_reducible refine (fix_F_Div.calls k a2 ji4 t125 _ A15.out).mono ?_); rintro e w' ⟨rfl, ⟨nd, rfl⟩⟩) | (go_at_call 10; (with_reducible refine (fix_F_Div.calls k a2 ji5 t126 _ A16.out).mono ?_); rintro e w' ⟨rfl, ⟨nd, rfl⟩⟩) | (go_at_call 26; (with_reducible refine (fix_F_Sub.calls ji4 a2 t127 _ A18.out).mono ?_); rintro e w' ⟨rfl, ⟨nd, rfl⟩⟩) | (go_at_call 26; (with_reducible refine (fix_F_Sub.calls ji5 a2 t128 _ A19.out).mono ?_); rintro e w' ⟨rfl, ⟨nd, rfl⟩⟩) | (go_at_call 26; (with_reducible refine (fix_F_Sub.calls a2 ji4 t129 _ A21.out).mono ?_); rintro e w' ⟨rfl, ⟨nd, rfl⟩⟩) | (go_at_call 26; (with_reducible refine (fix_F_Sub.calls a2 ji5 t130 _ A22.out).mono ?_); rintro e w' ⟨rfl, ⟨nd, rfl⟩⟩))
              go_ret
              exact ⟨by first | rfl | (simp [errW_none, errW_some] <;> rfl) | (simp only [← hji4, ← hji5]; first | rfl | (simp [errW_none, errW_some] <;> rfl)) | (simp [*, errW_none, errW_some] <;> rfl), by repeat (first | (with_reducible first | exact HB.out | apply below_alloc | apply pw_below_drewN | apply below_drew1) | exact HB.out)⟩
          · rw [if_neg c20] at H
            have c20b0 : decide (t127 ≤ t128) = false := decide_eq_false c20
            clear c20
            obtain rfl := Option.some.inj H
            go_enter Try.func8, Try.ntmps8
            go_wp2_with (first | ((with_reducible refine gate_callee (f := 25) rfl ?_); refine goesL_ (some 17) rfl rfl Try.func25 (by kernel_rfl) rfl #[.int .u64 ji4, .int .u64 a2] rfl (by (try simp only [List.map_toArray, List.map_cons, List.map_nil]); first | done | (simp only [hji4]; rfl) | rfl | (simp only [List.length_drop, List.length_take]; rfl)) ?_; (with_reducible refine (fix_F_Add.calls ji4 a2 t119 _ A6.out).mono ?_); rintro e w' ⟨rfl, ⟨nd, rfl⟩⟩; refine ⟨_, rfl, ?_⟩) | ((with_reducible refine gate_callee (f := 25) rfl ?_); refine goesL_ (some 20) rfl rfl Try.func25 (by kernel_rfl) rfl #[.int .u64 ji5, .int .u64 a2] rfl (by (try simp only [List.map_toArray, List.map_cons, List.map_nil]); first | done | (simp only [hji5]; rfl) | rfl | (simp only [List.length_drop, List.length_take]; rfl)) ?_; (with_reducible refine (fix_F_Add.calls ji5 a2 t120 _ A7.out).mono ?_); rintro e w' ⟨rfl, ⟨nd, rfl⟩⟩; refine ⟨_, rfl, ?_⟩) | (go_at_call 20; (with_reducible refine (fix_F_Mul.calls ji4 a2 t121 _ A9.out).mono ?_); rintro e w' ⟨rfl, ⟨nd, rfl⟩⟩) | (go_at_call 20; (with_reducible refine (fix_F_Mul.calls ji5 a2 t122 _ A10.out).mono ?_); rintro e w' ⟨rfl, ⟨nd, rfl⟩⟩) | (go_at_call 10; (with_reducible refine (fix_F_Div.calls k ji4 a2 t123 _ A12.out).mono ?_); rintro e w' ⟨rfl, ⟨nd, rfl⟩⟩) | (go_at_call 10; (with_reducible refine (fix_F_Div.calls k ji5 a2 t124 _ A13.out).mono ?_); rintro e w' ⟨rfl, ⟨nd, rfl⟩⟩) | (go_at_call 10; (with_reducible refine (fix_F_Div.calls k a2 ji4 t125 _ A15.out).mono ?_); rintro e w' ⟨rfl, ⟨nd, rfl⟩⟩) | (go_at_call 10; (with_reducible refine (fix_F_Div.calls k a2 ji5 t126 _ A16.out).mono ?_); rintro e w' ⟨rfl, ⟨nd, rfl⟩⟩) | (go_at_call 26; (with_reducible refine (fix_F_Sub.calls ji4 a2 t127 _ A18.out).mono ?_); rintro e w' ⟨rfl, ⟨nd, rfl⟩⟩) | (go_at_call 26; (with_reducible refine (fix_F_Sub.calls ji5 a2 t128 _ A19.out).mono ?_); rintro e w' ⟨rfl, ⟨nd, rfl⟩⟩))
            go_ret
            exact ⟨by first | rfl | (simp [errW_none, errW_some] <;> rfl) | (simp only [← hji4, ← hji5]; first | rfl | (simp [errW_none, errW_some] <;> rfl)) | (simp [*, errW_none, errW_some] <;> rfl), by repeat (first | (with_reducible first | exact HB.out | apply below_alloc | apply pw_below_drewN | apply below_drew1) | exact HB.out)⟩
        · rw [if_neg c17] at H
          have c17b0 : decide (t126 ≤ t125) = false := decide_eq_false c17
          clear c17
          obtain rfl := Option.some.inj H
          go_enter Try.func8, Try.ntmps8
          go_wp2_with (first | ((with_reducible refine gate_callee (f := 25) rfl ?_); refine goesL_ (some 17) rfl rfl Try.func25 (by kernel_rfl) rfl #[.int .u64 ji4, .int .u64 a2] rfl (by (try simp only [List.map_toArray, List.map_cons, List.map_nil]); first | done | (simp only [hji4]; rfl) | rfl | (simp only [List.length_drop, List.length_take]; rfl)) ?_; (with_reducible refine (fix_F_Add.calls ji4 a2 t119 _ A6.out).mono ?_); rintro e w' ⟨rfl, ⟨nd, rfl⟩⟩; refine ⟨_, rfl, ?_⟩) | ((with_reducible refine gate_callee (f := 25) rfl ?_); refine goesL_ (some 20) rfl rfl Try.func25 (by kernel_rfl) rfl #[.int .u64 ji5, .int .u64 a2] rfl (by (try simp only [List.map_toArray, List.map_cons, List.map_nil]); first | done | (simp only [hji5]; rfl) | rfl | (simp only [List.length_drop, List.length_take]; rfl)) ?_; (with_reducible refine (fix_F_Add.calls ji5 a2 t120 _ A7.out).mono ?_); rintro e w' ⟨rfl, ⟨nd, rfl⟩⟩; refine ⟨_, rfl, ?_⟩) | (go_at_call 20; (with_reducible refine (fix_F_Mul.calls ji4 a2 t121 _ A9.out).mono ?_); rintro e w' ⟨rfl, ⟨nd, rfl⟩⟩) | (go_at_call 20; (with_reducible refine (fix_F_Mul.calls ji5 a2 t122 _ A10.out).mono ?_); rintro e w' ⟨rfl, ⟨nd, rfl⟩⟩) | (go_at_call 10; (with_reducible refine (fix_F_Div.calls k ji4 a2 t123 _ A12.out).mono ?_); rintro e w' ⟨rfl, ⟨nd, rfl⟩⟩) | (go_at_call 10; (with_reducible refine (fix_F_Div.calls k ji5 a2 t124 _ A13.out).mono ?_); rintro e w' ⟨rfl, ⟨nd, rfl⟩⟩) | (go_at_call 10; (with_reducible refine (fix_F_Div.calls k a2 ji4 t125 _ A15.out).mono ?_); rintro e w' ⟨rfl, ⟨nd, rfl⟩⟩) | (go_at_call 10; (with_reducible refine (fix_F_Div.calls k a2 ji5 t126 _ A16.out).mono ?_); rintro e w' ⟨rfl, ⟨nd, rfl⟩⟩))
          go_ret
          exact ⟨by first | rfl | (simp [errW_none, errW_some] <;> rfl) | (simp only [← hji4, ← hji5]; first | rfl | (simp [errW_none, errW_some] <;> rfl)) | (simp [*, errW_none, errW_some] <;> rfl), by repeat (first | (with_reducible first | exact HB.out | apply below_alloc | apply pw_below_drewN | apply below_drew1) | exact HB.out)⟩
      · rw [if_neg c14] at H
        have c14b0 : decide (t123 ≤ t124) = false := decide_eq_false c14
        clear c14
        obtain rfl := Option.some.inj H
        go_enter Try.func8, Try.ntmps8
        go_wp2_with (first | ((with_reducible refine gate_callee (f := 25) rfl ?_); refine goesL_ (some 17) rfl rfl Try.func25 (by kernel_rfl) rfl #[.int .u64 ji4, .int .u64 a2] rfl (by (try simp only [List.map_toArray, List.map_cons, List.map_nil]); first | done | (simp only [hji4]; rfl) | rfl | (simp only [List.length_drop, List.length_take]; rfl)) ?_; (with_reducible refine (fix_F_Add.calls ji4 a2 t119 _ A6.out).mono ?_); rintro e w' ⟨rfl, ⟨nd, rfl⟩⟩; refine ⟨_, rfl, ?_⟩) | ((with_reducible refine gate_callee (f := 25) rfl ?_); refine goesL_ (some 20) rfl rfl Try.func25 (by kernel_rfl) rfl #[.int .u64 ji5, .int .u64 a2] rfl (by (try simp only [List.map_toArray, List.map_cons, List.map_nil]); first | done | (simp only [hji5]; rfl) | rfl | (simp only [List.length_drop, List.length_take]; rfl)) ?_; (with_reducible refine (fix_F_Add.calls ji5 a2 t120 _ A7.out).mono ?_); rintro e w' ⟨rfl, ⟨nd, rfl⟩⟩; refine ⟨_, rfl, ?_⟩) | (go_at_call 20; (with_reducible refine (fix_F_Mul.calls ji4 a2 t121 _ A9.out).mono ?_); rintro e w' ⟨rfl, ⟨nd, rfl⟩⟩) | (go_at_call 20; (with_reducible refine (fix_F_Mul.calls ji5 a2 t122 _ A10.out).mono ?_); rintro e w' ⟨rfl, ⟨nd, rfl⟩⟩) | (go_at_call 10; (with_reducible refine (fix_F_Div.calls k ji4 a2 t123 _ A12.out).mono ?_); rintro e w' ⟨rfl, ⟨nd, rfl⟩⟩) | (go_at_call 10; (with_reducible refine (fix_F_Div.calls k ji5 a2 t124 _ A13.out).mono ?_); rintro e w' ⟨rfl, ⟨nd, rfl⟩⟩))
        go_ret
        exact ⟨by first | rfl | (simp [errW_none, errW_some] <;> rfl) | (simp only [← hji4, ← hji5]; first | rfl | (simp [errW_none, errW_some] <;> rfl)) | (simp [*, errW_none, errW_some] <;> rfl), by repeat (first | (with_reducible first | exact HB.out | apply below_alloc | apply pw_below_drewN | apply below_drew1) | exact HB.out)⟩
    · rw [if_neg c11] at H
      have c11b0 : decide (t121 ≤ t122) = false := decide_eq_false c11
      clear c11
      obtain rfl := Option.some.inj H
      go_enter Try.func8, Try.ntmps8
      go_wp2_with (first | ((with_reducible refine gate_callee (f := 25) rfl ?_); refine goesL_ (some 17) rfl rfl Try.func25 (by kernel_rfl) rfl #[.int .u64 ji4, .int .u64 a2] rfl (by (try simp only [List.map_toArray, List.map_cons, List.map_nil]); first | done | (simp only [hji4]; rfl) | rfl | (simp only [List.length_drop, List.length_take]; rfl)) ?_; (with_reducible refine (fix_F_Add.calls ji4 a2 t119 _ A6.out).mono ?_); rintro e w' ⟨rfl, ⟨nd, rfl⟩⟩; refine ⟨_, rfl, ?_⟩) | ((with_reducible refine gate_callee (f := 25) rfl ?_); refine goesL_ (some 20) rfl rfl Try.func25 (by kernel_rfl) rfl #[.int .u64 ji5, .int .u64 a2] rfl (by (try simp only [List.map_toArray, List.map_cons, List.map_nil]); first | done | (simp only [hji5]; rfl) | rfl | (simp only [List.length_drop, List.length_take]; rfl)) ?_; (with_reducible refine (fix_F_Add.calls ji5 a2 t120 _ A7.out).mono ?_); rintro e w' ⟨rfl, ⟨nd, rfl⟩⟩; refine ⟨_, rfl, ?_⟩) | (go_at_call 20; (with_reducible refine (fix_F_Mul.calls ji4 a2 t121 _ A9.out).mono ?_); rintro e w' ⟨rfl, ⟨nd, rfl⟩⟩) | (go_at_call 20; (with_reducible refine (fix_F_Mul.calls ji5 a2 t122 _ A10.out).mono ?_); rintro e w' ⟨rfl, ⟨nd, rfl⟩⟩))
      go_ret
      exact ⟨by first | rfl | (simp [errW_none, errW_some] <;> rfl) | (simp only [← hji4, ← hji5]; first | rfl | (simp [errW_none, errW_some] <;> rfl)) | (simp [*, errW_none, errW_some] <;> rfl), by repeat (first | (with_reducible first | exact HB.out | apply below_alloc | apply pw_below_drewN | apply below_drew1) | exact HB.out)⟩
  · rw [if_neg c8] at H
    have c8b0 : decide (t119 ≤ t120) = false := decide_eq_false c8
    clear c8
    obtain rfl := Option.some.inj H
    go_enter Try.func8, Try.ntmps8
    go_wp2_with (first | ((with_reducible refine gate_callee (f := 25) rfl ?_); refine goesL_ (some 17) rfl rfl Try.func25 (by kernel_rfl) rfl #[.int .u64 ji4, .int .u64 a2] rfl (by (try simp only [List.map_toArray, List.map_cons, List.map_nil]); first | done | (simp only [hji4]; rfl) | rfl | (simp only [List.length_drop, List.length_take]; rfl)) ?_; (with_reducible refine (fix_F_Add.calls ji4 a2 t119 _ A6.out).mono ?_); rintro e w' ⟨rfl, ⟨nd, rfl⟩⟩; refine ⟨_, rfl, ?_⟩) | ((with_reducible refine gate_callee (f := 25) rfl ?_); refine goesL_ (some 20) rfl rfl Try.func25 (by kernel_rfl) rfl #[.int .u64 ji5, .int .u64 a2] rfl (by (try simp only [List.map_toArray, List.map_cons, List.map_nil]); first | done | (simp only [hji5]; rfl) | rfl | (simp only [List.length_drop, List.length_take]; rfl)) ?_; (with_reducible refine (fix_F_Add.calls ji5 a2 t120 _ A7.out).mono ?_); rintro e w' ⟨rfl, ⟨nd, rfl⟩⟩; refine ⟨_, rfl, ?_⟩))
    go_ret
    exact ⟨by first | rfl | (simp [errW_none, errW_some] <;> rfl) | (simp only [← hji4, ← hji5]; first | rfl | (simp [errW_none, errW_some] <;> rfl)) | (simp [*, errW_none, errW_some] <;> rfl), by repeat (first | (with_reducible first | exact HB.out | apply below_alloc | apply pw_below_drewN | apply below_drew1) | exact HB.out)⟩

/-- THE ONE PURE STATEMENT of terracelaw01_FixRises: yours. -/
def terracelaw01_FixRises.Pure : Prop := ∀ (a0 : Int) (a1 : Int) (a2 : Int), (Lit.int .u64 a0).wf = true → (Lit.int .u64 a1).wf = true → (Lit.int .u64 a2).wf = true → ∃ k, terracelaw01_FixRises.f k a0 a1 a2 = some true
theorem terracelaw01_FixRises.walk (P : terracelaw01_FixRises.Pure) (a0 : Int) (a1 : Int) (a2 : Int) (w : World) (w0 : (Lit.int .u64 a0).wf = true) (w1 : (Lit.int .u64 a1).wf = true) (w2 : (Lit.int .u64 a2).wf = true) :
    Calls Try.prog 8 #[.int .u64 a0, .int .u64 a1, .int .u64 a2] w fun e w' => e = .returned (.bool true) ∧ Below w.heap.size w w' := by
  obtain ⟨k, h⟩ := P a0 a1 a2 w0 w1 w2
  refine (terracelaw01_FixRises.calls k a0 a1 a2 true w h).mono ?_
  rintro e w' ⟨rfl, hd⟩
  exact ⟨rfl, hd⟩

end Go.Proofs.Ytibihicmhakacaa.PFixRises
