-- Written by ext.sh (the session's own program, over the kit's printer) out of the translation. Lean checks it.
import Derived.Test.YtlfjcelippfanaaPHistoryRatesx0
import Derived.Test.YtlfjcelippfanaaPHistoryRatesx1
import Derived.Test.YtlfjcelippfanaaPHistoryRatesx3
import Derived.Test.YtlfjcelippfanaaPHistoryRatesx4
import Derived.Test.YtlfjcelippfanaaPHistoryRatesx6
namespace Go.Proofs.Ytlfjcelippfanaa.PHistoryRates
open Go.RowKit Go.Proofs.YtlfjcelippfanaaW.PrintWords Go.Proofs.YtlfjcelippfanaaW.PrintLast Go.Proofs.YtlfjcelippfanaaW.PrintMore
attribute [local go_sem] max2_int min2_int max_two min_two max_three min_three max_four min_four   -- for this text's walks alone
set_option linter.unusedVariables false
set_option linter.unusedSimpArgs false

/-! ### terracelaw14_HistoryRates: function 3 -/
def terracelaw14_HistoryRates.j0 : Nat → Int → Int → Bool → Int → List Int → Option (Bool)
  | 0, _, _, _, _, _ => none
  | k + 1, x1, x9, x47, x222000, x222001 => if x47 = true then (some false) else ((history_History_Packet.f k x222000 x222001 x1).bind fun bt230 => (if bt230.1 = 0 then ((history_History_Rate.f k bt230.2.1 bt230.2.2).bind fun t236 => (if t236 ≤ x9 then ((terracelaw14_awake.f k).bind fun t237 => (some t237)) else (some false))) else ((terracelaw14_awake.f k).bind fun t235 => (some t235))))
def terracelaw14_HistoryRates.f (k : Nat) (l0 : List (S41)) (a1 : Int) : Option (Bool) := if (l0.length : Int) > 100 then ((terracelaw14_awake.f k).bind fun t216 => (some t216)) else ((terracelaw14_played.f k l0).bind fun bt217 => (if bt217.2.2.2.2 = true then ((history_History_Rate.f k bt217.1 bt217.2.1).bind fun t227 => (if (bt217.2.2.2.1.length : Int) > 0 then ((history_History_Mean.f k bt217.1 bt217.2.1).bind fun t228 => ((fix_F_Div.f k 4294967296 t228).bind fun t229 => (if t227 = (mn t229 4294967296) then (if ((t227 == 0) != ((bt217.2.2.2.1.length : Int) == 0)) = true then (terracelaw14_HistoryRates.j0 k a1 t227 true bt217.1 bt217.2.1) else (terracelaw14_HistoryRates.j0 k a1 t227 (decide (t227 > 4294967296)) bt217.1 bt217.2.1)) else (terracelaw14_HistoryRates.j0 k a1 t227 true bt217.1 bt217.2.1)))) else (if ((t227 == 0) != ((bt217.2.2.2.1.length : Int) == 0)) = true then (terracelaw14_HistoryRates.j0 k a1 t227 true bt217.1 bt217.2.1) else (terracelaw14_HistoryRates.j0 k a1 t227 (decide (t227 > 4294967296)) bt217.1 bt217.2.1)))) else (some false)))
theorem terracelaw14_HistoryRates.mono_l : ∀ k, (∀ y0 y1 y2 y3 y4, LeO (terracelaw14_HistoryRates.j0 k y0 y1 y2 y3 y4) (terracelaw14_HistoryRates.j0 (k + 1) y0 y1 y2 y3 y4))
  | 0 => fun _ _ _ _ _ r h => by simp [terracelaw14_HistoryRates.j0] at h
  | k + 1 => by
    have ih0 := terracelaw14_HistoryRates.mono_l k
    · intro y0 y1 y2 y3 y4
      unfold terracelaw14_HistoryRates.j0
      repeat' first
      | (with_reducible exact ih0 _ _ _ _ _)
      | (with_reducible exact fix_F_Div.mono _ _ _)
      | (with_reducible exact history_History_Mean.mono _ _ _)
      | (with_reducible exact history_History_Packet.mono _ _ _ _)
      | (with_reducible exact history_History_Rate.mono _ _ _)
      | (with_reducible exact terracelaw14_awake.mono _)
      | (with_reducible exact terracelaw14_played.mono _ _)
      | (with_reducible exact LeO.refl _)
      | (with_reducible exact LeO.none _)
      | (with_reducible refine LeO.ite ?_ ?_)
      | (with_reducible refine LeO.bind ?_ (fun _ => ?_))
      | exact ih0 _ _ _ _ _
      | exact fix_F_Div.mono _ _ _
      | exact history_History_Mean.mono _ _ _
      | exact history_History_Packet.mono _ _ _ _
      | exact history_History_Rate.mono _ _ _
      | exact terracelaw14_awake.mono _
      | exact terracelaw14_played.mono _ _
      | exact LeO.none _
      | refine LeO.ite ?_ ?_
      | refine LeO.bind ?_ (fun _ => ?_)
theorem terracelaw14_HistoryRates.mono : ∀ a0 a1 k, LeO (terracelaw14_HistoryRates.f k a0 a1) (terracelaw14_HistoryRates.f (k + 1) a0 a1) := by
  intro a0 a1 k
  have ih0 := terracelaw14_HistoryRates.mono_l k
  unfold terracelaw14_HistoryRates.f
  repeat' first
      | (with_reducible exact ih0 _ _ _ _ _)
      | (with_reducible exact fix_F_Div.mono _ _ _)
      | (with_reducible exact history_History_Mean.mono _ _ _)
      | (with_reducible exact history_History_Packet.mono _ _ _ _)
      | (with_reducible exact history_History_Rate.mono _ _ _)
      | (with_reducible exact terracelaw14_awake.mono _)
      | (with_reducible exact terracelaw14_played.mono _ _)
      | (with_reducible exact LeO.refl _)
      | (with_reducible exact LeO.none _)
      | (with_reducible refine LeO.ite ?_ ?_)
      | (with_reducible refine LeO.bind ?_ (fun _ => ?_))
      | exact ih0 _ _ _ _ _
      | exact fix_F_Div.mono _ _ _
      | exact history_History_Mean.mono _ _ _
      | exact history_History_Packet.mono _ _ _ _
      | exact history_History_Rate.mono _ _ _
      | exact terracelaw14_awake.mono _
      | exact terracelaw14_played.mono _ _
      | exact LeO.none _
      | refine LeO.ite ?_ ?_
      | refine LeO.bind ?_ (fun _ => ?_)
set_option maxHeartbeats 8000000 in
set_option maxRecDepth 100000 in
theorem terracelaw14_HistoryRates.calls (k : Nat) (A0 : Option Addr) (c0 : Nat) (l0 : List (S41)) (a1 : Int) (r : Bool) (w : World) (hr0 : Kd.C k41 w A0 l0.length l0) (hc0 : l0.length ≤ c0) (h : terracelaw14_HistoryRates.f k l0 a1 = some r) :
    Calls Try.prog 3 #[.slice A0 l0.length c0, .int .i64 a1] w fun e w' => e = .returned (.bool r) ∧ Below w.heap.size w w' := by
  have HR0 := Aside0.mk hr0
  have HC0 := Aside0.mk hc0
  clear hr0 hc0
  have HB := Aside0.mk (Below.refl w.heap.size w)
  have H : (if (l0.length : Int) > 100 then ((terracelaw14_awake.f k).bind fun t216 => (some t216)) else ((terracelaw14_played.f k l0).bind fun bt217 => (if bt217.2.2.2.2 = true then ((history_History_Rate.f k bt217.1 bt217.2.1).bind fun t227 => (if (bt217.2.2.2.1.length : Int) > 0 then ((history_History_Mean.f k bt217.1 bt217.2.1).bind fun t228 => ((fix_F_Div.f k 4294967296 t228).bind fun t229 => (if t227 = (mn t229 4294967296) then (if ((t227 == 0) != ((bt217.2.2.2.1.length : Int) == 0)) = true then (terracelaw14_HistoryRates.j0 k a1 t227 true bt217.1 bt217.2.1) else (terracelaw14_HistoryRates.j0 k a1 t227 (decide (t227 > 4294967296)) bt217.1 bt217.2.1)) else (terracelaw14_HistoryRates.j0 k a1 t227 true bt217.1 bt217.2.1)))) else (if ((t227 == 0) != ((bt217.2.2.2.1.length : Int) == 0)) = true then (terracelaw14_HistoryRates.j0 k a1 t227 true bt217.1 bt217.2.1) else (terracelaw14_HistoryRates.j0 k a1 t227 (decide (t227 > 4294967296)) bt217.1 bt217.2.1)))) else (some false)))) = some r := h
  clear h
  by_cases c3 : (l0.length : Int) > 100
  · rw [if_pos c3] at H
    have c3b0 : decide (100 < (l0.length : Int)) = true := decide_eq_true c3
    have c3b1 : decide (100 < l0.length) = true := decide_eq_true (by omega)
    clear c3
    replace H := Option.bind_eq_some_iff.mp H
    obtain ⟨t216, A40, H⟩ := H
    replace H : (some t216) = some r := H
    have A4 := Aside0.mk A40
    clear A40
    obtain rfl := Option.some.inj H
    go_enter Try.func3, Try.ntmps3
    go_wp2_with (first | ((with_reducible refine gate_callee (f := 7) rfl ?_); refine goesL_ (some 13) rfl rfl Try.func7 (by kernel_rfl) rfl #[] rfl (by (try simp only [List.map_toArray, List.map_cons, List.map_nil]); first | done | rfl | (simp only [List.length_drop, List.length_take]; rfl)) ?_; (with_reducible refine (terracelaw14_awake.calls k  t216 _ A4.out).mono ?_); rintro e w5 ⟨rfl, hb⟩; refine ⟨_, rfl, ?_⟩; have n0_ := Aside0.mk (below_step (by repeat (first | (with_reducible first | exact HB.out | apply below_alloc | apply pw_below_drewN | apply below_drew1) | exact HB.out)) hb); clear HB; have HB := n0_; clear n0_; (try clear hb); (try clear hb2); (try clear hk); (try clear hi)))
    go_ret
    exact ⟨by first | rfl | (simp [errW_none, errW_some] <;> rfl) | (simp [*, errW_none, errW_some] <;> rfl), by repeat (first | (with_reducible first | exact HB.out | apply below_alloc | apply pw_below_drewN | apply below_drew1) | exact HB.out)⟩
  · rw [if_neg c3] at H
    have c3b0 : decide (100 < (l0.length : Int)) = false := decide_eq_false c3
    have c3b1 : decide (100 < l0.length) = false := decide_eq_false (by omega)
    clear c3
    replace H := Option.bind_eq_some_iff.mp H
    obtain ⟨⟨t217, t218, t222, t223, t226⟩, A60, H⟩ := H
    (try dsimp -simprocs only at H)
    have A6 := Aside0.mk A60
    clear A60
    by_cases c7 : t226 = true
    · subst c7
      have H1 : ((history_History_Rate.f k t217 t218).bind fun t227 => (if (t223.length : Int) > 0 then ((history_History_Mean.f k t217 t218).bind fun t228 => ((fix_F_Div.f k 4294967296 t228).bind fun t229 => (if t227 = (mn t229 4294967296) then (if ((t227 == 0) != ((t223.length : Int) == 0)) = true then (terracelaw14_HistoryRates.j0 k a1 t227 true t217 t218) else (terracelaw14_HistoryRates.j0 k a1 t227 (decide (t227 > 4294967296)) t217 t218)) else (terracelaw14_HistoryRates.j0 k a1 t227 true t217 t218)))) else (if ((t227 == 0) != ((t223.length : Int) == 0)) = true then (terracelaw14_HistoryRates.j0 k a1 t227 true t217 t218) else (terracelaw14_HistoryRates.j0 k a1 t227 (decide (t227 > 4294967296)) t217 t218)))) = some r := by rw [if_pos rfl] at H; exact H
      clear H
      have H := H1
      clear H1
      replace H := Option.bind_eq_some_iff.mp H
      obtain ⟨t227, A80, H⟩ := H
      (try dsimp -simprocs only at H)
      have A8 := Aside0.mk A80
      clear A80
      have HC9 := Aside0.mk H
      clear H
      go_enter Try.func3, Try.ntmps3
      go_upto_region 7 with (first | ((with_reducible refine gate_callee (f := 8) rfl ?_); refine goesL_ (some 16) rfl rfl Try.func8 (by kernel_rfl) rfl #[.slice A0 l0.length c0] rfl (by (try simp only [List.map_toArray, List.map_cons, List.map_nil]); first | done | rfl | (simp only [List.length_drop, List.length_take]; rfl)) ?_; (with_reducible refine (terracelaw14_played.calls k _ _ l0 t217 t218 t222 t223 true _ ?side1 ?side2 A6.out).mono ?_); (case side1 => repeat (first | exact HR0.out | (with_reducible refine Kd.C_alloc ?_ _) | (with_reducible refine Kd.C_drewN ?_ _) | (with_reducible refine Kd.C_drew ?_))); (case side2 => exact HC0.out); rintro e w10 ⟨v219, v224, g221, rfl, ho0, ho1, hi0, hb2⟩; refine ⟨_, rfl, ?_⟩; have hge_ := Nat.le_trans (below_size (by repeat (first | (with_reducible first | exact HB.out | apply below_alloc | apply pw_below_drewN | apply below_drew1) | exact HB.out))) hi0.2; have hgw_ := Nat.le_trans (below_size (by repeat (first | (with_reducible first | exact HB.out | apply below_alloc | apply pw_below_drewN | apply below_drew1) | exact HB.out))) hi0.2; have hb := below_step (by repeat (first | (with_reducible first | exact HB.out | apply below_alloc | apply pw_below_drewN | apply below_drew1) | exact HB.out)) hb2; have n0_ := Aside0.mk (Kd.R_lower ho0 (below_size (by repeat (first | (with_reducible first | exact HB.out | apply below_alloc | apply pw_below_drewN | apply below_drew1) | exact HB.out)))); have n1_ := Aside0.mk (Kd.R_lower ho1 (below_size (by repeat (first | (with_reducible first | exact HB.out | apply below_alloc | apply pw_below_drewN | apply below_drew1) | exact HB.out)))); have n2_ := Aside0.mk (hb); have n3_ := Aside0.mk (hi0.1); have n4_ := Aside0.mk (hge_); have n5_ := Aside0.mk (hgw_); clear HB; have HO220 := n0_; have HO225 := n1_; have HB := n2_; have BK221 := n3_; have GE221 := n4_; have GW221 := n5_; clear n0_ n1_ n2_ n3_ n4_ n5_; (try clear hb); (try clear hb2); (try clear hge_); (try clear hgw_); (try clear hi0); (try clear ho0); (try clear ho1); obtain ⟨Ao11, co11, eo11⟩ := Kd.R_slice HO220.out; subst eo11) | ((with_reducible refine gate_callee (f := 9) rfl ?_); refine goesL_ (some 24) rfl rfl Try.func9 (by kernel_rfl) rfl #[.pointer (some ⟨g221, 0, none⟩)] rfl (by (try simp only [List.map_toArray, List.map_cons, List.map_nil]); first | done | rfl | (simp only [List.length_drop, List.length_take]; rfl)) ?_; (with_reducible refine (history_History_Rate.calls k g221 t217 Ao11 co11 t218 t227 _ ?side1 ?side2 ?side3 A8.out).mono ?_); (case side1 => (with_reducible repeat (first | refine blk_drewN ?_ _ | refine blk_drew ?_ | refine blk_alloc ?_ _)); exact BK221.out); (case side2 => repeat (first | exact (Kd.R_reads' HO220.out).2.2 | (with_reducible refine Kd.C_alloc ?_ _) | (with_reducible refine Kd.C_drewN ?_ _) | (with_reducible refine Kd.C_drew ?_))); (case side3 => exact (Kd.R_reads' HO220.out).2.1); rintro e w12 ⟨rfl, hb⟩; refine ⟨_, rfl, ?_⟩; have n0_ := Aside0.mk (Kd.R_below (by (with_reducible repeat (first | apply Kd.R_alloc | apply Kd.R_drewN | apply Kd.R_drew)); exact HO220.out) hb); have n1_ := Aside0.mk (Kd.R_below (by (with_reducible repeat (first | apply Kd.R_alloc | apply Kd.R_drewN | apply Kd.R_drew)); exact HO225.out) hb); have n2_ := Aside0.mk (blk_below (g := g221) (o := .cells #[.int .i64 t217, .slice Ao11 t218.length co11] 52 (0, 0)) (by (with_reducible repeat (first | refine blk_drewN ?_ _ | refine blk_drew ?_ | refine blk_alloc ?_ _)); exact BK221.out) hb); have n3_ := Aside0.mk (below_step (by repeat (first | (with_reducible first | exact HB.out | apply below_alloc | apply pw_below_drewN | apply below_drew1 | refine below_set ?_ GE221.out) | exact HB.out)) hb); clear HO220; clear HO225; clear BK221; clear HB; have HO220 := n0_; have HO225 := n1_; have BK221 := n2_; have HB := n3_; clear n0_ n1_ n2_ n3_; (try clear hb); (try clear hb2); (try clear hk); (try clear hi)))
      (try simp only [Act.put, List.setIfInBounds_toArray, List.set_cons_zero, List.set_cons_succ])
      go_cut [47] (fun v47 wc => ∃ (kq : Nat) (x47_8 : Bool) (x222000_8 : Int) (x222001_8 : List Int) (u222001 : Value), v47 = .bool x47_8 ∧ Aside0 (terracelaw14_HistoryRates.j0 kq a1 t227 x47_8 x222000_8 x222001_8 = some r) ∧ Aside0 (kq ≤ k) ∧ Aside0 (Kd.R (Kd.int .i64) 3 wc w.heap.size (fun _ => True) u222001 x222001_8) ∧ Aside0 (wc.heap[g221]? = some (.cells #[.int .i64 x222000_8, u222001] 52 (0, 0))) ∧ Aside0 (Below w.heap.size w wc))
      case first =>
        have H := HC9.out
        clear HC9
        by_cases c13 : (t223.length : Int) > 0
        · rw [if_pos c13] at H
          have c13b0 : decide (0 < (t223.length : Int)) = true := decide_eq_true c13
          have c13b1 : decide (0 < t223.length) = true := decide_eq_true (by omega)
          clear c13
          (first | rw [c13b0] | (simp only [i64_w, i32_w]; rw [c13b0]) | skip)
          replace H := Option.bind_eq_some_iff.mp H
          obtain ⟨t228, A140, H⟩ := H
          replace H : ((fix_F_Div.f k 4294967296 t228).bind fun t229 => (if t227 = (mn t229 4294967296) then (if ((t227 == 0) != ((t223.length : Int) == 0)) = true then (terracelaw14_HistoryRates.j0 k a1 t227 true t217 t218) else (terracelaw14_HistoryRates.j0 k a1 t227 (decide (t227 > 4294967296)) t217 t218)) else (terracelaw14_HistoryRates.j0 k a1 t227 true t217 t218))) = some r := H
          have A14 := Aside0.mk A140
          clear A140
          replace H := Option.bind_eq_some_iff.mp H
          obtain ⟨t229, A150, H⟩ := H
          replace H : (if t227 = (mn t229 4294967296) then (if ((t227 == 0) != ((t223.length : Int) == 0)) = true then (terracelaw14_HistoryRates.j0 k a1 t227 true t217 t218) else (terracelaw14_HistoryRates.j0 k a1 t227 (decide (t227 > 4294967296)) t217 t218)) else (terracelaw14_HistoryRates.j0 k a1 t227 true t217 t218)) = some r := H
          have A15 := Aside0.mk A150
          clear A150
          obtain ⟨ji16, hji16⟩ : ∃ j_ : Int, (mn t229 4294967296) = j_ := ⟨_, rfl⟩
          replace H : (if t227 = (ji16) then (if ((t227 == 0) != ((t223.length : Int) == 0)) = true then (terracelaw14_HistoryRates.j0 k a1 t227 true t217 t218) else (terracelaw14_HistoryRates.j0 k a1 t227 (decide (t227 > 4294967296)) t217 t218)) else (terracelaw14_HistoryRates.j0 k a1 t227 true t217 t218)) = some r := by first | (rw [hji16] at H; exact H) | (simp only [hji16] at H ⊢; exact H)
          (try rw [hji16] at A14)
          (try rw [hji16] at A15)
          (try (have hji16h : ji16 ≤ 4294967296 := by (rw [← hji16]; unfold mn; (repeat' split) <;> omega)))
          (try (have hji16g : ji16 ≤ 64 := by omega))
          have hji16_ : (if 4294967296 < t229 then 4294967296 else t229) = ji16 := hji16
          by_cases c17 : t227 = (ji16)
          · rw [if_pos c17] at H
            have c17b0 : (t227 == (ji16)) = true := beq_iff_eq.mpr c17
            have c17b1 : (t227 != (ji16)) = false := bne_eq_false_iff_eq.mpr c17
            clear c17
            by_cases c18 : ((t227 == 0) != ((t223.length : Int) == 0)) = true
            · rw [if_pos c18] at H
              have c18b0 : ((t227 == 0) != ((t223.length : Int) == 0)) = true := c18
              (try (have c18b1 : decide ((t227 == 0) = ((t223.length : Int) == 0)) = false := by simpa using c18))
              (try (have c18b2 : ((t227 == 0) == ((t223.length : Int) == 0)) = false := by simpa using c18))
              (try (have c18b3 : ¬ ((t227 == 0) = ((t223.length : Int) == 0)) := by simpa using c18))
              clear c18
              have H' := Aside0.mk H
              clear H
              obtain ⟨Ao19, co19, eo19⟩ := Kd.R_slice HO225.out
              subst eo19
              go_wp2_with (first | (go_at_call 11; (with_reducible refine (history_History_Mean.calls k g221 t217 Ao11 co11 t218 t228 _ ?side1 ?side2 ?side3 A14.out).mono ?_); (case side1 => (with_reducible repeat (first | refine blk_drewN ?_ _ | refine blk_drew ?_ | refine blk_alloc ?_ _)); exact BK221.out); (case side2 => repeat (first | exact (Kd.R_reads' HO220.out).2.2 | (with_reducible refine Kd.C_alloc ?_ _) | (with_reducible refine Kd.C_drewN ?_ _) | (with_reducible refine Kd.C_drew ?_))); (case side3 => exact (Kd.R_reads' HO220.out).2.1); rintro e w20 ⟨rfl, hb⟩; have n0_ := Aside0.mk (Kd.R_below (by (with_reducible repeat (first | apply Kd.R_alloc | apply Kd.R_drewN | apply Kd.R_drew)); exact HO220.out) hb); have n1_ := Aside0.mk (Kd.R_below (by (with_reducible repeat (first | apply Kd.R_alloc | apply Kd.R_drewN | apply Kd.R_drew)); exact HO225.out) hb); have n2_ := Aside0.mk (blk_below (g := g221) (o := .cells #[.int .i64 t217, .slice Ao11 t218.length co11] 52 (0, 0)) (by (with_reducible repeat (first | refine blk_drewN ?_ _ | refine blk_drew ?_ | refine blk_alloc ?_ _)); exact BK221.out) hb); have n3_ := Aside0.mk (below_step (by repeat (first | (with_reducible first | exact HB.out | apply below_alloc | apply pw_below_drewN | apply below_drew1 | refine below_set ?_ GE221.out) | exact HB.out)) hb); clear HO220; clear HO225; clear BK221; clear HB; have HO220 := n0_; have HO225 := n1_; have BK221 := n2_; have HB := n3_; clear n0_ n1_ n2_ n3_; (try clear hb); (try clear hb2); (try clear hk); (try clear hi)) | (go_at_call 10; (with_reducible refine (fix_F_Div.calls k 4294967296 t228 t229 _ A15.out).mono ?_); rintro e w' ⟨rfl, ⟨nd, rfl⟩⟩))
              go_meet
              case rel => exact ⟨_, (true), (t217), (t218), (.slice Ao11 t218.length co11), (by first | rfl | (simp; done) | (simp [*]; done)), H', ⟨by first | omega | exact Nat.le_refl _⟩, ⟨by (with_reducible repeat (first | apply Kd.R_alloc | apply Kd.R_drewN | apply Kd.R_drew)); exact Kd.R_mono HO220.out (fun _ hk => trivial)⟩, ⟨by (with_reducible repeat (first | refine blk_drewN ?_ _ | refine blk_drew ?_ | refine blk_alloc ?_ _)); exact BK221.out⟩, ⟨by repeat (first | (with_reducible first | exact HB.out | apply below_alloc | apply pw_below_drewN | apply below_drew1 | refine below_set ?_ GE221.out) | exact HB.out)⟩⟩
            · rw [if_neg c18] at H
              have c18b0 : ((t227 == 0) != ((t223.length : Int) == 0)) = false := by simpa using c18
              (try (have c18b1 : decide ((t227 == 0) = ((t223.length : Int) == 0)) = true := by simpa using c18))
              (try (have c18b2 : ((t227 == 0) == ((t223.length : Int) == 0)) = true := by simpa using c18))
              clear c18
              have H' := Aside0.mk H
              clear H
              obtain ⟨Ao21, co21, eo21⟩ := Kd.R_slice HO225.out
              subst eo21
              go_wp2_with (first | (go_at_call 11; (with_reducible refine (history_History_Mean.calls k g221 t217 Ao11 co11 t218 t228 _ ?side1 ?side2 ?side3 A14.out).mono ?_); (case side1 => (with_reducible repeat (first | refine blk_drewN ?_ _ | refine blk_drew ?_ | refine blk_alloc ?_ _)); exact BK221.out); (case side2 => repeat (first | exact (Kd.R_reads' HO220.out).2.2 | (with_reducible refine Kd.C_alloc ?_ _) | (with_reducible refine Kd.C_drewN ?_ _) | (with_reducible refine Kd.C_drew ?_))); (case side3 => exact (Kd.R_reads' HO220.out).2.1); rintro e w22 ⟨rfl, hb⟩; have n0_ := Aside0.mk (Kd.R_below (by (with_reducible repeat (first | apply Kd.R_alloc | apply Kd.R_drewN | apply Kd.R_drew)); exact HO220.out) hb); have n1_ := Aside0.mk (Kd.R_below (by (with_reducible repeat (first | apply Kd.R_alloc | apply Kd.R_drewN | apply Kd.R_drew)); exact HO225.out) hb); have n2_ := Aside0.mk (blk_below (g := g221) (o := .cells #[.int .i64 t217, .slice Ao11 t218.length co11] 52 (0, 0)) (by (with_reducible repeat (first | refine blk_drewN ?_ _ | refine blk_drew ?_ | refine blk_alloc ?_ _)); exact BK221.out) hb); have n3_ := Aside0.mk (below_step (by repeat (first | (with_reducible first | exact HB.out | apply below_alloc | apply pw_below_drewN | apply below_drew1 | refine below_set ?_ GE221.out) | exact HB.out)) hb); clear HO220; clear HO225; clear BK221; clear HB; have HO220 := n0_; have HO225 := n1_; have BK221 := n2_; have HB := n3_; clear n0_ n1_ n2_ n3_; (try clear hb); (try clear hb2); (try clear hk); (try clear hi)) | (go_at_call 10; (with_reducible refine (fix_F_Div.calls k 4294967296 t228 t229 _ A15.out).mono ?_); rintro e w' ⟨rfl, ⟨nd, rfl⟩⟩))
              go_meet
              case rel => exact ⟨_, (decide (t227 > 4294967296)), (t217), (t218), (.slice Ao11 t218.length co11), (by first | rfl | (simp; done) | (simp [*]; done)), H', ⟨by first | omega | exact Nat.le_refl _⟩, ⟨by (with_reducible repeat (first | apply Kd.R_alloc | apply Kd.R_drewN | apply Kd.R_drew)); exact Kd.R_mono HO220.out (fun _ hk => trivial)⟩, ⟨by (with_reducible repeat (first | refine blk_drewN ?_ _ | refine blk_drew ?_ | refine blk_alloc ?_ _)); exact BK221.out⟩, ⟨by repeat (first | (with_reducible first | exact HB.out | apply below_alloc | apply pw_below_drewN | apply below_drew1 | refine below_set ?_ GE221.out) | exact HB.out)⟩⟩
          · rw [if_neg c17] at H
            have c17b0 : (t227 == (ji16)) = false := beq_eq_false_iff_ne.mpr c17
            have c17b1 : (t227 != (ji16)) = true := bne_iff_ne.mpr c17
            have H' := Aside0.mk H
            clear H
            obtain ⟨Ao23, co23, eo23⟩ := Kd.R_slice HO225.out
            subst eo23
            go_wp2_with (first | (go_at_call 11; (with_reducible refine (history_History_Mean.calls k g221 t217 Ao11 co11 t218 t228 _ ?side1 ?side2 ?side3 A14.out).mono ?_); (case side1 => (with_reducible repeat (first | refine blk_drewN ?_ _ | refine blk_drew ?_ | refine blk_alloc ?_ _)); exact BK221.out); (case side2 => repeat (first | exact (Kd.R_reads' HO220.out).2.2 | (with_reducible refine Kd.C_alloc ?_ _) | (with_reducible refine Kd.C_drewN ?_ _) | (with_reducible refine Kd.C_drew ?_))); (case side3 => exact (Kd.R_reads' HO220.out).2.1); rintro e w24 ⟨rfl, hb⟩; have n0_ := Aside0.mk (Kd.R_below (by (with_reducible repeat (first | apply Kd.R_alloc | apply Kd.R_drewN | apply Kd.R_drew)); exact HO220.out) hb); have n1_ := Aside0.mk (Kd.R_below (by (with_reducible repeat (first | apply Kd.R_alloc | apply Kd.R_drewN | apply Kd.R_drew)); exact HO225.out) hb); have n2_ := Aside0.mk (blk_below (g := g221) (o := .cells #[.int .i64 t217, .slice Ao11 t218.length co11] 52 (0, 0)) (by (with_reducible repeat (first | refine blk_drewN ?_ _ | refine blk_drew ?_ | refine blk_alloc ?_ _)); exact BK221.out) hb); have n3_ := Aside0.mk (below_step (by repeat (first | (with_reducible first | exact HB.out | apply below_alloc | apply pw_below_drewN | apply below_drew1 | refine below_set ?_ GE221.out) | exact HB.out)) hb); clear HO220; clear HO225; clear BK221; clear HB; have HO220 := n0_; have HO225 := n1_; have BK221 := n2_; have HB := n3_; clear n0_ n1_ n2_ n3_; (try clear hb); (try clear hb2); (try clear hk); (try clear hi)) | (go_at_call 10; (with_reducible refine (fix_F_Div.calls k 4294967296 t228 t229 _ A15.out).mono ?_); rintro e w' ⟨rfl, ⟨nd, rfl⟩⟩))
            go_meet
            case rel => exact ⟨_, (true), (t217), (t218), (.slice Ao11 t218.length co11), (by first | rfl | (simp; done) | (simp [*]; done)), H', ⟨by first | omega | exact Nat.le_refl _⟩, ⟨by (with_reducible repeat (first | apply Kd.R_alloc | apply Kd.R_drewN | apply Kd.R_drew)); exact Kd.R_mono HO220.out (fun _ hk => trivial)⟩, ⟨by (with_reducible repeat (first | refine blk_drewN ?_ _ | refine blk_drew ?_ | refine blk_alloc ?_ _)); exact BK221.out⟩, ⟨by repeat (first | (with_reducible first | exact HB.out | apply below_alloc | apply pw_below_drewN | apply below_drew1 | refine below_set ?_ GE221.out) | exact HB.out)⟩⟩
        · rw [if_neg c13] at H
          have c13b0 : decide (0 < (t223.length : Int)) = false := decide_eq_false c13
          have c13b1 : decide (0 < t223.length) = false := decide_eq_false (by omega)
          clear c13
          (first | rw [c13b0] | (simp only [i64_w, i32_w]; rw [c13b0]) | skip)
          by_cases c25 : ((t227 == 0) != ((t223.length : Int) == 0)) = true
          · rw [if_pos c25] at H
            have c25b0 : ((t227 == 0) != ((t223.length : Int) == 0)) = true := c25
            (try (have c25b1 : decide ((t227 == 0) = ((t223.length : Int) == 0)) = false := by simpa using c25))
            (try (have c25b2 : ((t227 == 0) == ((t223.length : Int) == 0)) = false := by simpa using c25))
            (try (have c25b3 : ¬ ((t227 == 0) = ((t223.length : Int) == 0)) := by simpa using c25))
            clear c25
            have H' := Aside0.mk H
            clear H
            obtain ⟨Ao26, co26, eo26⟩ := Kd.R_slice HO225.out
            subst eo26
            go_wp2
            go_meet
            case rel => exact ⟨_, (true), (t217), (t218), (.slice Ao11 t218.length co11), (by first | rfl | (simp; done) | (simp [*]; done)), H', ⟨by first | omega | exact Nat.le_refl _⟩, ⟨by (with_reducible repeat (first | apply Kd.R_alloc | apply Kd.R_drewN | apply Kd.R_drew)); exact Kd.R_mono HO220.out (fun _ hk => trivial)⟩, ⟨by (with_reducible repeat (first | refine blk_drewN ?_ _ | refine blk_drew ?_ | refine blk_alloc ?_ _)); exact BK221.out⟩, ⟨by repeat (first | (with_reducible first | exact HB.out | apply below_alloc | apply pw_below_drewN | apply below_drew1 | refine below_set ?_ GE221.out) | exact HB.out)⟩⟩
          · rw [if_neg c25] at H
            have c25b0 : ((t227 == 0) != ((t223.length : Int) == 0)) = false := by simpa using c25
            (try (have c25b1 : decide ((t227 == 0) = ((t223.length : Int) == 0)) = true := by simpa using c25))
            (try (have c25b2 : ((t227 == 0) == ((t223.length : Int) == 0)) = true := by simpa using c25))
            clear c25
            have H' := Aside0.mk H
            clear H
            obtain ⟨Ao27, co27, eo27⟩ := Kd.R_slice HO225.out
            subst eo27
            go_wp2
            go_meet
            case rel => exact ⟨_, (decide (t227 > 4294967296)), (t217), (t218), (.slice Ao11 t218.length co11), (by first | rfl | (simp; done) | (simp [*]; done)), H', ⟨by first | omega | exact Nat.le_refl _⟩, ⟨by (with_reducible repeat (first | apply Kd.R_alloc | apply Kd.R_drewN | apply Kd.R_drew)); exact Kd.R_mono HO220.out (fun _ hk => trivial)⟩, ⟨by (with_reducible repeat (first | refine blk_drewN ?_ _ | refine blk_drew ?_ | refine blk_alloc ?_ _)); exact BK221.out⟩, ⟨by repeat (first | (with_reducible first | exact HB.out | apply below_alloc | apply pw_below_drewN | apply below_drew1 | refine below_set ?_ GE221.out) | exact HB.out)⟩⟩
      case rest =>
        clear HC9
        try clear c1
        try clear c2
        try clear p2
        try clear c3
        try clear c3b0
        try clear c3b1
        try clear c7
        try clear c8
        try clear c9
        try clear c13
        try clear c13b0
        try clear c13b1
        try clear c17
        try clear c17b0
        try clear c17b1
        try clear c18
        try clear c18b0
        try clear c18b1
        try clear c18b2
        try clear c25
        try clear c25b0
        try clear c25b1
        try clear c25b2
        obtain ⟨kq, x47_8, x222000_8, x222001_8, u222001, rfl, HA, HJ8, HO_222001, BK221, HB⟩ := hcut
        cases kq with
        | zero => exact absurd HA.out (by simp [terracelaw14_HistoryRates.j0])
        | succ kj8 =>
          have H := HA.out
          clear HA
          simp only [terracelaw14_HistoryRates.j0] at H
          by_cases c28 : x47_8 = true
          · subst c28
            have H1 : (some false) = some r := by rw [if_pos rfl] at H; exact H
            clear H
            have H := H1
            clear H1
            obtain rfl := Option.some.inj H
            go_wp2
            go_ret
            exact ⟨by first | rfl | (simp [errW_none, errW_some] <;> rfl) | (simp [*, errW_none, errW_some] <;> rfl), by repeat (first | (with_reducible first | exact HB.out | apply below_alloc | apply pw_below_drewN | apply below_drew1 | refine below_set ?_ GE221.out) | exact HB.out)⟩
          · replace c28 := Bool.eq_false_iff.mpr c28
            subst c28
            have H1 : ((history_History_Packet.f kj8 x222000_8 x222001_8 a1).bind fun bt230 => (if bt230.1 = 0 then ((history_History_Rate.f kj8 bt230.2.1 bt230.2.2).bind fun t236 => (if t236 ≤ t227 then ((terracelaw14_awake.f kj8).bind fun t237 => (some t237)) else (some false))) else ((terracelaw14_awake.f kj8).bind fun t235 => (some t235)))) = some r := by rw [if_neg (show ¬ (false = true) by decide)] at H; exact H
            clear H
            have H := H1
            clear H1
            replace H := Option.bind_eq_some_iff.mp H
            obtain ⟨⟨t230, t231, t232⟩, A290, H⟩ := H
            replace H : (if t230 = 0 then ((history_History_Rate.f kj8 t231 t232).bind fun t236 => (if t236 ≤ t227 then ((terracelaw14_awake.f kj8).bind fun t237 => (some t237)) else (some false))) else ((terracelaw14_awake.f kj8).bind fun t235 => (some t235))) = some r := H
            have A29 := Aside0.mk A290
            clear A290
            by_cases c30 : t230 = 0
            · rw [if_pos c30] at H
              have c30b0 : (t230 == 0) = true := beq_iff_eq.mpr c30
              have c30b1 : (t230 != 0) = false := bne_eq_false_iff_eq.mpr c30
              clear c30
              replace H := Option.bind_eq_some_iff.mp H
              obtain ⟨t236, A310, H⟩ := H
              replace H : (if t236 ≤ t227 then ((terracelaw14_awake.f kj8).bind fun t237 => (some t237)) else (some false)) = some r := H
              have A31 := Aside0.mk A310
              clear A310
              by_cases c32 : t236 ≤ t227
              · rw [if_pos c32] at H
                have c32b0 : decide (t236 ≤ t227) = true := decide_eq_true c32
                clear c32
                replace H := Option.bind_eq_some_iff.mp H
                obtain ⟨t237, A330, H⟩ := H
                replace H : (some t237) = some r := H
                have A33 := Aside0.mk A330
                clear A330
                obtain rfl := Option.some.inj H
                go_wp2_with (first | ((with_reducible refine gate_callee (f := 12) rfl ?_); refine goesL_ (some 50) rfl rfl Try.func12 (by kernel_rfl) rfl #[.pointer (some ⟨g221, 0, none⟩), .int .i64 a1] rfl (by (try simp only [List.map_toArray, List.map_cons, List.map_nil]); first | done | rfl | (simp only [List.length_drop, List.length_take]; rfl)) ?_; (with_reducible refine (history_History_Packet.calls kj8 g221 x222000_8 (fun k_ => some k_ = (u222001 : Value).ownBlock) u222001 x222001_8 a1 t230 t231 t232 w _ ?side1 ?side2 ?side3 ?side4 A29.out).mono ?_); (case side1 => (with_reducible repeat (first | refine blk_drewN ?_ _ | refine blk_drew ?_ | refine blk_alloc ?_ _)); exact BK221.out); (case side2 => exact GE221.out); (case side3 => repeat (first | (with_reducible first | exact HB.out | apply below_alloc | apply pw_below_drewN | apply below_drew1 | refine below_set ?_ GE221.out) | exact HB.out)); (case side4 => exact Kd.R_tight rfl HO_222001.out); rintro e w34 ⟨v233, rfl, ho0, hi, hb, hkp⟩; refine ⟨_, rfl, ?_⟩; have n0_ := Aside0.mk (hi); have n1_ := Aside0.mk (Kd.R_mono (ok' := fun k_ => True) ho0 (fun k_ hk_ => trivial)); have n2_ := Aside0.mk (hb); clear BK221; clear HB; clear HO_222001; have BK221 := n0_; have HO234 := n1_; have HB := n2_; clear n0_ n1_ n2_; (try clear hb); (try clear hkp); (try clear ho0); obtain ⟨Ao35, co35, eo35⟩ := Kd.R_slice HO234.out; subst eo35) | ((with_reducible refine gate_callee (f := 9) rfl ?_); refine goesL_ (some 54) rfl rfl Try.func9 (by kernel_rfl) rfl #[.pointer (some ⟨g221, 0, none⟩)] rfl (by (try simp only [List.map_toArray, List.map_cons, List.map_nil]); first | done | rfl | (simp only [List.length_drop, List.length_take]; rfl)) ?_; (with_reducible refine (history_History_Rate.calls kj8 g221 t231 Ao35 co35 t232 t236 _ ?side1 ?side2 ?side3 A31.out).mono ?_); (case side1 => (with_reducible repeat (first | refine blk_drewN ?_ _ | refine blk_drew ?_ | refine blk_alloc ?_ _)); exact BK221.out); (case side2 => repeat (first | exact (Kd.R_reads' HO234.out).2.2 | (with_reducible refine Kd.C_alloc ?_ _) | (with_reducible refine Kd.C_drewN ?_ _) | (with_reducible refine Kd.C_drew ?_))); (case side3 => exact (Kd.R_reads' HO234.out).2.1); rintro e w36 ⟨rfl, hb⟩; refine ⟨_, rfl, ?_⟩; have n0_ := Aside0.mk (Kd.R_below (by (with_reducible repeat (first | apply Kd.R_alloc | apply Kd.R_drewN | apply Kd.R_drew)); exact HO234.out) hb); have n1_ := Aside0.mk (blk_below (g := g221) (o := .cells #[.int .i64 t231, .slice Ao35 t232.length co35] 52 (0, 0)) (by (with_reducible repeat (first | refine blk_drewN ?_ _ | refine blk_drew ?_ | refine blk_alloc ?_ _)); exact BK221.out) hb); have n2_ := Aside0.mk (below_step (by repeat (first | (with_reducible first | exact HB.out | apply below_alloc | apply pw_below_drewN | apply below_drew1 | refine below_set ?_ GE221.out) | exact HB.out)) hb); clear HO234; clear BK221; clear HB; have HO234 := n0_; have BK221 := n1_; have HB := n2_; clear n0_ n1_ n2_; (try clear hb); (try clear hb2); (try clear hk); (try clear hi)) | (go_at_call 7; (with_reducible refine (terracelaw14_awake.calls kj8  t237 _ A33.out).mono ?_); rintro e w37 ⟨rfl, hb⟩; have n0_ := Aside0.mk (Kd.R_below (by (with_reducible repeat (first | apply Kd.R_alloc | apply Kd.R_drewN | apply Kd.R_drew)); exact HO234.out) hb); have n1_ := Aside0.mk (blk_below (g := g221) (o := .cells #[.int .i64 t231, .slice Ao35 t232.length co35] 52 (0, 0)) (by (with_reducible repeat (first | refine blk_drewN ?_ _ | refine blk_drew ?_ | refine blk_alloc ?_ _)); exact BK221.out) hb); have n2_ := Aside0.mk (below_step (by repeat (first | (with_reducible first | exact HB.out | apply below_alloc | apply pw_below_drewN | apply below_drew1 | refine below_set ?_ GE221.out) | exact HB.out)) hb); clear HO234; clear BK221; clear HB; have HO234 := n0_; have BK221 := n1_; have HB := n2_; clear n0_ n1_ n2_; (try clear hb); (try clear hb2); (try clear hk); (try clear hi)))
                go_ret
                exact ⟨by first | rfl | (simp [errW_none, errW_some] <;> rfl) | (simp [*, errW_none, errW_some] <;> rfl), by repeat (first | (with_reducible first | exact HB.out | apply below_alloc | apply pw_below_drewN | apply below_drew1 | refine below_set ?_ GE221.out) | exact HB.out)⟩
              · rw [if_neg c32] at H
                have c32b0 : decide (t236 ≤ t227) = false := decide_eq_false c32
                clear c32
                obtain rfl := Option.some.inj H
                go_wp2_with (first | ((with_reducible refine gate_callee (f := 12) rfl ?_); refine goesL_ (some 50) rfl rfl Try.func12 (by kernel_rfl) rfl #[.pointer (some ⟨g221, 0, none⟩), .int .i64 a1] rfl (by (try simp only [List.map_toArray, List.map_cons, List.map_nil]); first | done | rfl | (simp only [List.length_drop, List.length_take]; rfl)) ?_; (with_reducible refine (history_History_Packet.calls kj8 g221 x222000_8 (fun k_ => some k_ = (u222001 : Value).ownBlock) u222001 x222001_8 a1 t230 t231 t232 w _ ?side1 ?side2 ?side3 ?side4 A29.out).mono ?_); (case side1 => (with_reducible repeat (first | refine blk_drewN ?_ _ | refine blk_drew ?_ | refine blk_alloc ?_ _)); exact BK221.out); (case side2 => exact GE221.out); (case side3 => repeat (first | (with_reducible first | exact HB.out | apply below_alloc | apply pw_below_drewN | apply below_drew1 | refine below_set ?_ GE221.out) | exact HB.out)); (case side4 => exact Kd.R_tight rfl HO_222001.out); rintro e w38 ⟨v233, rfl, ho0, hi, hb, hkp⟩; refine ⟨_, rfl, ?_⟩; have n0_ := Aside0.mk (hi); have n1_ := Aside0.mk (Kd.R_mono (ok' := fun k_ => True) ho0 (fun k_ hk_ => trivial)); have n2_ := Aside0.mk (hb); clear BK221; clear HB; clear HO_222001; have BK221 := n0_; have HO234 := n1_; have HB := n2_; clear n0_ n1_ n2_; (try clear hb); (try clear hkp); (try clear ho0); obtain ⟨Ao39, co39, eo39⟩ := Kd.R_slice HO234.out; subst eo39) | ((with_reducible refine gate_callee (f := 9) rfl ?_); refine goesL_ (some 54) rfl rfl Try.func9 (by kernel_rfl) rfl #[.pointer (some ⟨g221, 0, none⟩)] rfl (by (try simp only [List.map_toArray, List.map_cons, List.map_nil]); first | done | rfl | (simp only [List.length_drop, List.length_take]; rfl)) ?_; (with_reducible refine (history_History_Rate.calls kj8 g221 t231 Ao39 co39 t232 t236 _ ?side1 ?side2 ?side3 A31.out).mono ?_); (case side1 => (with_reducible repeat (first | refine blk_drewN ?_ _ | refine blk_drew ?_ | refine blk_alloc ?_ _)); exact BK221.out); (case side2 => repeat (first | exact (Kd.R_reads' HO234.out).2.2 | (with_reducible refine Kd.C_alloc ?_ _) | (with_reducible refine Kd.C_drewN ?_ _) | (with_reducible refine Kd.C_drew ?_))); (case side3 => exact (Kd.R_reads' HO234.out).2.1); rintro e w40 ⟨rfl, hb⟩; refine ⟨_, rfl, ?_⟩; have n0_ := Aside0.mk (Kd.R_below (by (with_reducible repeat (first | apply Kd.R_alloc | apply Kd.R_drewN | apply Kd.R_drew)); exact HO234.out) hb); have n1_ := Aside0.mk (blk_below (g := g221) (o := .cells #[.int .i64 t231, .slice Ao39 t232.length co39] 52 (0, 0)) (by (with_reducible repeat (first | refine blk_drewN ?_ _ | refine blk_drew ?_ | refine blk_alloc ?_ _)); exact BK221.out) hb); have n2_ := Aside0.mk (below_step (by repeat (first | (with_reducible first | exact HB.out | apply below_alloc | apply pw_below_drewN | apply below_drew1 | refine below_set ?_ GE221.out) | exact HB.out)) hb); clear HO234; clear BK221; clear HB; have HO234 := n0_; have BK221 := n1_; have HB := n2_; clear n0_ n1_ n2_; (try clear hb); (try clear hb2); (try clear hk); (try clear hi)))
                go_ret
                exact ⟨by first | rfl | (simp [errW_none, errW_some] <;> rfl) | (simp [*, errW_none, errW_some] <;> rfl), by repeat (first | (with_reducible first | exact HB.out | apply below_alloc | apply pw_below_drewN | apply below_drew1 | refine below_set ?_ GE221.out) | exact HB.out)⟩
            · rw [if_neg c30] at H
              have c30b0 : (t230 == 0) = false := beq_eq_false_iff_ne.mpr c30
              have c30b1 : (t230 != 0) = true := bne_iff_ne.mpr c30
              replace H := Option.bind_eq_some_iff.mp H
              obtain ⟨t235, A410, H⟩ := H
              replace H : (some t235) = some r := H
              have A41 := Aside0.mk A410
              clear A410
              obtain rfl := Option.some.inj H
              go_wp2_with (first | ((with_reducible refine gate_callee (f := 12) rfl ?_); refine goesL_ (some 50) rfl rfl Try.func12 (by kernel_rfl) rfl #[.pointer (some ⟨g221, 0, none⟩), .int .i64 a1] rfl (by (try simp only [List.map_toArray, List.map_cons, List.map_nil]); first | done | rfl | (simp only [List.length_drop, List.length_take]; rfl)) ?_; (with_reducible refine (history_History_Packet.calls kj8 g221 x222000_8 (fun k_ => some k_ = (u222001 : Value).ownBlock) u222001 x222001_8 a1 t230 t231 t232 w _ ?side1 ?side2 ?side3 ?side4 A29.out).mono ?_); (case side1 => (with_reducible repeat (first | refine blk_drewN ?_ _ | refine blk_drew ?_ | refine blk_alloc ?_ _)); exact BK221.out); (case side2 => exact GE221.out); (case side3 => repeat (first | (with_reducible first | exact HB.out | apply below_alloc | apply pw_below_drewN | apply below_drew1 | refine below_set ?_ GE221.out) | exact HB.out)); (case side4 => exact Kd.R_tight rfl HO_222001.out); rintro e w42 ⟨v233, rfl, ho0, hi, hb, hkp⟩; refine ⟨_, rfl, ?_⟩; have n0_ := Aside0.mk (hi); have n1_ := Aside0.mk (Kd.R_mono (ok' := fun k_ => True) ho0 (fun k_ hk_ => trivial)); have n2_ := Aside0.mk (hb); clear BK221; clear HB; clear HO_222001; have BK221 := n0_; have HO234 := n1_; have HB := n2_; clear n0_ n1_ n2_; (try clear hb); (try clear hkp); (try clear ho0)) | ((with_reducible refine gate_callee (f := 7) rfl ?_); refine goesL_ (some 52) rfl rfl Try.func7 (by kernel_rfl) rfl #[] rfl (by (try simp only [List.map_toArray, List.map_cons, List.map_nil]); first | done | rfl | (simp only [List.length_drop, List.length_take]; rfl)) ?_; (with_reducible refine (terracelaw14_awake.calls kj8  t235 _ A41.out).mono ?_); rintro e w43 ⟨rfl, hb⟩; refine ⟨_, rfl, ?_⟩; have n0_ := Aside0.mk (Kd.R_below (by (with_reducible repeat (first | apply Kd.R_alloc | apply Kd.R_drewN | apply Kd.R_drew)); exact HO234.out) hb); have n1_ := Aside0.mk (blk_below (g := g221) (o := .cells #[.int .i64 t231, v233] 52 (0, 0)) (by (with_reducible repeat (first | refine blk_drewN ?_ _ | refine blk_drew ?_ | refine blk_alloc ?_ _)); exact BK221.out) hb); have n2_ := Aside0.mk (below_step (by repeat (first | (with_reducible first | exact HB.out | apply below_alloc | apply pw_below_drewN | apply below_drew1 | refine below_set ?_ GE221.out) | exact HB.out)) hb); clear HO234; clear BK221; clear HB; have HO234 := n0_; have BK221 := n1_; have HB := n2_; clear n0_ n1_ n2_; (try clear hb); (try clear hb2); (try clear hk); (try clear hi)))
              go_ret
              exact ⟨by first | rfl | (simp [errW_none, errW_some] <;> rfl) | (simp [*, errW_none, errW_some] <;> rfl), by repeat (first | (with_reducible first | exact HB.out | apply below_alloc | apply pw_below_drewN | apply below_drew1 | refine below_set ?_ GE221.out) | exact HB.out)⟩
    · replace c7 := Bool.eq_false_iff.mpr c7
      subst c7
      have H1 : (some false) = some r := by rw [if_neg (show ¬ (false = true) by decide)] at H; exact H
      clear H
      have H := H1
      clear H1
      obtain rfl := Option.some.inj H
      go_enter Try.func3, Try.ntmps3
      go_wp2_with (first | ((with_reducible refine gate_callee (f := 8) rfl ?_); refine goesL_ (some 16) rfl rfl Try.func8 (by kernel_rfl) rfl #[.slice A0 l0.length c0] rfl (by (try simp only [List.map_toArray, List.map_cons, List.map_nil]); first | done | rfl | (simp only [List.length_drop, List.length_take]; rfl)) ?_; (with_reducible refine (terracelaw14_played.calls k _ _ l0 t217 t218 t222 t223 false _ ?side1 ?side2 A6.out).mono ?_); (case side1 => repeat (first | exact HR0.out | (with_reducible refine Kd.C_alloc ?_ _) | (with_reducible refine Kd.C_drewN ?_ _) | (with_reducible refine Kd.C_drew ?_))); (case side2 => exact HC0.out); rintro e w44 ⟨v219, v224, g221, rfl, ho0, ho1, hi0, hb2⟩; refine ⟨_, rfl, ?_⟩; have hge_ := Nat.le_trans (below_size (by repeat (first | (with_reducible first | exact HB.out | apply below_alloc | apply pw_below_drewN | apply below_drew1) | exact HB.out))) hi0.2; have hgw_ := Nat.le_trans (below_size (by repeat (first | (with_reducible first | exact HB.out | apply below_alloc | apply pw_below_drewN | apply below_drew1) | exact HB.out))) hi0.2; have hb := below_step (by repeat (first | (with_reducible first | exact HB.out | apply below_alloc | apply pw_below_drewN | apply below_drew1) | exact HB.out)) hb2; have n0_ := Aside0.mk (Kd.R_lower ho0 (below_size (by repeat (first | (with_reducible first | exact HB.out | apply below_alloc | apply pw_below_drewN | apply below_drew1) | exact HB.out)))); have n1_ := Aside0.mk (Kd.R_lower ho1 (below_size (by repeat (first | (with_reducible first | exact HB.out | apply below_alloc | apply pw_below_drewN | apply below_drew1) | exact HB.out)))); have n2_ := Aside0.mk (hb); have n3_ := Aside0.mk (hi0.1); have n4_ := Aside0.mk (hge_); have n5_ := Aside0.mk (hgw_); clear HB; have HO220 := n0_; have HO225 := n1_; have HB := n2_; have BK221 := n3_; have GE221 := n4_; have GW221 := n5_; clear n0_ n1_ n2_ n3_ n4_ n5_; (try clear hb); (try clear hb2); (try clear hge_); (try clear hgw_); (try clear hi0); (try clear ho0); (try clear ho1)))
      go_ret
      exact ⟨by first | rfl | (simp [errW_none, errW_some] <;> rfl) | (simp [*, errW_none, errW_some] <;> rfl), by repeat (first | (with_reducible first | exact HB.out | apply below_alloc | apply pw_below_drewN | apply below_drew1 | refine below_set ?_ GE221.out) | exact HB.out)⟩

def okS41 (x : S41) : Prop := ((Lit.int .i64 x.f0).wf = true) ∧ ((Lit.int .i64 x.f1).wf = true)
/-- THE ONE PURE STATEMENT of terracelaw14_HistoryRates. -/
def terracelaw14_HistoryRates.Pure : Prop := ∀ (l0 : List (S41)) (a1 : Int), l0.length ≤ maxLen → (∀ y_ ∈ l0, okS41 y_) → (Lit.int .i64 a1).wf = true → ∃ k, terracelaw14_HistoryRates.f k l0 a1 = some true

end Go.Proofs.Ytlfjcelippfanaa.PHistoryRates
