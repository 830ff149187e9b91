-- Written by ext.sh (the session's own program, over the kit's printer) out of the translation. Lean checks it.
import Derived.Test.YtejminfpgnlpkaaPSuppressOncex0
import Derived.Test.YtejminfpgnlpkaaPSuppressOncex1
namespace Go.Proofs.Ytejminfpgnlpkaa.PSuppressOnce
open Go.RowKit Go.Proofs.YtejminfpgnlpkaaW.PrintWords Go.Proofs.YtejminfpgnlpkaaW.PrintLast Go.Proofs.YtejminfpgnlpkaaW.PrintMore
attribute [local go_sem] max2_int min2_int max_two min_two max_three min_three max_four min_four   -- for this text's walks alone
set_option linter.unusedVariables false
set_option linter.unusedSimpArgs false

/-! ### atomic_b32: function 64 -/
def atomic_b32.f (a0 : Bool) : Option (Int) := if a0 = true then (some 1) else (some 0)
set_option maxHeartbeats 8000000 in
set_option maxRecDepth 100000 in
theorem atomic_b32.calls (a0 : Bool) (r : Int) (w : World) (h : atomic_b32.f a0 = some r) :
    Calls Try.prog 64 #[.bool a0] w fun e w' => e = .returned (.int .u32 r) ∧ Drawn0 w w' := by
  have H : (if a0 = true then (some 1) else (some 0)) = some r := h
  clear h
  by_cases c2 : a0 = true
  · subst c2
    have H1 : (some 1) = some r := by rw [if_pos rfl] at H; exact H
    clear H
    have H := H1
    clear H1
    obtain rfl := Option.some.inj H
    go_enter Try.func64, Try.ntmps64
    go_wp2
    go_ret
    exact ⟨by first | rfl | (simp; done) | (simp [*]; done), by repeat (first | exact Drawn0.refl _ | apply Drawn0.step)⟩
  · replace c2 := Bool.eq_false_iff.mpr c2
    subst c2
    have H1 : (some 0) = some r := by rw [if_neg (show ¬ (false = true) by decide)] at H; exact H
    clear H
    have H := H1
    clear H1
    obtain rfl := Option.some.inj H
    go_enter Try.func64, Try.ntmps64
    go_wp2
    go_ret
    exact ⟨by first | rfl | (simp; done) | (simp [*]; done), by repeat (first | exact Drawn0.refl _ | apply Drawn0.step)⟩

-- NOT PRINTED: function 60 (atomic_Bool_Store)

-- NOT PRINTED: function 55 (sync_Once_doSlow)

-- NOT PRINTED: function 50 (sync_Once_Do)

/-! ### logs_steps: function 52 -/
def logs_steps.f  : Option (Int × Int × Int × Int × Int × Int × Int × Int × Int × Int × Int × Int × Int × Int × Int × Int) := some (5732, 5404, 5112, 4850, 4613, 4398, 4203, 4024, 3860, 3708, 3568, 3439, 3318, 3205, 3100, 3002)
set_option maxHeartbeats 8000000 in
set_option maxRecDepth 100000 in
theorem logs_steps.calls  (r1 : Int) (r2 : Int) (r3 : Int) (r4 : Int) (r5 : Int) (r6 : Int) (r7 : Int) (r8 : Int) (r9 : Int) (r10 : Int) (r11 : Int) (r12 : Int) (r13 : Int) (r14 : Int) (r15 : Int) (r16 : Int) (w : World) (h : logs_steps.f  = some (r1, r2, r3, r4, r5, r6, r7, r8, r9, r10, r11, r12, r13, r14, r15, r16)) :
    Calls Try.prog 52 #[] w fun e w' => e = .returned (.agg #[.int .i64 r1, .int .i64 r2, .int .i64 r3, .int .i64 r4, .int .i64 r5, .int .i64 r6, .int .i64 r7, .int .i64 r8, .int .i64 r9, .int .i64 r10, .int .i64 r11, .int .i64 r12, .int .i64 r13, .int .i64 r14, .int .i64 r15, .int .i64 r16]) ∧ Below w.heap.size w w' := by
  have hu101 := Try.underlying101
  have HB := Aside0.mk (Below.refl w.heap.size w)
  have H : (some (5732, 5404, 5112, 4850, 4613, 4398, 4203, 4024, 3860, 3708, 3568, 3439, 3318, 3205, 3100, 3002)) = some (r1, r2, r3, r4, r5, r6, r7, r8, r9, r10, r11, r12, r13, r14, r15, r16) := h
  clear h
  simp only [Option.some.injEq, Prod.mk.injEq] at H
  obtain ⟨rfl, rfl, rfl, rfl, rfl, rfl, rfl, rfl, rfl, rfl, rfl, rfl, rfl, rfl, rfl, rfl⟩ := H
  go_enter Try.func52, Try.ntmps52
  go_wp2_with (first | ((with_reducible refine gate_dst (N := 0) rfl ?_); refine box_event ?hg (N := 0) ?hd (cs := #[.int .i64 0, .int .i64 0, .int .i64 0, .int .i64 0, .int .i64 0, .int .i64 0, .int .i64 0, .int .i64 0, .int .i64 0, .int .i64 0, .int .i64 0, .int .i64 0, .int .i64 0, .int .i64 0, .int .i64 0, .int .i64 0]) (t := 101) ?hr ?_; (case hd => rfl); (case hg => rfl); (case hr => first | (go_simp; done) | (go_simp; rfl)); intro gb107 hg w1 hbox hb; have n0_ := Aside0.mk (below_step (by repeat (first | (with_reducible first | exact HB.out | apply below_alloc | apply pw_below_drewN | apply below_drew1) | exact HB.out)) hb); have n1_ := Aside0.mk (hbox); have n2_ := Aside0.mk ((by rw [hg]; exact (below_size (by repeat (first | (with_reducible first | exact HB.out | apply below_alloc | apply pw_below_drewN | apply below_drew1) | exact HB.out))) : w.heap.size ≤ gb107)); have n3_ := Aside0.mk ((by rw [hg]; exact (below_size (by repeat (first | (with_reducible first | exact HB.out | apply below_alloc | apply pw_below_drewN | apply below_drew1) | exact HB.out))) : w.heap.size ≤ gb107)); clear HB; have HB := n0_; have BK107 := n1_; have GW107 := n2_; have GE107 := n3_; clear n0_ n1_ n2_ n3_; clear hb hbox hg; have hcz2_0 : w1.cell? ⟨gb107, 0, none⟩ = some (.int .i64 0) := (blk_cell BK107.out 0).trans rfl; have hcz2_1 : w1.cell? ⟨gb107, 1, none⟩ = some (.int .i64 0) := (blk_cell BK107.out 1).trans rfl; have hcz2_2 : w1.cell? ⟨gb107, 2, none⟩ = some (.int .i64 0) := (blk_cell BK107.out 2).trans rfl; have hcz2_3 : w1.cell? ⟨gb107, 3, none⟩ = some (.int .i64 0) := (blk_cell BK107.out 3).trans rfl; have hcz2_4 : w1.cell? ⟨gb107, 4, none⟩ = some (.int .i64 0) := (blk_cell BK107.out 4).trans rfl; have hcz2_5 : w1.cell? ⟨gb107, 5, none⟩ = some (.int .i64 0) := (blk_cell BK107.out 5).trans rfl; have hcz2_6 : w1.cell? ⟨gb107, 6, none⟩ = some (.int .i64 0) := (blk_cell BK107.out 6).trans rfl; have hcz2_7 : w1.cell? ⟨gb107, 7, none⟩ = some (.int .i64 0) := (blk_cell BK107.out 7).trans rfl; have hcz2_8 : w1.cell? ⟨gb107, 8, none⟩ = some (.int .i64 0) := (blk_cell BK107.out 8).trans rfl; have hcz2_9 : w1.cell? ⟨gb107, 9, none⟩ = some (.int .i64 0) := (blk_cell BK107.out 9).trans rfl; have hcz2_10 : w1.cell? ⟨gb107, 10, none⟩ = some (.int .i64 0) := (blk_cell BK107.out 10).trans rfl; have hcz2_11 : w1.cell? ⟨gb107, 11, none⟩ = some (.int .i64 0) := (blk_cell BK107.out 11).trans rfl; have hcz2_12 : w1.cell? ⟨gb107, 12, none⟩ = some (.int .i64 0) := (blk_cell BK107.out 12).trans rfl; have hcz2_13 : w1.cell? ⟨gb107, 13, none⟩ = some (.int .i64 0) := (blk_cell BK107.out 13).trans rfl; have hcz2_14 : w1.cell? ⟨gb107, 14, none⟩ = some (.int .i64 0) := (blk_cell BK107.out 14).trans rfl; have hcz2_15 : w1.cell? ⟨gb107, 15, none⟩ = some (.int .i64 0) := (blk_cell BK107.out 15).trans rfl; have hfz2_0 := blk_frozen BK107.out 0; have hfz2_1 := blk_frozen BK107.out 1; have hfz2_2 := blk_frozen BK107.out 2; have hfz2_3 := blk_frozen BK107.out 3; have hfz2_4 := blk_frozen BK107.out 4; have hfz2_5 := blk_frozen BK107.out 5; have hfz2_6 := blk_frozen BK107.out 6; have hfz2_7 := blk_frozen BK107.out 7; have hfz2_8 := blk_frozen BK107.out 8; have hfz2_9 := blk_frozen BK107.out 9; have hfz2_10 := blk_frozen BK107.out 10; have hfz2_11 := blk_frozen BK107.out 11; have hfz2_12 := blk_frozen BK107.out 12; have hfz2_13 := blk_frozen BK107.out 13; have hfz2_14 := blk_frozen BK107.out 14; have hfz2_15 := blk_frozen BK107.out 15))
  refine bodyPost_ret (results_cell_row rfl _ _ gb107 101 #[.int .i64 5732, .int .i64 5404, .int .i64 5112, .int .i64 4850, .int .i64 4613, .int .i64 4398, .int .i64 4203, .int .i64 4024, .int .i64 3860, .int .i64 3708, .int .i64 3568, .int .i64 3439, .int .i64 3318, .int .i64 3205, .int .i64 3100, .int .i64 3002] (0, 0) _ rfl (by (with_reducible repeat (first | refine blk_drewN ?_ _ | refine blk_drew ?_ | refine blk_alloc ?_ _)); refine blk_put (cs := #[.int .i64 5732, .int .i64 5404, .int .i64 5112, .int .i64 4850, .int .i64 4613, .int .i64 4398, .int .i64 4203, .int .i64 4024, .int .i64 3860, .int .i64 3708, .int .i64 3568, .int .i64 3439, .int .i64 3318, .int .i64 3205, .int .i64 3100, .int .i64 0]) ?_ 15 _ rfl; (with_reducible repeat (first | refine blk_drewN ?_ _ | refine blk_drew ?_ | refine blk_alloc ?_ _)); refine blk_put (cs := #[.int .i64 5732, .int .i64 5404, .int .i64 5112, .int .i64 4850, .int .i64 4613, .int .i64 4398, .int .i64 4203, .int .i64 4024, .int .i64 3860, .int .i64 3708, .int .i64 3568, .int .i64 3439, .int .i64 3318, .int .i64 3205, .int .i64 0, .int .i64 0]) ?_ 14 _ rfl; (with_reducible repeat (first | refine blk_drewN ?_ _ | refine blk_drew ?_ | refine blk_alloc ?_ _)); refine blk_put (cs := #[.int .i64 5732, .int .i64 5404, .int .i64 5112, .int .i64 4850, .int .i64 4613, .int .i64 4398, .int .i64 4203, .int .i64 4024, .int .i64 3860, .int .i64 3708, .int .i64 3568, .int .i64 3439, .int .i64 3318, .int .i64 0, .int .i64 0, .int .i64 0]) ?_ 13 _ rfl; (with_reducible repeat (first | refine blk_drewN ?_ _ | refine blk_drew ?_ | refine blk_alloc ?_ _)); refine blk_put (cs := #[.int .i64 5732, .int .i64 5404, .int .i64 5112, .int .i64 4850, .int .i64 4613, .int .i64 4398, .int .i64 4203, .int .i64 4024, .int .i64 3860, .int .i64 3708, .int .i64 3568, .int .i64 3439, .int .i64 0, .int .i64 0, .int .i64 0, .int .i64 0]) ?_ 12 _ rfl; (with_reducible repeat (first | refine blk_drewN ?_ _ | refine blk_drew ?_ | refine blk_alloc ?_ _)); refine blk_put (cs := #[.int .i64 5732, .int .i64 5404, .int .i64 5112, .int .i64 4850, .int .i64 4613, .int .i64 4398, .int .i64 4203, .int .i64 4024, .int .i64 3860, .int .i64 3708, .int .i64 3568, .int .i64 0, .int .i64 0, .int .i64 0, .int .i64 0, .int .i64 0]) ?_ 11 _ rfl; (with_reducible repeat (first | refine blk_drewN ?_ _ | refine blk_drew ?_ | refine blk_alloc ?_ _)); refine blk_put (cs := #[.int .i64 5732, .int .i64 5404, .int .i64 5112, .int .i64 4850, .int .i64 4613, .int .i64 4398, .int .i64 4203, .int .i64 4024, .int .i64 3860, .int .i64 3708, .int .i64 0, .int .i64 0, .int .i64 0, .int .i64 0, .int .i64 0, .int .i64 0]) ?_ 10 _ rfl; (with_reducible repeat (first | refine blk_drewN ?_ _ | refine blk_drew ?_ | refine blk_alloc ?_ _)); refine blk_put (cs := #[.int .i64 5732, .int .i64 5404, .int .i64 5112, .int .i64 4850, .int .i64 4613, .int .i64 4398, .int .i64 4203, .int .i64 4024, .int .i64 3860, .int .i64 0, .int .i64 0, .int .i64 0, .int .i64 0, .int .i64 0, .int .i64 0, .int .i64 0]) ?_ 9 _ rfl; (with_reducible repeat (first | refine blk_drewN ?_ _ | refine blk_drew ?_ | refine blk_alloc ?_ _)); refine blk_put (cs := #[.int .i64 5732, .int .i64 5404, .int .i64 5112, .int .i64 4850, .int .i64 4613, .int .i64 4398, .int .i64 4203, .int .i64 4024, .int .i64 0, .int .i64 0, .int .i64 0, .int .i64 0, .int .i64 0, .int .i64 0, .int .i64 0, .int .i64 0]) ?_ 8 _ rfl; (with_reducible repeat (first | refine blk_drewN ?_ _ | refine blk_drew ?_ | refine blk_alloc ?_ _)); refine blk_put (cs := #[.int .i64 5732, .int .i64 5404, .int .i64 5112, .int .i64 4850, .int .i64 4613, .int .i64 4398, .int .i64 4203, .int .i64 0, .int .i64 0, .int .i64 0, .int .i64 0, .int .i64 0, .int .i64 0, .int .i64 0, .int .i64 0, .int .i64 0]) ?_ 7 _ rfl; (with_reducible repeat (first | refine blk_drewN ?_ _ | refine blk_drew ?_ | refine blk_alloc ?_ _)); refine blk_put (cs := #[.int .i64 5732, .int .i64 5404, .int .i64 5112, .int .i64 4850, .int .i64 4613, .int .i64 4398, .int .i64 0, .int .i64 0, .int .i64 0, .int .i64 0, .int .i64 0, .int .i64 0, .int .i64 0, .int .i64 0, .int .i64 0, .int .i64 0]) ?_ 6 _ rfl; (with_reducible repeat (first | refine blk_drewN ?_ _ | refine blk_drew ?_ | refine blk_alloc ?_ _)); refine blk_put (cs := #[.int .i64 5732, .int .i64 5404, .int .i64 5112, .int .i64 4850, .int .i64 4613, .int .i64 0, .int .i64 0, .int .i64 0, .int .i64 0, .int .i64 0, .int .i64 0, .int .i64 0, .int .i64 0, .int .i64 0, .int .i64 0, .int .i64 0]) ?_ 5 _ rfl; (with_reducible repeat (first | refine blk_drewN ?_ _ | refine blk_drew ?_ | refine blk_alloc ?_ _)); refine blk_put (cs := #[.int .i64 5732, .int .i64 5404, .int .i64 5112, .int .i64 4850, .int .i64 0, .int .i64 0, .int .i64 0, .int .i64 0, .int .i64 0, .int .i64 0, .int .i64 0, .int .i64 0, .int .i64 0, .int .i64 0, .int .i64 0, .int .i64 0]) ?_ 4 _ rfl; (with_reducible repeat (first | refine blk_drewN ?_ _ | refine blk_drew ?_ | refine blk_alloc ?_ _)); refine blk_put (cs := #[.int .i64 5732, .int .i64 5404, .int .i64 5112, .int .i64 0, .int .i64 0, .int .i64 0, .int .i64 0, .int .i64 0, .int .i64 0, .int .i64 0, .int .i64 0, .int .i64 0, .int .i64 0, .int .i64 0, .int .i64 0, .int .i64 0]) ?_ 3 _ rfl; (with_reducible repeat (first | refine blk_drewN ?_ _ | refine blk_drew ?_ | refine blk_alloc ?_ _)); refine blk_put (cs := #[.int .i64 5732, .int .i64 5404, .int .i64 0, .int .i64 0, .int .i64 0, .int .i64 0, .int .i64 0, .int .i64 0, .int .i64 0, .int .i64 0, .int .i64 0, .int .i64 0, .int .i64 0, .int .i64 0, .int .i64 0, .int .i64 0]) ?_ 2 _ rfl; (with_reducible repeat (first | refine blk_drewN ?_ _ | refine blk_drew ?_ | refine blk_alloc ?_ _)); refine blk_put (cs := #[.int .i64 5732, .int .i64 0, .int .i64 0, .int .i64 0, .int .i64 0, .int .i64 0, .int .i64 0, .int .i64 0, .int .i64 0, .int .i64 0, .int .i64 0, .int .i64 0, .int .i64 0, .int .i64 0, .int .i64 0, .int .i64 0]) ?_ 1 _ rfl; (with_reducible repeat (first | refine blk_drewN ?_ _ | refine blk_drew ?_ | refine blk_alloc ?_ _)); refine blk_put (cs := #[.int .i64 0, .int .i64 0, .int .i64 0, .int .i64 0, .int .i64 0, .int .i64 0, .int .i64 0, .int .i64 0, .int .i64 0, .int .i64 0, .int .i64 0, .int .i64 0, .int .i64 0, .int .i64 0, .int .i64 0, .int .i64 0]) ?_ 0 _ rfl; (with_reducible repeat (first | refine blk_drewN ?_ _ | refine blk_drew ?_ | refine blk_alloc ?_ _)); exact BK107.out) Try.underlying101 rfl (by kernel_rfl)) rfl ?_
  exact ⟨by first | rfl | (simp [errW_none, errW_some] <;> rfl) | (simp [*, errW_none, errW_some] <;> rfl), by repeat (first | (with_reducible first | exact HB.out | apply below_alloc | apply pw_below_drewN | apply below_drew1 | refine below_set ?_ GE107.out) | exact HB.out)⟩

-- NOT PRINTED: function 56 (atomic_AddInt64)

-- NOT PRINTED: function 53 (atomic_Int64_Add)

-- NOT PRINTED: function 51 (logs_Shelf_make_1)

-- NOT PRINTED: function 49 (logs_Shelf_make)

/-! ### logs_Shelf_Table: function 47 (told by hand) -/
theorem logs_Shelf_Table.disable (w : World) : (callFunc 65 #[]).run Try.prog w = .ok (.value (.tuple #[])) w := run_call_mark0 Try.func65 (by kernel_rfl) (by kernel_rfl) (by kernel_rfl) .disable (by kernel_rfl) w
theorem logs_Shelf_Table.enable (w : World) : (callFunc 67 #[]).run Try.prog w = .ok (.value (.tuple #[])) w := run_call_mark0 Try.func67 (by kernel_rfl) (by kernel_rfl) (by kernel_rfl) .enable (by kernel_rfl) w
theorem logs_Shelf_Table.acquire (a : Addr) (w : World) : (callFunc 68 #[.pointer (some a)]).run Try.prog w = .ok (.value (.tuple #[])) w := run_call_marked Try.func68 (by kernel_rfl) (by kernel_rfl) (by kernel_rfl) .acquire (by kernel_rfl) a w
theorem logs_Shelf_Table.releaseMerge (a : Addr) (w : World) : (callFunc 70 #[.pointer (some a)]).run Try.prog w = .ok (.value (.tuple #[])) w := run_call_marked Try.func70 (by kernel_rfl) (by kernel_rfl) (by kernel_rfl) .releaseMerge (by kernel_rfl) a w
set_option maxRecDepth 100000 in
theorem logs_Shelf_Table.store_deferred (a : Addr) (x : Value) (u : FrameMode) (w : World) (hc : w.cell? a = some x) (hz : w.frozen? a = false) :
    CallsD Try.prog 60 #[.pointer (some a), .bool true] u w fun e u' w' => u' = u ∧ (e = .returned (.tuple #[]) ∧ w' = w.drew.setCell a (.int .u32 1)) := by
  have hc' : w.drew.cell? a = some x := by go_simp
  have hz' : w.drew.frozen? a = false := by go_simp
  have hst := run_call_store (P := Try.prog) Try.func63 (by kernel_rfl) (by kernel_rfl) (by kernel_rfl) (by kernel_rfl) (k := .u32) (y := 1) hc' hz'
  go_enter_d Try.func60, Try.ntmps60
  go_wp2
  go_region_calls
  all_goals (go_end0; exact ⟨rfl, rfl⟩)
set_option maxRecDepth 100000 in
theorem logs_Shelf_Table.unlock_deferred (a : Addr) (u : FrameMode) (w : World) (hc : w.cell? a = some (.int .i32 1)) (hz : w.frozen? a = false) :
    CallsD Try.prog 59 #[.pointer (some a)] u w fun e u' w' => u' = u ∧ (e = .returned (.tuple #[]) ∧ w' = w.setCell a (.int .i32 0)) := by
  have hd := logs_Shelf_Table.disable
  have he := logs_Shelf_Table.enable
  have hr := logs_Shelf_Table.releaseMerge
  have hadd := run_call_add (P := Try.prog) Try.func71 (by kernel_rfl) (by kernel_rfl) (by kernel_rfl) .i32 (by kernel_rfl) (y := -1) (s := 0) hc hz (by simp [go_sem]; rfl)
  have hcv := run_convert_to_unsafe (P := Try.prog) (src := 115) (dst := 119) Try.underlying115 Try.underlying119 (by kernel_rfl) hc
  go_enter_d Try.func59, Try.ntmps59
  go_wp2
  go_end0
  go_wp2
  go_end0
  exact ⟨rfl, rfl⟩
set_option maxRecDepth 100000 in
theorem logs_Shelf_Table.lock_free (a : Addr) (w : World) (hc : w.cell? a = some (.int .i32 0)) (hz : w.frozen? a = false) :
    Calls Try.prog 58 #[.pointer (some a)] w fun e w' => e = .returned (.tuple #[]) ∧ w' = w.setCell a (.int .i32 1) := by
  have hd := logs_Shelf_Table.disable
  have he := logs_Shelf_Table.enable
  have ha := logs_Shelf_Table.acquire
  have hcas := run_call_cas_hit (P := Try.prog) Try.func66 (by kernel_rfl) (by kernel_rfl) (by kernel_rfl) .i32 (by kernel_rfl) (y := 1) hc hz
  have hc' : (w.setCell a (.int .i32 1)).cell? a = some (.int .i32 1) := World.cell?_setCell_same w a _ hc
  have hcv := run_convert_to_unsafe (P := Try.prog) (src := 115) (dst := 119) Try.underlying115 Try.underlying119 (by kernel_rfl) hc'
  go_enter Try.func58, Try.ntmps58
  go_wp2
  first | go_end0 | (simp only [Exit.inBlock, Exit.then]; refine bodyPost_ret (results_none rfl _ _ _) rfl ?_) | refine bodyPost_ret (results_none rfl _ _ _) rfl ?_
  go_wp2
  go_end0
  exact ⟨rfl, rfl⟩
def logs_Shelf_Table.stp : List Int := [5732, 5404, 5112, 4850, 4613, 4398, 4203, 4024, 3860, 3708, 3568, 3439, 3318, 3205, 3100, 3002]
def logs_Shelf_Table.tab : List Int := [0, 5732, 11136, 16248, 21098, 25711, 30109, 34312, 38336, 42196, 45904, 49472, 52911, 56229, 59434, 62534, 65536]
def logs_Shelf_Table.tb (k : Nat) : Int := logs_Shelf_Table.tab.getD k 0
def logs_Shelf_Table.sp (k : Nat) : Int := logs_Shelf_Table.stp.getD k 0
/-- the table, made up to place k -/
def logs_Shelf_Table.part (k : Nat) : List Value := (List.range 17).map fun j => .int .i64 (if j ≤ k then logs_Shelf_Table.tb j else 0)
/-- the shelf's block: done, the lock, how often it was made, the table up to place k -/
def logs_Shelf_Table.blk (d st m : Int) (k : Nat) : Obj := .cells (#[.int .u32 d, .int .i32 st, .int .u32 0, .int .i64 m] ++ (logs_Shelf_Table.part k).toArray) 99 (0, 0)
theorem logs_Shelf_Table.part_get (k j : Nat) (hj : j < 17) : (logs_Shelf_Table.part k)[j]? = some (.int .i64 (if j ≤ k then logs_Shelf_Table.tb j else 0)) := by
  unfold logs_Shelf_Table.part
  rw [List.getElem?_map, List.getElem?_range hj]; rfl
theorem logs_Shelf_Table.blk_at {W : World} {b : Nat} {d st m : Int} {k : Nat} (h : W.heap[b]? = some (logs_Shelf_Table.blk d st m k)) (j : Nat) (hj : j < 17) : W.cell? ⟨b, 4 + j, none⟩ = some (.int .i64 (if j ≤ k then logs_Shelf_Table.tb j else 0)) := by
  unfold logs_Shelf_Table.blk at h
  refine (blk_cell h (4 + j)).trans ?_
  rw [Array.getElem?_append_right (by simp)]
  simpa using logs_Shelf_Table.part_get k j hj
theorem logs_Shelf_Table.blk_hd {W : World} {b : Nat} {d st m : Int} {k : Nat} (h : W.heap[b]? = some (logs_Shelf_Table.blk d st m k)) : W.cell? ⟨b, 0, none⟩ = some (.int .u32 d) ∧ W.cell? ⟨b, 1, none⟩ = some (.int .i32 st) ∧ W.cell? ⟨b, 3, none⟩ = some (.int .i64 m) := by
  unfold logs_Shelf_Table.blk at h
  refine ⟨(blk_cell h 0).trans ?_, (blk_cell h 1).trans ?_, (blk_cell h 3).trans ?_⟩ <;> (rw [Array.getElem?_append_left (by simp)]; rfl)
theorem logs_Shelf_Table.part_len (k : Nat) : (logs_Shelf_Table.part k).length = 17 := by simp [logs_Shelf_Table.part]
theorem logs_Shelf_Table.part_set (k : Nat) (hk : k < 16) : (logs_Shelf_Table.part k).set (k + 1) (.int .i64 (logs_Shelf_Table.tb (k + 1))) = logs_Shelf_Table.part (k + 1) := by
  apply List.ext_getElem?
  intro j
  by_cases hj : j < 17
  · rw [logs_Shelf_Table.part_get (k + 1) j hj]
    by_cases e : k + 1 = j
    · subst e
      rw [List.getElem?_set_self (by rw [logs_Shelf_Table.part_len]; omega), if_pos (Nat.le_refl _)]
    · rw [List.getElem?_set_ne e, logs_Shelf_Table.part_get k j hj]
      by_cases h1 : j ≤ k
      · rw [if_pos h1, if_pos (by omega)]
      · rw [if_neg h1, if_neg (by omega)]
  · rw [List.getElem?_eq_none (by rw [List.length_set, logs_Shelf_Table.part_len]; omega), List.getElem?_eq_none (by rw [logs_Shelf_Table.part_len]; omega)]
theorem logs_Shelf_Table.arr_set (h : Array Value) (hh : h.size = 4) (l : List Value) (j : Nat) (v : Value) : (h ++ l.toArray).setIfInBounds (4 + j) v = h ++ (l.set j v).toArray := by
  apply Array.ext'
  rw [Array.toList_setIfInBounds, Array.toList_append, Array.toList_append, List.set_append, if_neg (by rw [Array.length_toList]; omega), Array.length_toList, hh, Nat.add_sub_cancel_left]
/-- one more place -/
theorem logs_Shelf_Table.blk_next {W : World} {b : Nat} {d st m : Int} {k : Nat} (hk : k < 16) (h : W.heap[b]? = some (logs_Shelf_Table.blk d st m k)) : (W.setCell ⟨b, 4 + (k + 1), none⟩ (.int .i64 (logs_Shelf_Table.tb (k + 1)))).heap[b]? = some (logs_Shelf_Table.blk d st m (k + 1)) := by
  unfold logs_Shelf_Table.blk at h ⊢
  rw [blk_set h (4 + (k + 1)) (.int .i64 (logs_Shelf_Table.tb (k + 1))), logs_Shelf_Table.arr_set _ rfl, logs_Shelf_Table.part_set k hk]
set_option maxRecDepth 100000 in
theorem logs_Shelf_Table.stp_ix (k : Nat) (hk : k < 16) (w : World) : (Instr.index 101 (.agg #[.int .i64 5732, .int .i64 5404, .int .i64 5112, .int .i64 4850, .int .i64 4613, .int .i64 4398, .int .i64 4203, .int .i64 4024, .int .i64 3860, .int .i64 3708, .int .i64 3568, .int .i64 3439, .int .i64 3318, .int .i64 3205, .int .i64 3100, .int .i64 3002]) (.int .i64 k)).run Try.prog w = .ok (.int .i64 (logs_Shelf_Table.sp k)) w := by
  have : k = 0 ∨ k = 1 ∨ k = 2 ∨ k = 3 ∨ k = 4 ∨ k = 5 ∨ k = 6 ∨ k = 7 ∨ k = 8 ∨ k = 9 ∨ k = 10 ∨ k = 11 ∨ k = 12 ∨ k = 13 ∨ k = 14 ∨ k = 15 := by omega
  rcases this with rfl | rfl | rfl | rfl | rfl | rfl | rfl | rfl | rfl | rfl | rfl | rfl | rfl | rfl | rfl | rfl <;> rfl
theorem logs_Shelf_Table.tab_next (k : Nat) (hk : k < 16) : logs_Shelf_Table.tb k + logs_Shelf_Table.sp k = logs_Shelf_Table.tb (k + 1) := by
  have : k = 0 ∨ k = 1 ∨ k = 2 ∨ k = 3 ∨ k = 4 ∨ k = 5 ∨ k = 6 ∨ k = 7 ∨ k = 8 ∨ k = 9 ∨ k = 10 ∨ k = 11 ∨ k = 12 ∨ k = 13 ∨ k = 14 ∨ k = 15 := by omega
  rcases this with rfl | rfl | rfl | rfl | rfl | rfl | rfl | rfl | rfl | rfl | rfl | rfl | rfl | rfl | rfl | rfl <;> rfl
theorem logs_Shelf_Table.tab_range (k : Nat) : 0 ≤ logs_Shelf_Table.tb k ∧ logs_Shelf_Table.tb k ≤ 65536 := by
  by_cases h : k < 17
  · have : k = 0 ∨ k = 1 ∨ k = 2 ∨ k = 3 ∨ k = 4 ∨ k = 5 ∨ k = 6 ∨ k = 7 ∨ k = 8 ∨ k = 9 ∨ k = 10 ∨ k = 11 ∨ k = 12 ∨ k = 13 ∨ k = 14 ∨ k = 15 ∨ k = 16 := by omega
    rcases this with rfl | rfl | rfl | rfl | rfl | rfl | rfl | rfl | rfl | rfl | rfl | rfl | rfl | rfl | rfl | rfl | rfl <;> decide
  · unfold logs_Shelf_Table.tb; rw [List.getD_eq_getElem?_getD, List.getElem?_eq_none (by simp [logs_Shelf_Table.tab]; omega)]; decide
set_option maxHeartbeats 8000000 in
set_option maxRecDepth 100000 in
theorem logs_Shelf_Table.steps (w : World) : Calls Try.prog 52 #[] w fun e w' => e = .returned (.agg #[.int .i64 5732, .int .i64 5404, .int .i64 5112, .int .i64 4850, .int .i64 4613, .int .i64 4398, .int .i64 4203, .int .i64 4024, .int .i64 3860, .int .i64 3708, .int .i64 3568, .int .i64 3439, .int .i64 3318, .int .i64 3205, .int .i64 3100, .int .i64 3002]) ∧ Below w.heap.size w w' := by
  have hu := Try.underlying101
  go_enter Try.func52, Try.ntmps52
  go_wp2
  exact bodyPost_ret (v := .agg #[.int .i64 5732, .int .i64 5404, .int .i64 5112, .int .i64 4850, .int .i64 4613, .int .i64 4398, .int .i64 4203, .int .i64 4024, .int .i64 3860, .int .i64 3708, .int .i64 3568, .int .i64 3439, .int .i64 3318, .int .i64 3205, .int .i64 3100, .int .i64 3002]) (by simp [results, Try.results52, go_sem]) rfl ⟨rfl, below_alloc (Below.refl _ _) _⟩
theorem logs_Shelf_Table.bset {B : Nat} {w W : World} (h : Below B w W) {g j : Nat} {v : Value} (hg : B ≤ g) : Below B w (W.setCell ⟨g, j, none⟩ v) := h.setCell hg _
/-- what the shelf's closure does: the table is made, and counted -/
def logs_Shelf_Table.Made (w : World) (b : Nat) (e : Ending) (w' : World) : Prop := e = .returned (.tuple #[]) ∧ w'.heap[b]? = some (logs_Shelf_Table.blk 0 1 1 16) ∧ KeepBut w w' b none ∧ Below b w w'
set_option maxHeartbeats 8000000 in
set_option maxRecDepth 100000 in
theorem logs_Shelf_Table.closure (b : Nat) (pl : Addr) (hpb : pl.block ≠ b) (w : World) (hp : w.cell? pl = some (.pointer (some ⟨b, 0, none⟩))) (hb : w.heap[b]? = some (logs_Shelf_Table.blk 0 1 0 0)) :
    Calls Try.prog 51 #[.pointer (some pl)] w (logs_Shelf_Table.Made w b) := by
  have HB := Aside0.mk hb
  clear hb
  go_enter Try.func51, Try.ntmps51
  go_wp2_with (go_at_call 52; refine (logs_Shelf_Table.steps _).mono ?_; rintro e w1 ⟨rfl, hb1⟩)
  go_loopw [4] (fun v4 wr => ∃ k : Nat, k ≤ 16 ∧ v4 = .int .i64 k ∧ Aside0 (wr.heap[b]? = some (logs_Shelf_Table.blk 0 1 0 k)) ∧ Aside0 (wr.cell? pl = some (.pointer (some ⟨b, 0, none⟩))) ∧ Aside0 (KeepBut w wr b none) ∧ Aside0 (Below b w wr)) (fun v4 _ => 16 - (intOf v4).toNat)
  case atStart =>
    have hlt := World.block_lt_of_cell? _ _ hp
    exact ⟨0, by omega, rfl, ⟨(hb1.block b (blk_lt HB.out)).trans HB.out⟩, ⟨(hb1.cell hlt).trans hp⟩, ⟨KeepBut.of_below hb1 b none⟩, ⟨hb1.mono (Nat.le_of_lt (blk_lt HB.out))⟩⟩
  case round =>
    obtain ⟨k, hk, rfl, HB, HP, HK, HW⟩ := hrel
    by_cases hlt : k < 16
    · have hc1 := logs_Shelf_Table.blk_at HB.out k (by omega)
      rw [if_pos (Nat.le_refl k)] at hc1
      have hc2 := logs_Shelf_Table.blk_at HB.out (k + 1) (by omega)
      rw [if_neg (by omega)] at hc2
      have hf2 : wr.frozen? ⟨b, 4 + (k + 1), none⟩ = false := by have h := HB.out; unfold logs_Shelf_Table.blk at h; exact blk_frozen h _
      have hp2 := HP.out
      have hix := fun w => logs_Shelf_Table.stp_ix k hlt w
      have ht := logs_Shelf_Table.tab_next k hlt
      have hr1 := logs_Shelf_Table.tab_range k
      have hr2 := logs_Shelf_Table.tab_range (k + 1)
      go_wp2
      go_region
      all_goals go_wp2
      all_goals go_roundw
      case rel =>
        refine ⟨k + 1, by omega, by go_num, ⟨?_⟩, ⟨?_⟩, ⟨?_⟩, ⟨?_⟩⟩
        · have h := logs_Shelf_Table.blk_next hlt HB.out
          exact h
        · first | exact (World.cell?_setCell_other _ _ _ _ (by intro e; rw [← e] at hpb; exact hpb rfl)).trans hp2
        · repeat (first | (with_reducible first | exact HK.out | apply KeepBut.set_ | apply keep_drewN | apply keep_drew | apply keep_alloc) | exact HK.out)
        · repeat (first | (with_reducible first | exact HW.out | apply below_drew1 | refine logs_Shelf_Table.bset ?_ (Nat.le_refl _)) | exact HW.out)
      case measure => simp [intOf]; omega
    · have h3 := (logs_Shelf_Table.blk_hd HB.out).2.2
      have hf3 : wr.frozen? ⟨b, 3, none⟩ = false := by have h := HB.out; unfold logs_Shelf_Table.blk at h; exact blk_frozen h _
      have hp2 := HP.out
      have hx := fun a y W => atadd_law a y W
      have hx2 := fun a y W x => atadd_eq a y W x
      have hd : decide ((k : Int) < 16) = false := by simp; omega
      have hw1 : wrap64 1 = 1 := by unfold wrap64; omega
      have hb2 : (wr.setCell ⟨b, 3, none⟩ (.int .i64 (wrap64 1))).heap[b]? = some (logs_Shelf_Table.blk 0 1 1 16) := by
        obtain rfl : k = 16 := by omega
        have h := HB.out
        unfold logs_Shelf_Table.blk at h ⊢
        rw [hw1, blk_set h 3, Array.setIfInBounds_append_left (by simp)]
        have e : (#[.int .u32 0, .int .i32 1, .int .u32 0, .int .i64 0] : Array Value).setIfInBounds 3 (.int .i64 1) = #[.int .u32 0, .int .i32 1, .int .u32 0, .int .i64 1] := rfl
        rw [e]
      have hb2' := Aside0.mk hb2
      clear hb2 hw1
      go_wp2
      go_end0
      exact ⟨rfl, hb2'.out, by repeat (first | (with_reducible first | exact HK.out | apply KeepBut.set_ | apply keep_drewN | apply keep_drew | apply keep_alloc) | exact HK.out), by repeat (first | (with_reducible first | exact HW.out | refine logs_Shelf_Table.bset ?_ (Nat.le_refl _)) | exact HW.out)⟩
/-- 'w'' is w but for block b, and what is new. -/
def logs_Shelf_Table.Done (w : World) (b : Nat) (e : Ending) (w' : World) : Prop := e = .returned (.tuple #[]) ∧ w'.heap[b]? = some (logs_Shelf_Table.blk 1 0 1 16) ∧ KeepBut w w' b none ∧ Below b w w'
theorem logs_Shelf_Table.blk_far {W : World} {b : Nat} {d st m : Int} {k : Nat} (h : W.heap[b]? = some (logs_Shelf_Table.blk d st m k)) (i : Nat) : W.frozen? ⟨b, i, none⟩ = false := by unfold logs_Shelf_Table.blk at h; exact blk_frozen h i
theorem logs_Shelf_Table.blk_lock {W : World} {b : Nat} {d st m st' : Int} {k : Nat} (h : W.heap[b]? = some (logs_Shelf_Table.blk d st m k)) : (W.setCell ⟨b, 1, none⟩ (.int .i32 st')).heap[b]? = some (logs_Shelf_Table.blk d st' m k) := by
  unfold logs_Shelf_Table.blk at h ⊢
  rw [blk_set h 1, Array.setIfInBounds_append_left (by simp)]
  have e : (#[.int .u32 d, .int .i32 st, .int .u32 0, .int .i64 m] : Array Value).setIfInBounds 1 (.int .i32 st') = #[.int .u32 d, .int .i32 st', .int .u32 0, .int .i64 m] := rfl
  rw [e]
theorem logs_Shelf_Table.blk_done {W : World} {b : Nat} {d st m d' : Int} {k : Nat} (h : W.heap[b]? = some (logs_Shelf_Table.blk d st m k)) : (W.setCell ⟨b, 0, none⟩ (.int .u32 d')).heap[b]? = some (logs_Shelf_Table.blk d' st m k) := by
  unfold logs_Shelf_Table.blk at h ⊢
  rw [blk_set h 0, Array.setIfInBounds_append_left (by simp)]
  have e : (#[.int .u32 d, .int .i32 st, .int .u32 0, .int .i64 m] : Array Value).setIfInBounds 0 (.int .u32 d') = #[.int .u32 d', .int .i32 st, .int .u32 0, .int .i64 m] := rfl
  rw [e]
set_option maxRecDepth 100000 in
set_option maxHeartbeats 8000000 in
theorem logs_Shelf_Table.slow (b : Nat) (pl : Addr) (hpb : pl.block ≠ b) (w : World) (hp : w.cell? pl = some (.pointer (some ⟨b, 0, none⟩))) (hb : w.heap[b]? = some (logs_Shelf_Table.blk 0 0 0 0)) :
    Calls Try.prog 55 #[.pointer (some ⟨b, 0, none⟩), .func (.func 51) #[] #[.pointer (some pl)]] w (logs_Shelf_Table.Done w b) := by
  have h1 := (logs_Shelf_Table.blk_hd hb).2.1
  have f1 := logs_Shelf_Table.blk_far hb 1
  have HB := Aside0.mk (logs_Shelf_Table.blk_lock (st' := 1) hb)
  have hc0 := (logs_Shelf_Table.blk_hd HB.out).1
  have hp1 : (w.setCell ⟨b, 1, none⟩ (.int .i32 1)).cell? pl = some (.pointer (some ⟨b, 0, none⟩)) := (World.cell?_setCell_other _ ⟨b, 1, none⟩ pl _ (fun h => hpb (by rw [← h]))).trans hp
  have hl := run_call_load (P := Try.prog) Try.func57 (by kernel_rfl) (by kernel_rfl) (by kernel_rfl) .u32 (by kernel_rfl) (w := w.setCell ⟨b, 1, none⟩ (.int .i32 1)) (a := ⟨b, 0, none⟩) (x := 0) hc0
  have hnot : ∀ (x : Bool) (w : World), (Op.unary .not (.bool x)).run Try.prog w = .ok (.bool (!x)) w := fun _ _ => rfl
  clear hb
  go_enter_defers Try.func55, Try.ntmps55
  go_wp2_with (go_at_call 58; refine (logs_Shelf_Table.lock_free ⟨b, 1, none⟩ _ h1 f1).mono ?_; rintro e w' ⟨rfl, rfl⟩)
  go_wp2_with (first | (go_at_call 54; go_in) | (go_at_call 51; refine (logs_Shelf_Table.closure b pl hpb _ hp1 HB.out).mono ?_; rintro e w2 ⟨rfl, hm, hk, hw⟩))
  refine leaves_cons (f := 60) (args := #[.pointer (some ⟨b, 0, none⟩), .bool true]) (by simp) (by simp [go_sem]) ?_
  refine (logs_Shelf_Table.store_deferred ⟨b, 0, none⟩ (.int .u32 0) .returning _ (logs_Shelf_Table.blk_hd hm).1 (logs_Shelf_Table.blk_far hm 0)).mono ?_
  rintro e u' w'' ⟨rfl, rfl, rfl⟩
  have hm2 : (w2.drew.setCell ⟨b, 0, none⟩ (.int .u32 1)).heap[b]? = some (logs_Shelf_Table.blk 1 1 1 16) := logs_Shelf_Table.blk_done (W := w2.drew) hm
  refine leaves_cons (f := 59) (args := #[.pointer (some ⟨b, 1, none⟩)]) (by simp [settle]) (by simp [go_sem]) ?_
  refine (logs_Shelf_Table.unlock_deferred ⟨b, 1, none⟩ _ _ (logs_Shelf_Table.blk_hd hm2).2.1 (logs_Shelf_Table.blk_far hm2 1)).mono ?_
  rintro e u' w'' ⟨rfl, rfl, rfl⟩
  have hm3 := logs_Shelf_Table.blk_lock (st' := 0) hm2
  have hK : KeepBut w (((w2.drew.setCell ⟨b, 0, none⟩ (.int .u32 1))).setCell ⟨b, 1, none⟩ (.int .i32 0)) b none := (KeepBut.set_ (KeepBut.set_ (KeepBut.trans (KeepBut.set_ (KeepBut.refl w b none) 1 _) hk (.inl rfl)) 0 _) 1 _)
  have hW : Below b w (((w2.drew.setCell ⟨b, 0, none⟩ (.int .u32 1))).setCell ⟨b, 1, none⟩ (.int .i32 0)) := logs_Shelf_Table.bset (logs_Shelf_Table.bset (below_drew1 ((logs_Shelf_Table.bset (Below.refl b w) (Nat.le_refl _)).trans hw)) (Nat.le_refl _)) (Nat.le_refl _)
  have hD : logs_Shelf_Table.Done w b (.returned (.tuple #[])) (((w2.drew.setCell ⟨b, 0, none⟩ (.int .u32 1))).setCell ⟨b, 1, none⟩ (.int .i32 0)) := ⟨rfl, hm3, hK, hW⟩
  simpa [Leaves, settle, results, Try.results55] using hD
set_option maxRecDepth 100000 in
set_option maxHeartbeats 8000000 in
theorem logs_Shelf_Table.once_first (b : Nat) (pl : Addr) (hpb : pl.block ≠ b) (w : World) (hp : w.cell? pl = some (.pointer (some ⟨b, 0, none⟩))) (hb : w.heap[b]? = some (logs_Shelf_Table.blk 0 0 0 0)) :
    Calls Try.prog 50 #[.pointer (some ⟨b, 0, none⟩), .func (.func 51) #[] #[.pointer (some pl)]] w (logs_Shelf_Table.Done w b) := by
  have hl := run_call_load (P := Try.prog) Try.func57 (by kernel_rfl) (by kernel_rfl) (by kernel_rfl) .u32 (by kernel_rfl) (logs_Shelf_Table.blk_hd hb).1
  have hnot : ∀ (x : Bool) (w : World), (Op.unary .not (.bool x)).run Try.prog w = .ok (.bool (!x)) w := fun _ _ => rfl
  have HB := Aside0.mk hb
  clear hb
  go_enter Try.func50, Try.ntmps50
  go_wp2_with (first | (go_at_call 55; refine (logs_Shelf_Table.slow b pl hpb _ hp HB.out).mono ?_; rintro e w' ⟨rfl, hm, hk, hw⟩) | (go_at_call 54; go_in))
  go_end0
  exact ⟨rfl, hm, hk, hw⟩
set_option maxRecDepth 100000 in
theorem logs_Shelf_Table.once_done (b : Nat) (m : Int) (fv : Value) (w : World) (hb : w.heap[b]? = some (logs_Shelf_Table.blk 1 0 m 16)) :
    Calls Try.prog 50 #[.pointer (some ⟨b, 0, none⟩), fv] w fun e w' => e = .returned (.tuple #[]) ∧ w' = w := by
  have hl := run_call_load (P := Try.prog) Try.func57 (by kernel_rfl) (by kernel_rfl) (by kernel_rfl) .u32 (by kernel_rfl) (logs_Shelf_Table.blk_hd hb).1
  have hnot : ∀ (x : Bool) (w : World), (Op.unary .not (.bool x)).run Try.prog w = .ok (.bool (!x)) w := fun _ _ => rfl
  clear hb
  go_enter Try.func50, Try.ntmps50
  go_wp2
  go_end0
  exact ⟨rfl, rfl⟩
set_option maxRecDepth 100000 in
set_option maxHeartbeats 8000000 in
theorem logs_Shelf_Table.make_first (b : Nat) (w : World) (hb : w.heap[b]? = some (logs_Shelf_Table.blk 0 0 0 0)) :
    Calls Try.prog 49 #[.pointer (some ⟨b, 0, none⟩)] w (logs_Shelf_Table.Done w b) := by
  have hmf : ∀ (fn : Fn) (first cap : Array Value) (w : World), (Instr.makeFunc fn first cap).run Try.prog w = .ok (.func fn first cap) w := fun _ _ _ _ => rfl
  have hlt := blk_lt hb
  have HB : ∀ o, (w.alloc o).heap[b]? = some (logs_Shelf_Table.blk 0 0 0 0) := fun o => (below_alloc (Below.refl w.heap.size w) o).block b hlt |>.trans hb
  have HB' := Aside0.mk HB
  clear HB hb
  go_enter Try.func49, Try.ntmps49
  go_wp2_with (go_at_call 50; refine (logs_Shelf_Table.once_first b ⟨w.heap.size, 0, none⟩ (by simp; omega) _ (by simp) (HB'.out _)).mono ?_; rintro e w' ⟨rfl, hm, hk, hw⟩)
  go_end0
  exact ⟨rfl, hm, (keep_alloc (KeepBut.refl w b none) _).trans hk (.inl rfl), ((below_alloc (Below.refl w.heap.size w) _).mono (Nat.le_of_lt hlt)).trans hw⟩
set_option maxRecDepth 100000 in
set_option maxHeartbeats 8000000 in
theorem logs_Shelf_Table.make_done (b : Nat) (m : Int) (w : World) (hb : w.heap[b]? = some (logs_Shelf_Table.blk 1 0 m 16)) :
    Calls Try.prog 49 #[.pointer (some ⟨b, 0, none⟩)] w fun e w' => e = .returned (.tuple #[]) ∧ Below w.heap.size w w' := by
  have hmf : ∀ (fn : Fn) (first cap : Array Value) (w : World), (Instr.makeFunc fn first cap).run Try.prog w = .ok (.func fn first cap) w := fun _ _ _ _ => rfl
  have hlt := blk_lt hb
  have HB : ∀ o, (w.alloc o).heap[b]? = some (logs_Shelf_Table.blk 1 0 m 16) := fun o => (below_alloc (Below.refl w.heap.size w) o).block b hlt |>.trans hb
  have HB' := Aside0.mk HB
  clear HB hb
  go_enter Try.func49, Try.ntmps49
  go_wp2_with (go_at_call 50; refine (logs_Shelf_Table.once_done b m _ _ (HB'.out _)).mono ?_; rintro e w' ⟨rfl, rfl⟩)
  go_end0
  exact ⟨rfl, below_alloc (Below.refl _ _) _⟩
theorem logs_Shelf_Table.cells16 {W : World} {b : Nat} {d st m : Int} (h : W.heap[b]? = some (logs_Shelf_Table.blk d st m 16)) : W.cell? ⟨b, 4, none⟩ = some (.int .i64 0) ∧ W.cell? ⟨b, 5, none⟩ = some (.int .i64 5732) ∧ W.cell? ⟨b, 6, none⟩ = some (.int .i64 11136) ∧ W.cell? ⟨b, 7, none⟩ = some (.int .i64 16248) ∧ W.cell? ⟨b, 8, none⟩ = some (.int .i64 21098) ∧ W.cell? ⟨b, 9, none⟩ = some (.int .i64 25711) ∧ W.cell? ⟨b, 10, none⟩ = some (.int .i64 30109) ∧ W.cell? ⟨b, 11, none⟩ = some (.int .i64 34312) ∧ W.cell? ⟨b, 12, none⟩ = some (.int .i64 38336) ∧ W.cell? ⟨b, 13, none⟩ = some (.int .i64 42196) ∧ W.cell? ⟨b, 14, none⟩ = some (.int .i64 45904) ∧ W.cell? ⟨b, 15, none⟩ = some (.int .i64 49472) ∧ W.cell? ⟨b, 16, none⟩ = some (.int .i64 52911) ∧ W.cell? ⟨b, 17, none⟩ = some (.int .i64 56229) ∧ W.cell? ⟨b, 18, none⟩ = some (.int .i64 59434) ∧ W.cell? ⟨b, 19, none⟩ = some (.int .i64 62534) ∧ W.cell? ⟨b, 20, none⟩ = some (.int .i64 65536) :=
  ⟨logs_Shelf_Table.blk_at h 0 (by omega), logs_Shelf_Table.blk_at h 1 (by omega), logs_Shelf_Table.blk_at h 2 (by omega), logs_Shelf_Table.blk_at h 3 (by omega), logs_Shelf_Table.blk_at h 4 (by omega), logs_Shelf_Table.blk_at h 5 (by omega), logs_Shelf_Table.blk_at h 6 (by omega), logs_Shelf_Table.blk_at h 7 (by omega), logs_Shelf_Table.blk_at h 8 (by omega), logs_Shelf_Table.blk_at h 9 (by omega), logs_Shelf_Table.blk_at h 10 (by omega), logs_Shelf_Table.blk_at h 11 (by omega), logs_Shelf_Table.blk_at h 12 (by omega), logs_Shelf_Table.blk_at h 13 (by omega), logs_Shelf_Table.blk_at h 14 (by omega), logs_Shelf_Table.blk_at h 15 (by omega), logs_Shelf_Table.blk_at h 16 (by omega)⟩
theorem logs_Shelf_Table.zeros {W : World} {b : Nat} (h : W.heap[b]? = some (.cells #[.int .i64 0, .int .i64 0, .int .i64 0, .int .i64 0, .int .i64 0, .int .i64 0, .int .i64 0, .int .i64 0, .int .i64 0, .int .i64 0, .int .i64 0, .int .i64 0, .int .i64 0, .int .i64 0, .int .i64 0, .int .i64 0, .int .i64 0] 69)) : (W.cell? ⟨b, 0, none⟩ = some (.int .i64 0) ∧ W.frozen? ⟨b, 0, none⟩ = false) ∧ (W.cell? ⟨b, 1, none⟩ = some (.int .i64 0) ∧ W.frozen? ⟨b, 1, none⟩ = false) ∧ (W.cell? ⟨b, 2, none⟩ = some (.int .i64 0) ∧ W.frozen? ⟨b, 2, none⟩ = false) ∧ (W.cell? ⟨b, 3, none⟩ = some (.int .i64 0) ∧ W.frozen? ⟨b, 3, none⟩ = false) ∧ (W.cell? ⟨b, 4, none⟩ = some (.int .i64 0) ∧ W.frozen? ⟨b, 4, none⟩ = false) ∧ (W.cell? ⟨b, 5, none⟩ = some (.int .i64 0) ∧ W.frozen? ⟨b, 5, none⟩ = false) ∧ (W.cell? ⟨b, 6, none⟩ = some (.int .i64 0) ∧ W.frozen? ⟨b, 6, none⟩ = false) ∧ (W.cell? ⟨b, 7, none⟩ = some (.int .i64 0) ∧ W.frozen? ⟨b, 7, none⟩ = false) ∧ (W.cell? ⟨b, 8, none⟩ = some (.int .i64 0) ∧ W.frozen? ⟨b, 8, none⟩ = false) ∧ (W.cell? ⟨b, 9, none⟩ = some (.int .i64 0) ∧ W.frozen? ⟨b, 9, none⟩ = false) ∧ (W.cell? ⟨b, 10, none⟩ = some (.int .i64 0) ∧ W.frozen? ⟨b, 10, none⟩ = false) ∧ (W.cell? ⟨b, 11, none⟩ = some (.int .i64 0) ∧ W.frozen? ⟨b, 11, none⟩ = false) ∧ (W.cell? ⟨b, 12, none⟩ = some (.int .i64 0) ∧ W.frozen? ⟨b, 12, none⟩ = false) ∧ (W.cell? ⟨b, 13, none⟩ = some (.int .i64 0) ∧ W.frozen? ⟨b, 13, none⟩ = false) ∧ (W.cell? ⟨b, 14, none⟩ = some (.int .i64 0) ∧ W.frozen? ⟨b, 14, none⟩ = false) ∧ (W.cell? ⟨b, 15, none⟩ = some (.int .i64 0) ∧ W.frozen? ⟨b, 15, none⟩ = false) ∧ (W.cell? ⟨b, 16, none⟩ = some (.int .i64 0) ∧ W.frozen? ⟨b, 16, none⟩ = false) :=
  ⟨⟨(blk_cell h 0).trans rfl, blk_frozen h 0⟩, ⟨(blk_cell h 1).trans rfl, blk_frozen h 1⟩, ⟨(blk_cell h 2).trans rfl, blk_frozen h 2⟩, ⟨(blk_cell h 3).trans rfl, blk_frozen h 3⟩, ⟨(blk_cell h 4).trans rfl, blk_frozen h 4⟩, ⟨(blk_cell h 5).trans rfl, blk_frozen h 5⟩, ⟨(blk_cell h 6).trans rfl, blk_frozen h 6⟩, ⟨(blk_cell h 7).trans rfl, blk_frozen h 7⟩, ⟨(blk_cell h 8).trans rfl, blk_frozen h 8⟩, ⟨(blk_cell h 9).trans rfl, blk_frozen h 9⟩, ⟨(blk_cell h 10).trans rfl, blk_frozen h 10⟩, ⟨(blk_cell h 11).trans rfl, blk_frozen h 11⟩, ⟨(blk_cell h 12).trans rfl, blk_frozen h 12⟩, ⟨(blk_cell h 13).trans rfl, blk_frozen h 13⟩, ⟨(blk_cell h 14).trans rfl, blk_frozen h 14⟩, ⟨(blk_cell h 15).trans rfl, blk_frozen h 15⟩, ⟨(blk_cell h 16).trans rfl, blk_frozen h 16⟩⟩
set_option maxRecDepth 100000 in
set_option maxHeartbeats 8000000 in
theorem logs_Shelf_Table.table_first (b : Nat) (w : World) (hb : w.heap[b]? = some (logs_Shelf_Table.blk 0 0 0 0)) :
    Calls Try.prog 47 #[.pointer (some ⟨b, 0, none⟩)] w fun e w' => e = .returned (.agg #[.int .i64 0, .int .i64 5732, .int .i64 11136, .int .i64 16248, .int .i64 21098, .int .i64 25711, .int .i64 30109, .int .i64 34312, .int .i64 38336, .int .i64 42196, .int .i64 45904, .int .i64 49472, .int .i64 52911, .int .i64 56229, .int .i64 59434, .int .i64 62534, .int .i64 65536]) ∧ w'.heap[b]? = some (logs_Shelf_Table.blk 1 0 1 16) ∧ KeepBut w w' b none ∧ Below b w w' := by
  have hlt := blk_lt hb
  have HB : ∀ o, (w.alloc o).heap[b]? = some (logs_Shelf_Table.blk 0 0 0 0) := fun o => (below_alloc (Below.refl w.heap.size w) o).block b hlt |>.trans hb
  have HB' := Aside0.mk HB
  have hne : ¬ (w.heap.size = b) := by omega
  clear HB hb
  go_enter Try.func47, Try.ntmps47
  go_wp2_with (go_at_call 49; refine (logs_Shelf_Table.make_first b _ (HB'.out _)).mono ?_; rintro e w2 ⟨rfl, hm, hk, hw⟩; (have hn : w2.heap[w.heap.size]? = some (.cells #[.int .i64 0, .int .i64 0, .int .i64 0, .int .i64 0, .int .i64 0, .int .i64 0, .int .i64 0, .int .i64 0, .int .i64 0, .int .i64 0, .int .i64 0, .int .i64 0, .int .i64 0, .int .i64 0, .int .i64 0, .int .i64 0, .int .i64 0] 69) := (hk.2 w.heap.size (by simp) hne (by simp)).trans (heap_alloc_new w _)); obtain ⟨c0, c1, c2, c3, c4, c5, c6, c7, c8, c9, c10, c11, c12, c13, c14, c15, c16⟩ := logs_Shelf_Table.cells16 hm; obtain ⟨⟨z0, f0⟩, ⟨z1, f1⟩, ⟨z2, f2⟩, ⟨z3, f3⟩, ⟨z4, f4⟩, ⟨z5, f5⟩, ⟨z6, f6⟩, ⟨z7, f7⟩, ⟨z8, f8⟩, ⟨z9, f9⟩, ⟨z10, f10⟩, ⟨z11, f11⟩, ⟨z12, f12⟩, ⟨z13, f13⟩, ⟨z14, f14⟩, ⟨z15, f15⟩, ⟨z16, f16⟩⟩ := logs_Shelf_Table.zeros hn; (have Hm := Aside0.mk hm); (have Hk := Aside0.mk hk); (have Hw := Aside0.mk hw); clear hw; (have Hn := Aside0.mk hn); clear hm hk hn)
  refine bodyPost_ret (v := .agg #[.int .i64 0, .int .i64 5732, .int .i64 11136, .int .i64 16248, .int .i64 21098, .int .i64 25711, .int .i64 30109, .int .i64 34312, .int .i64 38336, .int .i64 42196, .int .i64 45904, .int .i64 49472, .int .i64 52911, .int .i64 56229, .int .i64 59434, .int .i64 62534, .int .i64 65536]) (results_cell_row Try.results47 _ _ w.heap.size 69 #[.int .i64 0, .int .i64 5732, .int .i64 11136, .int .i64 16248, .int .i64 21098, .int .i64 25711, .int .i64 30109, .int .i64 34312, .int .i64 38336, .int .i64 42196, .int .i64 45904, .int .i64 49472, .int .i64 52911, .int .i64 56229, .int .i64 59434, .int .i64 62534, .int .i64 65536] (0, 0) _ rfl (blk_set (blk_set (blk_set (blk_set (blk_set (blk_set (blk_set (blk_set (blk_set (blk_set (blk_set (blk_set (blk_set (blk_set (blk_set (blk_set (blk_set Hn.out 0 (.int .i64 0)) 1 (.int .i64 5732)) 2 (.int .i64 11136)) 3 (.int .i64 16248)) 4 (.int .i64 21098)) 5 (.int .i64 25711)) 6 (.int .i64 30109)) 7 (.int .i64 34312)) 8 (.int .i64 38336)) 9 (.int .i64 42196)) 10 (.int .i64 45904)) 11 (.int .i64 49472)) 12 (.int .i64 52911)) 13 (.int .i64 56229)) 14 (.int .i64 59434)) 15 (.int .i64 62534)) 16 (.int .i64 65536)) Try.underlying69 rfl (by kernel_rfl)) rfl ⟨rfl, ?_, ?_, ?_⟩
  · repeat (refine (Below.heap_setCell _ _ _ b (fun e => hne e.symm)).trans ?_)
    exact Hm.out
  · repeat (refine keep_far ?_ (Nat.le_refl _) _)
    exact (keep_alloc (KeepBut.refl w b none) _).trans Hk.out (.inl rfl)
  · repeat (refine logs_Shelf_Table.bset ?_ (Nat.le_of_lt hlt))
    exact ((below_alloc (Below.refl w.heap.size w) _).mono (Nat.le_of_lt hlt)).trans Hw.out
set_option maxRecDepth 100000 in
set_option maxHeartbeats 8000000 in
theorem logs_Shelf_Table.table_done (b : Nat) (m : Int) (w : World) (hb : w.heap[b]? = some (logs_Shelf_Table.blk 1 0 m 16)) :
    Calls Try.prog 47 #[.pointer (some ⟨b, 0, none⟩)] w fun e w' => e = .returned (.agg #[.int .i64 0, .int .i64 5732, .int .i64 11136, .int .i64 16248, .int .i64 21098, .int .i64 25711, .int .i64 30109, .int .i64 34312, .int .i64 38336, .int .i64 42196, .int .i64 45904, .int .i64 49472, .int .i64 52911, .int .i64 56229, .int .i64 59434, .int .i64 62534, .int .i64 65536]) ∧ Below w.heap.size w w' := by
  have hlt := blk_lt hb
  have HB : ∀ o, (w.alloc o).heap[b]? = some (logs_Shelf_Table.blk 1 0 m 16) := fun o => (below_alloc (Below.refl w.heap.size w) o).block b hlt |>.trans hb
  have HB' := Aside0.mk HB
  have hne : ¬ (w.heap.size = b) := by omega
  clear HB hb
  go_enter Try.func47, Try.ntmps47
  go_wp2_with (go_at_call 49; refine (logs_Shelf_Table.make_done b m _ (HB'.out _)).mono ?_; rintro e w2 ⟨rfl, hk⟩; (have hn : w2.heap[w.heap.size]? = some (.cells #[.int .i64 0, .int .i64 0, .int .i64 0, .int .i64 0, .int .i64 0, .int .i64 0, .int .i64 0, .int .i64 0, .int .i64 0, .int .i64 0, .int .i64 0, .int .i64 0, .int .i64 0, .int .i64 0, .int .i64 0, .int .i64 0, .int .i64 0] 69) := (hk.block w.heap.size (by simp)).trans (heap_alloc_new w _)); (have hm : w2.heap[b]? = some (logs_Shelf_Table.blk 1 0 m 16) := (hk.block b (by simp; omega)).trans (HB'.out _)); obtain ⟨c0, c1, c2, c3, c4, c5, c6, c7, c8, c9, c10, c11, c12, c13, c14, c15, c16⟩ := logs_Shelf_Table.cells16 hm; obtain ⟨⟨z0, f0⟩, ⟨z1, f1⟩, ⟨z2, f2⟩, ⟨z3, f3⟩, ⟨z4, f4⟩, ⟨z5, f5⟩, ⟨z6, f6⟩, ⟨z7, f7⟩, ⟨z8, f8⟩, ⟨z9, f9⟩, ⟨z10, f10⟩, ⟨z11, f11⟩, ⟨z12, f12⟩, ⟨z13, f13⟩, ⟨z14, f14⟩, ⟨z15, f15⟩, ⟨z16, f16⟩⟩ := logs_Shelf_Table.zeros hn; (have Hk := Aside0.mk hk); (have Hn := Aside0.mk hn); clear hm hk hn)
  refine bodyPost_ret (v := .agg #[.int .i64 0, .int .i64 5732, .int .i64 11136, .int .i64 16248, .int .i64 21098, .int .i64 25711, .int .i64 30109, .int .i64 34312, .int .i64 38336, .int .i64 42196, .int .i64 45904, .int .i64 49472, .int .i64 52911, .int .i64 56229, .int .i64 59434, .int .i64 62534, .int .i64 65536]) (results_cell_row Try.results47 _ _ w.heap.size 69 #[.int .i64 0, .int .i64 5732, .int .i64 11136, .int .i64 16248, .int .i64 21098, .int .i64 25711, .int .i64 30109, .int .i64 34312, .int .i64 38336, .int .i64 42196, .int .i64 45904, .int .i64 49472, .int .i64 52911, .int .i64 56229, .int .i64 59434, .int .i64 62534, .int .i64 65536] (0, 0) _ rfl (blk_set (blk_set (blk_set (blk_set (blk_set (blk_set (blk_set (blk_set (blk_set (blk_set (blk_set (blk_set (blk_set (blk_set (blk_set (blk_set (blk_set Hn.out 0 (.int .i64 0)) 1 (.int .i64 5732)) 2 (.int .i64 11136)) 3 (.int .i64 16248)) 4 (.int .i64 21098)) 5 (.int .i64 25711)) 6 (.int .i64 30109)) 7 (.int .i64 34312)) 8 (.int .i64 38336)) 9 (.int .i64 42196)) 10 (.int .i64 45904)) 11 (.int .i64 49472)) 12 (.int .i64 52911)) 13 (.int .i64 56229)) 14 (.int .i64 59434)) 15 (.int .i64 62534)) 16 (.int .i64 65536)) Try.underlying69 rfl (by kernel_rfl)) rfl ⟨rfl, ?_⟩
  repeat (refine below_set ?_ (Nat.le_refl _))
  exact below_step (below_alloc (Below.refl w.heap.size w) _) Hk.out
def logs_Shelf_Table.f (s0_0 : Int) (s0_1 : Int) (s0_2 : Int) (s0_3 : Int) (s0_4 : Int) (s0_5 : Int) (s0_6 : Int) (s0_7 : Int) (s0_8 : Int) (s0_9 : Int) (s0_10 : Int) (s0_11 : Int) (s0_12 : Int) (s0_13 : Int) (s0_14 : Int) (s0_15 : Int) (s0_16 : Int) (s0_17 : Int) (s0_18 : Int) (s0_19 : Int) (s0_20 : Int) : Option (Int × Int × Int × Int × Int × Int × Int × Int × Int × Int × Int × Int × Int × Int × Int × Int × Int × Int × Int × Int × Int × Int × Int × Int × Int × Int × Int × Int × Int × Int × Int × Int × Int × Int × Int × Int × Int × Int) :=
  if s0_0 = 0 ∧ s0_1 = 0 ∧ s0_2 = 0 ∧ s0_3 = 0 ∧ s0_4 = 0 ∧ s0_5 = 0 ∧ s0_6 = 0 ∧ s0_7 = 0 ∧ s0_8 = 0 ∧ s0_9 = 0 ∧ s0_10 = 0 ∧ s0_11 = 0 ∧ s0_12 = 0 ∧ s0_13 = 0 ∧ s0_14 = 0 ∧ s0_15 = 0 ∧ s0_16 = 0 ∧ s0_17 = 0 ∧ s0_18 = 0 ∧ s0_19 = 0 ∧ s0_20 = 0 then some (0, 5732, 11136, 16248, 21098, 25711, 30109, 34312, 38336, 42196, 45904, 49472, 52911, 56229, 59434, 62534, 65536, 1, 0, 0, 1, 0, 5732, 11136, 16248, 21098, 25711, 30109, 34312, 38336, 42196, 45904, 49472, 52911, 56229, 59434, 62534, 65536)
  else if s0_0 = 1 ∧ s0_1 = 0 ∧ s0_2 = 0 ∧ s0_4 = 0 ∧ s0_5 = 5732 ∧ s0_6 = 11136 ∧ s0_7 = 16248 ∧ s0_8 = 21098 ∧ s0_9 = 25711 ∧ s0_10 = 30109 ∧ s0_11 = 34312 ∧ s0_12 = 38336 ∧ s0_13 = 42196 ∧ s0_14 = 45904 ∧ s0_15 = 49472 ∧ s0_16 = 52911 ∧ s0_17 = 56229 ∧ s0_18 = 59434 ∧ s0_19 = 62534 ∧ s0_20 = 65536 then some (0, 5732, 11136, 16248, 21098, 25711, 30109, 34312, 38336, 42196, 45904, 49472, 52911, 56229, 59434, 62534, 65536, 1, 0, 0, s0_3, 0, 5732, 11136, 16248, 21098, 25711, 30109, 34312, 38336, 42196, 45904, 49472, 52911, 56229, 59434, 62534, 65536) else none
set_option maxRecDepth 100000 in
set_option maxHeartbeats 8000000 in
theorem logs_Shelf_Table.calls (g : Nat) (s0_0 : Int) (s0_1 : Int) (s0_2 : Int) (s0_3 : Int) (s0_4 : Int) (s0_5 : Int) (s0_6 : Int) (s0_7 : Int) (s0_8 : Int) (s0_9 : Int) (s0_10 : Int) (s0_11 : Int) (s0_12 : Int) (s0_13 : Int) (s0_14 : Int) (s0_15 : Int) (s0_16 : Int) (s0_17 : Int) (s0_18 : Int) (s0_19 : Int) (s0_20 : Int) (r1 : Int) (r2 : Int) (r3 : Int) (r4 : Int) (r5 : Int) (r6 : Int) (r7 : Int) (r8 : Int) (r9 : Int) (r10 : Int) (r11 : Int) (r12 : Int) (r13 : Int) (r14 : Int) (r15 : Int) (r16 : Int) (r17 : Int) (r18 : Int) (r19 : Int) (r20 : Int) (r21 : Int) (r22 : Int) (r23 : Int) (r24 : Int) (r25 : Int) (r26 : Int) (r27 : Int) (r28 : Int) (r29 : Int) (r30 : Int) (r31 : Int) (r32 : Int) (r33 : Int) (r34 : Int) (r35 : Int) (r36 : Int) (r37 : Int) (r38 : Int) (w0 w : World) (hI : IsS99 w0 w g s0_0 s0_1 s0_2 s0_3 s0_4 s0_5 s0_6 s0_7 s0_8 s0_9 s0_10 s0_11 s0_12 s0_13 s0_14 s0_15 s0_16 s0_17 s0_18 s0_19 s0_20) (hB : Below w0.heap.size w0 w) (h : logs_Shelf_Table.f s0_0 s0_1 s0_2 s0_3 s0_4 s0_5 s0_6 s0_7 s0_8 s0_9 s0_10 s0_11 s0_12 s0_13 s0_14 s0_15 s0_16 s0_17 s0_18 s0_19 s0_20 = some (r1, r2, r3, r4, r5, r6, r7, r8, r9, r10, r11, r12, r13, r14, r15, r16, r17, r18, r19, r20, r21, r22, r23, r24, r25, r26, r27, r28, r29, r30, r31, r32, r33, r34, r35, r36, r37, r38)) :
    Calls Try.prog 47 #[.pointer (some ⟨g, 0, none⟩)] w fun e w' => e = .returned (.agg #[.int .i64 r1, .int .i64 r2, .int .i64 r3, .int .i64 r4, .int .i64 r5, .int .i64 r6, .int .i64 r7, .int .i64 r8, .int .i64 r9, .int .i64 r10, .int .i64 r11, .int .i64 r12, .int .i64 r13, .int .i64 r14, .int .i64 r15, .int .i64 r16, .int .i64 r17]) ∧ IsS99 w0 w' g r18 r19 r20 r21 r22 r23 r24 r25 r26 r27 r28 r29 r30 r31 r32 r33 r34 r35 r36 r37 r38 ∧ Below w0.heap.size w0 w' ∧ KeepBut w w' g none := by
  unfold logs_Shelf_Table.f at h
  split at h
  · rename_i hc
    obtain ⟨rfl, rfl, rfl, rfl, rfl, rfl, rfl, rfl, rfl, rfl, rfl, rfl, rfl, rfl, rfl, rfl, rfl, rfl, rfl, rfl, rfl⟩ := hc
    simp only [Option.some.injEq, Prod.mk.injEq] at h
    obtain ⟨rfl, rfl, rfl, rfl, rfl, rfl, rfl, rfl, rfl, rfl, rfl, rfl, rfl, rfl, rfl, rfl, rfl, rfl, rfl, rfl, rfl, rfl, rfl, rfl, rfl, rfl, rfl, rfl, rfl, rfl, rfl, rfl, rfl, rfl, rfl, rfl, rfl, rfl⟩ := h
    have hg := hI.2
    refine (logs_Shelf_Table.table_first g w hI.1).mono ?_
    rintro e w' ⟨rfl, hm, hk, hb⟩
    exact ⟨rfl, ⟨hm, hg⟩, hB.trans (hb.mono hg), hk⟩
  · split at h
    · rename_i hc
      obtain ⟨rfl, rfl, rfl, rfl, rfl, rfl, rfl, rfl, rfl, rfl, rfl, rfl, rfl, rfl, rfl, rfl, rfl, rfl, rfl, rfl⟩ := hc
      simp only [Option.some.injEq, Prod.mk.injEq] at h
      obtain ⟨rfl, rfl, rfl, rfl, rfl, rfl, rfl, rfl, rfl, rfl, rfl, rfl, rfl, rfl, rfl, rfl, rfl, rfl, rfl, rfl, rfl, rfl, rfl, rfl, rfl, rfl, rfl, rfl, rfl, rfl, rfl, rfl, rfl, rfl, rfl, rfl, rfl, rfl⟩ := h
      have hg := hI.2
      refine (logs_Shelf_Table.table_done g s0_3 w hI.1).mono ?_
      rintro e w' ⟨rfl, hb⟩
      exact ⟨rfl, ⟨(hb.block g (blk_lt hI.1)).trans hI.1, hg⟩, below_step hB hb, KeepBut.of_below hb g none⟩
    · cases h

/-! ### logs_Table: function 42 (told by hand) -/
set_option maxRecDepth 100000 in
set_option maxHeartbeats 8000000 in
theorem logs_Table.table (w : World) : Calls Try.prog 42 #[] w fun e w' => e = .returned (.agg #[.int .i64 0, .int .i64 5732, .int .i64 11136, .int .i64 16248, .int .i64 21098, .int .i64 25711, .int .i64 30109, .int .i64 34312, .int .i64 38336, .int .i64 42196, .int .i64 45904, .int .i64 49472, .int .i64 52911, .int .i64 56229, .int .i64 59434, .int .i64 62534, .int .i64 65536]) ∧ Below w.heap.size w w' := by
  have hu := Try.underlying99
  have HN : ∀ W : World, (W.alloc (.cells #[.int .u32 0, .int .i32 0, .int .u32 0, .int .i64 0, .int .i64 0, .int .i64 0, .int .i64 0, .int .i64 0, .int .i64 0, .int .i64 0, .int .i64 0, .int .i64 0, .int .i64 0, .int .i64 0, .int .i64 0, .int .i64 0, .int .i64 0, .int .i64 0, .int .i64 0, .int .i64 0, .int .i64 0] 99)).heap[W.heap.size]? = some (logs_Shelf_Table.blk 0 0 0 0) := fun W => (heap_alloc_new W _).trans rfl
  have HN' := Aside0.mk HN
  clear HN
  go_enter Try.func42, Try.ntmps42
  go_wp2_with (first | (go_at_call 46; go_in) | (go_at_call 47; refine (logs_Shelf_Table.table_first (w.heap.size + 1) _ ?c1).mono ?_; (case c1 => simpa using HN'.out (w.alloc (.cells #[.int .i64 0, .int .i64 0, .int .i64 0, .int .i64 0, .int .i64 0, .int .i64 0, .int .i64 0, .int .i64 0, .int .i64 0, .int .i64 0, .int .i64 0, .int .i64 0, .int .i64 0, .int .i64 0, .int .i64 0, .int .i64 0, .int .i64 0] 69))); rintro e w2 ⟨rfl, hm, hk, hw⟩; (have hn : w2.heap[w.heap.size]? = some (.cells #[.int .i64 0, .int .i64 0, .int .i64 0, .int .i64 0, .int .i64 0, .int .i64 0, .int .i64 0, .int .i64 0, .int .i64 0, .int .i64 0, .int .i64 0, .int .i64 0, .int .i64 0, .int .i64 0, .int .i64 0, .int .i64 0, .int .i64 0] 69) := (hk.2 w.heap.size (by simp; omega) (by omega) (by simp)).trans (((below_alloc (Below.refl _ (w.alloc (.cells #[.int .i64 0, .int .i64 0, .int .i64 0, .int .i64 0, .int .i64 0, .int .i64 0, .int .i64 0, .int .i64 0, .int .i64 0, .int .i64 0, .int .i64 0, .int .i64 0, .int .i64 0, .int .i64 0, .int .i64 0, .int .i64 0, .int .i64 0] 69))) _).block w.heap.size (by simp)).trans (heap_alloc_new w _))); obtain ⟨⟨z0, f0⟩, ⟨z1, f1⟩, ⟨z2, f2⟩, ⟨z3, f3⟩, ⟨z4, f4⟩, ⟨z5, f5⟩, ⟨z6, f6⟩, ⟨z7, f7⟩, ⟨z8, f8⟩, ⟨z9, f9⟩, ⟨z10, f10⟩, ⟨z11, f11⟩, ⟨z12, f12⟩, ⟨z13, f13⟩, ⟨z14, f14⟩, ⟨z15, f15⟩, ⟨z16, f16⟩⟩ := logs_Shelf_Table.zeros hn; (have Hw := Aside0.mk hw); (have Hn := Aside0.mk hn); clear hm hk hn hw))
  refine bodyPost_ret (v := .agg #[.int .i64 0, .int .i64 5732, .int .i64 11136, .int .i64 16248, .int .i64 21098, .int .i64 25711, .int .i64 30109, .int .i64 34312, .int .i64 38336, .int .i64 42196, .int .i64 45904, .int .i64 49472, .int .i64 52911, .int .i64 56229, .int .i64 59434, .int .i64 62534, .int .i64 65536]) (results_cell_row Try.results42 _ _ w.heap.size 69 #[.int .i64 0, .int .i64 5732, .int .i64 11136, .int .i64 16248, .int .i64 21098, .int .i64 25711, .int .i64 30109, .int .i64 34312, .int .i64 38336, .int .i64 42196, .int .i64 45904, .int .i64 49472, .int .i64 52911, .int .i64 56229, .int .i64 59434, .int .i64 62534, .int .i64 65536] (0, 0) _ rfl (blk_set (blk_set (blk_set (blk_set (blk_set (blk_set (blk_set (blk_set (blk_set (blk_set (blk_set (blk_set (blk_set (blk_set (blk_set (blk_set (blk_set Hn.out 0 (.int .i64 0)) 1 (.int .i64 5732)) 2 (.int .i64 11136)) 3 (.int .i64 16248)) 4 (.int .i64 21098)) 5 (.int .i64 25711)) 6 (.int .i64 30109)) 7 (.int .i64 34312)) 8 (.int .i64 38336)) 9 (.int .i64 42196)) 10 (.int .i64 45904)) 11 (.int .i64 49472)) 12 (.int .i64 52911)) 13 (.int .i64 56229)) 14 (.int .i64 59434)) 15 (.int .i64 62534)) 16 (.int .i64 65536)) Try.underlying69 rfl (by kernel_rfl)) rfl ⟨rfl, ?_⟩
  repeat (refine below_set ?_ (Nat.le_refl _))
  have h2 : Below w.heap.size w ((w.alloc (.cells #[.int .i64 0, .int .i64 0, .int .i64 0, .int .i64 0, .int .i64 0, .int .i64 0, .int .i64 0, .int .i64 0, .int .i64 0, .int .i64 0, .int .i64 0, .int .i64 0, .int .i64 0, .int .i64 0, .int .i64 0, .int .i64 0, .int .i64 0] 69)).alloc (.cells #[.int .u32 0, .int .i32 0, .int .u32 0, .int .i64 0, .int .i64 0, .int .i64 0, .int .i64 0, .int .i64 0, .int .i64 0, .int .i64 0, .int .i64 0, .int .i64 0, .int .i64 0, .int .i64 0, .int .i64 0, .int .i64 0, .int .i64 0, .int .i64 0, .int .i64 0, .int .i64 0, .int .i64 0] 99)) := below_alloc (below_alloc (Below.refl w.heap.size w) _) _
  exact h2.trans (Hw.out.mono (Nat.le_succ _))
def logs_Table.f : Option (Int × Int × Int × Int × Int × Int × Int × Int × Int × Int × Int × Int × Int × Int × Int × Int × Int) := some (0, 5732, 11136, 16248, 21098, 25711, 30109, 34312, 38336, 42196, 45904, 49472, 52911, 56229, 59434, 62534, 65536)
theorem logs_Table.calls (r1 : Int) (r2 : Int) (r3 : Int) (r4 : Int) (r5 : Int) (r6 : Int) (r7 : Int) (r8 : Int) (r9 : Int) (r10 : Int) (r11 : Int) (r12 : Int) (r13 : Int) (r14 : Int) (r15 : Int) (r16 : Int) (r17 : Int) (w : World) (h : logs_Table.f = some (r1, r2, r3, r4, r5, r6, r7, r8, r9, r10, r11, r12, r13, r14, r15, r16, r17)) : Calls Try.prog 42 #[] w fun e w' => e = .returned (.agg #[.int .i64 r1, .int .i64 r2, .int .i64 r3, .int .i64 r4, .int .i64 r5, .int .i64 r6, .int .i64 r7, .int .i64 r8, .int .i64 r9, .int .i64 r10, .int .i64 r11, .int .i64 r12, .int .i64 r13, .int .i64 r14, .int .i64 r15, .int .i64 r16, .int .i64 r17]) ∧ Below w.heap.size w w' := by
  simp only [logs_Table.f, Option.some.injEq, Prod.mk.injEq] at h
  obtain ⟨rfl, rfl, rfl, rfl, rfl, rfl, rfl, rfl, rfl, rfl, rfl, rfl, rfl, rfl, rfl, rfl, rfl⟩ := h
  exact logs_Table.table w

/-! ### logs_Log: function 32 (told by hand) -/
theorem logs_Log.row_at (w : World) (k : Nat) (hk : k < 17) : (w.alloc (.cells #[.int .i64 0, .int .i64 5732, .int .i64 11136, .int .i64 16248, .int .i64 21098, .int .i64 25711, .int .i64 30109, .int .i64 34312, .int .i64 38336, .int .i64 42196, .int .i64 45904, .int .i64 49472, .int .i64 52911, .int .i64 56229, .int .i64 59434, .int .i64 62534, .int .i64 65536] 69)).cell? ⟨w.heap.size, k, none⟩ = some (.int .i64 (logs_Shelf_Table.tb k)) := by
  refine (blk_cell (heap_alloc_new w (.cells #[.int .i64 0, .int .i64 5732, .int .i64 11136, .int .i64 16248, .int .i64 21098, .int .i64 25711, .int .i64 30109, .int .i64 34312, .int .i64 38336, .int .i64 42196, .int .i64 45904, .int .i64 49472, .int .i64 52911, .int .i64 56229, .int .i64 59434, .int .i64 62534, .int .i64 65536] 69)) k).trans ?_
  have : k = 0 ∨ k = 1 ∨ k = 2 ∨ k = 3 ∨ k = 4 ∨ k = 5 ∨ k = 6 ∨ k = 7 ∨ k = 8 ∨ k = 9 ∨ k = 10 ∨ k = 11 ∨ k = 12 ∨ k = 13 ∨ k = 14 ∨ k = 15 ∨ k = 16 := by omega
  rcases this with rfl | rfl | rfl | rfl | rfl | rfl | rfl | rfl | rfl | rfl | rfl | rfl | rfl | rfl | rfl | rfl | rfl <;> rfl
def logs_Log.L (a : Int) : Int := (Lib.bitLen a.toNat : Int)
def logs_Log.m (a : Int) : Int := IntKind.u64.wrap (a * 2 ^ (63 - (logs_Log.L a - 1)).toNat)
def logs_Log.i (a : Int) : Int := logs_Log.m a / 576460752303423488 % 16
def logs_Log.r (a : Int) : Int := logs_Log.m a / 2147483648 % 268435456
def logs_Log.v (a : Int) : Int := (logs_Log.L a - 33) * 65536 + logs_Shelf_Table.tb (logs_Log.i a).toNat + (logs_Shelf_Table.tb ((logs_Log.i a).toNat + 1) - logs_Shelf_Table.tb (logs_Log.i a).toNat) * logs_Log.r a / 268435456
def logs_Log.f (a0 : Int) : Option (Int × Bool) := if a0 = 0 then some (0, false) else if 0 ≤ a0 ∧ a0 ≤ 18446744073709551615 ∧ 1 ≤ logs_Log.L a0 ∧ logs_Log.L a0 ≤ 64 then some (logs_Log.v a0, true) else none
theorem logs_Log.m_range (a : Int) : 0 ≤ logs_Log.m a ∧ logs_Log.m a ≤ 18446744073709551615 := by
  unfold logs_Log.m; simp only [IntKind.wrap, IntKind.bits, IntKind.signed]; simp; omega
theorem logs_Log.and15 (x : Int) (h0 : 0 ≤ x) (h1 : x ≤ 18446744073709551615) : Go.bits .and .i64 (x / 576460752303423488) 15 = x / 576460752303423488 % 16 :=
  bits_mask .i64 63 (by decide) (fun n h0 h1 => by simp only [IntKind.wrap, IntKind.bits, IntKind.signed]; simp; omega) 4 (by decide) _ (by omega) (by omega)
theorem logs_Log.and28 (x : Int) (h0 : 0 ≤ x) (h1 : x ≤ 18446744073709551615) : Go.bits .and .i64 (x / 2147483648) 268435455 = x / 2147483648 % 268435456 :=
  bits_mask .i64 63 (by decide) (fun n h0 h1 => by simp only [IntKind.wrap, IntKind.bits, IntKind.signed]; simp; omega) 28 (by decide) _ (by omega) (by omega)
theorem logs_Log.tb_le (k : Nat) (hk : k < 16) : logs_Shelf_Table.tb k ≤ logs_Shelf_Table.tb (k + 1) := by
  have : k = 0 ∨ k = 1 ∨ k = 2 ∨ k = 3 ∨ k = 4 ∨ k = 5 ∨ k = 6 ∨ k = 7 ∨ k = 8 ∨ k = 9 ∨ k = 10 ∨ k = 11 ∨ k = 12 ∨ k = 13 ∨ k = 14 ∨ k = 15 := by omega
  rcases this with rfl | rfl | rfl | rfl | rfl | rfl | rfl | rfl | rfl | rfl | rfl | rfl | rfl | rfl | rfl | rfl <;> decide
set_option maxRecDepth 100000 in
set_option maxHeartbeats 8000000 in
theorem logs_Log.calls (a0 : Int) (r1 : Int) (r2 : Bool) (w : World) (h : logs_Log.f a0 = some (r1, r2)) :
    Calls Try.prog 32 #[.int .u64 a0] w fun e w' => e = .returned (.tuple #[.int .i64 r1, .bool r2]) ∧ Below w.heap.size w w' := by
  unfold logs_Log.f at h
  by_cases hz : a0 = 0
  · rw [if_pos hz] at h
    simp only [Option.some.injEq, Prod.mk.injEq] at h
    obtain ⟨rfl, rfl⟩ := h
    have hne : (a0 == 0) = true := beq_iff_eq.mpr hz
    clear hz
    have HB := Aside0.mk (Below.refl w.heap.size w)
    go_enter Try.func32, Try.ntmps32
    go_wp2
    go_ret2
    exact ⟨rfl, HB.out⟩
  rw [if_neg hz] at h
  by_cases hc : 0 ≤ a0 ∧ a0 ≤ 18446744073709551615 ∧ 1 ≤ logs_Log.L a0 ∧ logs_Log.L a0 ≤ 64
  · rw [if_pos hc] at h
    simp only [Option.some.injEq, Prod.mk.injEq] at h
    obtain ⟨rfl, rfl⟩ := h
    obtain ⟨h0, h1, l0, l1⟩ := hc
    have hne : (a0 == 0) = false := beq_eq_false_iff_ne.mpr hz
    have hlen : ∀ W, Calls Try.prog 43 #[.int .u64 a0] W fun e w' => e = .returned (.int .i64 (logs_Log.L a0)) ∧ w' = W := fun W => (Go.Proofs.Try.bits_Len64 a0 W h0 h1).mono (by rintro e w' ⟨rfl, rfl⟩; exact ⟨rfl, rfl⟩)
    have hm : IntKind.u64.wrap (a0 * 2 ^ (63 - (logs_Log.L a0 - 1)).toNat) = logs_Log.m a0 := rfl
    have hmr := logs_Log.m_range a0
    have hi1 := logs_Log.and15 (logs_Log.m a0) hmr.1 hmr.2
    have hr1 := logs_Log.and28 (logs_Log.m a0) hmr.1 hmr.2
    have hv : logs_Log.v a0 = (logs_Log.L a0 - 33) * 65536 + logs_Shelf_Table.tb (logs_Log.i a0).toNat + (logs_Shelf_Table.tb ((logs_Log.i a0).toNat + 1) - logs_Shelf_Table.tb (logs_Log.i a0).toNat) * logs_Log.r a0 / 268435456 := rfl
    have hib : 0 ≤ logs_Log.i a0 ∧ logs_Log.i a0 ≤ 15 := by unfold logs_Log.i; omega
    have hrb : 0 ≤ logs_Log.r a0 ∧ logs_Log.r a0 ≤ 268435455 := by unfold logs_Log.r; omega
    change _ = logs_Log.i a0 at hi1
    change _ = logs_Log.r a0 at hr1
    have HV := Aside0.mk hv
    clear hv hz
    generalize logs_Log.v a0 = v at *
    generalize logs_Log.L a0 = L at *
    generalize logs_Log.m a0 = m at *
    generalize logs_Log.i a0 = i at *
    generalize logs_Log.r a0 = r at *
    have ht0 := logs_Shelf_Table.tab_range i.toNat
    have ht1 := logs_Shelf_Table.tab_range (i.toNat + 1)
    have ht2 := logs_Log.tb_le i.toNat (by omega)
    have hrow0 : ∀ w : World, (w.alloc (.cells #[.int .i64 0, .int .i64 5732, .int .i64 11136, .int .i64 16248, .int .i64 21098, .int .i64 25711, .int .i64 30109, .int .i64 34312, .int .i64 38336, .int .i64 42196, .int .i64 45904, .int .i64 49472, .int .i64 52911, .int .i64 56229, .int .i64 59434, .int .i64 62534, .int .i64 65536] 69)).cell? ⟨w.heap.size, i.toNat, none⟩ = some (.int .i64 (logs_Shelf_Table.tb i.toNat)) := fun w => logs_Log.row_at w _ (by omega)
    have hrow1 : ∀ w : World, (w.alloc (.cells #[.int .i64 0, .int .i64 5732, .int .i64 11136, .int .i64 16248, .int .i64 21098, .int .i64 25711, .int .i64 30109, .int .i64 34312, .int .i64 38336, .int .i64 42196, .int .i64 45904, .int .i64 49472, .int .i64 52911, .int .i64 56229, .int .i64 59434, .int .i64 62534, .int .i64 65536] 69)).cell? ⟨w.heap.size, i.toNat + 1, none⟩ = some (.int .i64 (logs_Shelf_Table.tb (i.toNat + 1))) := fun w => logs_Log.row_at w _ (by omega)
    generalize logs_Shelf_Table.tb i.toNat = t0 at *
    generalize logs_Shelf_Table.tb (i.toNat + 1) = t1 at *
    obtain ⟨p, hp⟩ : ∃ p, (t1 - t0) * r = p := ⟨_, rfl⟩
    have hpb : 0 ≤ p ∧ p ≤ 65536 * 268435455 := by
      rw [← hp]
      exact ⟨Int.mul_nonneg (by omega) hrb.1, Int.mul_le_mul (by omega) hrb.2 hrb.1 (by omega)⟩
    have HV2 := HV.out
    rw [hp] at HV2
    have HV3 := Aside0.mk HV2
    have HR0 := Aside0.mk hrow0
    have HR1 := Aside0.mk hrow1
    clear HV HV2 hrow0 hrow1
    have hu := Try.underlying69
    go_enter Try.func32, Try.ntmps32
    go_wp2_with (first | (go_at_call 42; refine (logs_Table.table _).mono ?_; rintro e w1 ⟨rfl, hb1⟩) | (go_at_call 43; refine (hlen _).mono ?_; rintro e w2 ⟨rfl, rfl⟩))
    have hb2 := Aside0.mk (below_alloc hb1 (.cells #[.int .i64 0, .int .i64 5732, .int .i64 11136, .int .i64 16248, .int .i64 21098, .int .i64 25711, .int .i64 30109, .int .i64 34312, .int .i64 38336, .int .i64 42196, .int .i64 45904, .int .i64 49472, .int .i64 52911, .int .i64 56229, .int .i64 59434, .int .i64 62534, .int .i64 65536] 69))
    have hq0 := HR0.out w1
    have hq1 := HR1.out w1
    clear HR0 HR1
    generalize (w1.alloc (.cells #[.int .i64 0, .int .i64 5732, .int .i64 11136, .int .i64 16248, .int .i64 21098, .int .i64 25711, .int .i64 30109, .int .i64 34312, .int .i64 38336, .int .i64 42196, .int .i64 45904, .int .i64 49472, .int .i64 52911, .int .i64 56229, .int .i64 59434, .int .i64 62534, .int .i64 65536] 69)) = w2 at hb2 hq0 hq1 ⊢
    generalize w1.heap.size = B at hq0 hq1 ⊢
    have e1 : (i + 1).toNat = i.toNat + 1 := by omega
    have q0 : i < 17 := by omega
    have q1 : i + 1 < 17 := by omega
    go_region
    have hv : (L - 1 - 32) * 65536 + t0 + p / 268435456 = v := by have h := HV3.out; omega
    rw [hv]
    go_wp2
    go_ret2
    exact ⟨rfl, hb2.out.drew⟩
  · rw [if_neg hc] at h; cases h

/-! ### logs_Neg: function 20 -/
def logs_Neg.f (k : Nat) (a0 : Int) : Option (Int) := (logs_Log.f a0).bind fun bt124 => (if bt124.2 = true then (if bt124.1 ≥ 0 then (some 0) else ((fix_Ratio.f k (IntKind.u64.wrap (wrap64 (-bt124.1))) 65536).bind fun t126 => (some t126))) else (some 18446744073709551615))
theorem logs_Neg.mono : ∀ a0 k, LeO (logs_Neg.f k a0) (logs_Neg.f (k + 1) a0) := by
  intro a0 k
  unfold logs_Neg.f
  repeat' first
      | (with_reducible exact fix_Ratio.mono _ _ _)
      | (with_reducible exact LeO.refl _)
      | (with_reducible exact LeO.none _)
      | (with_reducible refine LeO.ite ?_ ?_)
      | (with_reducible refine LeO.bind ?_ (fun _ => ?_))
      | exact fix_Ratio.mono _ _ _
      | exact LeO.none _
      | refine LeO.ite ?_ ?_
      | refine LeO.bind ?_ (fun _ => ?_)
set_option maxHeartbeats 8000000 in
set_option maxRecDepth 100000 in
theorem logs_Neg.calls (k : Nat) (a0 : Int) (r : Int) (w : World) (h : logs_Neg.f k a0 = some r) :
    Calls Try.prog 20 #[.int .u64 a0] w fun e w' => e = .returned (.int .u64 r) ∧ Below w.heap.size w w' := by
  have HB := Aside0.mk (Below.refl w.heap.size w)
  have H : ((logs_Log.f a0).bind fun bt124 => (if bt124.2 = true then (if bt124.1 ≥ 0 then (some 0) else ((fix_Ratio.f k (IntKind.u64.wrap (wrap64 (-bt124.1))) 65536).bind fun t126 => (some t126))) else (some 18446744073709551615))) = some r := h
  clear h
  replace H := Option.bind_eq_some_iff.mp H
  obtain ⟨⟨t124, t125⟩, A20, H⟩ := H
  replace H : (if t125 = true then (if t124 ≥ 0 then (some 0) else ((fix_Ratio.f k (IntKind.u64.wrap (wrap64 (-t124))) 65536).bind fun t126 => (some t126))) else (some 18446744073709551615)) = some r := H
  have A2 := Aside0.mk A20
  clear A20
  by_cases c3 : t125 = true
  · subst c3
    have H1 : (if t124 ≥ 0 then (some 0) else ((fix_Ratio.f k (IntKind.u64.wrap (wrap64 (-t124))) 65536).bind fun t126 => (some t126))) = some r := by rw [if_pos rfl] at H; exact H
    clear H
    have H := H1
    clear H1
    by_cases c4 : t124 ≥ 0
    · rw [if_pos c4] at H
      have c4b0 : decide (0 ≤ t124) = true := decide_eq_true c4
      clear c4
      obtain rfl := Option.some.inj H
      go_enter Try.func20, Try.ntmps20
      go_wp2_with (first | ((with_reducible refine gate_callee (f := 32) rfl ?_); refine goesL_ (some 7) rfl rfl Try.func32 (by kernel_rfl) rfl #[.int .u64 a0] rfl (by (try simp only [List.map_toArray, List.map_cons, List.map_nil]); first | done | rfl | (simp only [List.length_drop, List.length_take]; rfl)) ?_; (with_reducible refine (logs_Log.calls a0 t124 true _ A2.out).mono ?_); rintro e w5 ⟨rfl, hb⟩; refine ⟨_, rfl, ?_⟩; have n0_ := Aside0.mk (below_step (by repeat (first | (with_reducible first | exact HB.out | apply below_alloc | apply pw_below_drewN | apply below_drew1) | exact HB.out)) hb); clear HB; have HB := n0_; clear n0_; (try clear hb); (try clear hb2); (try clear hk); (try clear hi)))
      go_ret
      exact ⟨by first | rfl | (simp [errW_none, errW_some] <;> rfl) | (simp [*, errW_none, errW_some] <;> rfl), by repeat (first | (with_reducible first | exact HB.out | apply below_alloc | apply pw_below_drewN | apply below_drew1) | exact HB.out)⟩
    · rw [if_neg c4] at H
      have c4b0 : decide (0 ≤ t124) = false := decide_eq_false c4
      clear c4
      replace H := Option.bind_eq_some_iff.mp H
      obtain ⟨t126, A60, H⟩ := H
      replace H : (some t126) = some r := H
      have A6 := Aside0.mk A60
      clear A60
      obtain rfl := Option.some.inj H
      go_enter Try.func20, Try.ntmps20
      go_wp2_with (first | ((with_reducible refine gate_callee (f := 32) rfl ?_); refine goesL_ (some 7) rfl rfl Try.func32 (by kernel_rfl) rfl #[.int .u64 a0] rfl (by (try simp only [List.map_toArray, List.map_cons, List.map_nil]); first | done | rfl | (simp only [List.length_drop, List.length_take]; rfl)) ?_; (with_reducible refine (logs_Log.calls a0 t124 true _ A2.out).mono ?_); rintro e w7 ⟨rfl, hb⟩; refine ⟨_, rfl, ?_⟩; have n0_ := Aside0.mk (below_step (by repeat (first | (with_reducible first | exact HB.out | apply below_alloc | apply pw_below_drewN | apply below_drew1) | exact HB.out)) hb); clear HB; have HB := n0_; clear n0_; (try clear hb); (try clear hb2); (try clear hk); (try clear hi)) | ((with_reducible refine gate_callee (f := 21) rfl ?_); refine goesL_ (some 19) rfl rfl Try.func21 (by kernel_rfl) rfl #[.int .u64 (IntKind.u64.wrap (wrap64 (-t124))), .int .u64 65536] rfl (by (try simp only [List.map_toArray, List.map_cons, List.map_nil]); first | done | rfl | (simp only [List.length_drop, List.length_take]; rfl)) ?_; (with_reducible refine (fix_Ratio.calls k (IntKind.u64.wrap (wrap64 (-t124))) 65536 t126 _ A6.out).mono ?_); rintro e w' ⟨rfl, ⟨nd, rfl⟩⟩; refine ⟨_, rfl, ?_⟩))
      go_ret
      exact ⟨by first | rfl | (simp [errW_none, errW_some] <;> rfl) | (simp [*, errW_none, errW_some] <;> rfl), by repeat (first | (with_reducible first | exact HB.out | apply below_alloc | apply pw_below_drewN | apply below_drew1) | exact HB.out)⟩
  · replace c3 := Bool.eq_false_iff.mpr c3
    subst c3
    have H1 : (some 18446744073709551615) = some r := by rw [if_neg (show ¬ (false = true) by decide)] at H; exact H
    clear H
    have H := H1
    clear H1
    obtain rfl := Option.some.inj H
    go_enter Try.func20, Try.ntmps20
    go_wp2_with (first | ((with_reducible refine gate_callee (f := 32) rfl ?_); refine goesL_ (some 7) rfl rfl Try.func32 (by kernel_rfl) rfl #[.int .u64 a0] rfl (by (try simp only [List.map_toArray, List.map_cons, List.map_nil]); first | done | rfl | (simp only [List.length_drop, List.length_take]; rfl)) ?_; (with_reducible refine (logs_Log.calls a0 t124 false _ A2.out).mono ?_); rintro e w8 ⟨rfl, hb⟩; refine ⟨_, rfl, ?_⟩; have n0_ := Aside0.mk (below_step (by repeat (first | (with_reducible first | exact HB.out | apply below_alloc | apply pw_below_drewN | apply below_drew1) | exact HB.out)) hb); clear HB; have HB := n0_; clear n0_; (try clear hb); (try clear hb2); (try clear hk); (try clear hi)))
    go_ret
    exact ⟨by first | rfl | (simp [errW_none, errW_some] <;> rfl) | (simp [*, errW_none, errW_some] <;> rfl), by repeat (first | (with_reducible first | exact HB.out | apply below_alloc | apply pw_below_drewN | apply below_drew1) | exact HB.out)⟩

/-! ### fix_F_Sub: function 22 -/
def fix_F_Sub.f (a0 : Int) (a1 : Int) : Option (Int) := if a1 > a0 then (some 0) else (some (IntKind.u64.wrap (a0 - a1)))
set_option maxHeartbeats 8000000 in
set_option maxRecDepth 100000 in
theorem fix_F_Sub.calls (a0 : Int) (a1 : Int) (r : Int) (w : World) (h : fix_F_Sub.f a0 a1 = some r) :
    Calls Try.prog 22 #[.int .u64 a0, .int .u64 a1] w fun e w' => e = .returned (.int .u64 r) ∧ Drawn0 w w' := by
  have H : (if a1 > a0 then (some 0) else (some (IntKind.u64.wrap (a0 - a1)))) = some r := h
  clear h
  by_cases c3 : a1 > a0
  · rw [if_pos c3] at H
    have c3b0 : decide (a0 < a1) = true := decide_eq_true c3
    clear c3
    obtain rfl := Option.some.inj H
    go_enter Try.func22, Try.ntmps22
    go_wp2
    go_ret
    exact ⟨by first | rfl | (simp; done) | (simp [*]; done), by repeat (first | exact Drawn0.refl _ | apply Drawn0.step)⟩
  · rw [if_neg c3] at H
    have c3b0 : decide (a0 < a1) = false := decide_eq_false c3
    clear c3
    obtain rfl := Option.some.inj H
    go_enter Try.func22, Try.ntmps22
    go_wp2
    go_ret
    exact ⟨by first | rfl | (simp; done) | (simp [*]; done), by repeat (first | exact Drawn0.refl _ | apply Drawn0.step)⟩

/-! ### fix_F_Div: function 23 -/
def fix_F_Div.f (k : Nat) (a0 : Int) (a1 : Int) : Option (Int) := (fix_quotient.f k a0 a1).bind fun t127 => (some t127)
theorem fix_F_Div.mono : ∀ a0 a1 k, LeO (fix_F_Div.f k a0 a1) (fix_F_Div.f (k + 1) a0 a1) := by
  intro a0 a1 k
  unfold fix_F_Div.f
  repeat' first
      | (with_reducible exact fix_quotient.mono _ _ _)
      | (with_reducible exact LeO.refl _)
      | (with_reducible exact LeO.none _)
      | (with_reducible refine LeO.ite ?_ ?_)
      | (with_reducible refine LeO.bind ?_ (fun _ => ?_))
      | exact fix_quotient.mono _ _ _
      | exact LeO.none _
      | refine LeO.ite ?_ ?_
      | refine LeO.bind ?_ (fun _ => ?_)
set_option maxHeartbeats 8000000 in
set_option maxRecDepth 100000 in
theorem fix_F_Div.calls (k : Nat) (a0 : Int) (a1 : Int) (r : Int) (w : World) (h : fix_F_Div.f k a0 a1 = some r) :
    Calls Try.prog 23 #[.int .u64 a0, .int .u64 a1] w fun e w' => e = .returned (.int .u64 r) ∧ Drawn0 w w' := by
  have H : ((fix_quotient.f k a0 a1).bind fun t127 => (some t127)) = some r := h
  clear h
  replace H := Option.bind_eq_some_iff.mp H
  obtain ⟨t127, A30, H⟩ := H
  replace H : (some t127) = some r := H
  have A3 := Aside0.mk A30
  clear A30
  obtain rfl := Option.some.inj H
  go_enter Try.func23, Try.ntmps23
  go_wp2_with (first | ((with_reducible refine gate_callee (f := 33) rfl ?_); refine goesL_ (some 7) rfl rfl Try.func33 (by kernel_rfl) rfl #[.int .u64 a0, .int .u64 a1] rfl (by (try simp only [List.map_toArray, List.map_cons, List.map_nil]); first | done | rfl | (simp only [List.length_drop, List.length_take]; rfl)) ?_; (with_reducible refine (fix_quotient.calls k a0 a1 t127 _ A3.out).mono ?_); rintro e w' ⟨rfl, ⟨nd, rfl⟩⟩; refine ⟨_, rfl, ?_⟩))
  go_ret
  exact ⟨by first | rfl | (simp; done) | (simp [*]; done), by repeat (first | exact Drawn0.refl _ | apply Drawn0.step)⟩

/-! ### fix_shifted: function 34 -/
def fix_shifted.f (a0 : Int) (a1 : Int) : Option (Int) := if (a0 / 4294967296) = 0 then (some (Go.bits .or .u64 (IntKind.u64.wrap (a0 * 4294967296)) (a1 / 4294967296))) else (some 18446744073709551615)
set_option maxHeartbeats 8000000 in
set_option maxRecDepth 100000 in
theorem fix_shifted.calls (a0 : Int) (a1 : Int) (r : Int) (w : World) (h : fix_shifted.f a0 a1 = some r) :
    Calls Try.prog 34 #[.int .u64 a0, .int .u64 a1] w fun e w' => e = .returned (.int .u64 r) ∧ Drawn0 w w' := by
  have H : (if (a0 / 4294967296) = 0 then (some (Go.bits .or .u64 (IntKind.u64.wrap (a0 * 4294967296)) (a1 / 4294967296))) else (some 18446744073709551615)) = some r := h
  clear h
  by_cases c3 : (a0 / 4294967296) = 0
  · rw [if_pos c3] at H
    have c3b0 : ((a0 / 4294967296) == 0) = true := beq_iff_eq.mpr c3
    have c3b1 : ((a0 / 4294967296) != 0) = false := bne_eq_false_iff_eq.mpr c3
    clear c3
    obtain rfl := Option.some.inj H
    go_enter Try.func34, Try.ntmps34
    go_wp2
    go_ret
    exact ⟨by first | rfl | (simp; done) | (simp [*]; done), by repeat (first | exact Drawn0.refl _ | apply Drawn0.step)⟩
  · rw [if_neg c3] at H
    have c3b0 : ((a0 / 4294967296) == 0) = false := beq_eq_false_iff_ne.mpr c3
    have c3b1 : ((a0 / 4294967296) != 0) = true := bne_iff_ne.mpr c3
    obtain rfl := Option.some.inj H
    go_enter Try.func34, Try.ntmps34
    go_wp2
    go_ret
    exact ⟨by first | rfl | (simp; done) | (simp [*]; done), by repeat (first | exact Drawn0.refl _ | apply Drawn0.step)⟩

/-! ### bits_Mul64: function 35 (by the shelf's contract) -/
def bits_Mul64.f (a0 : Int) (a1 : Int) : Option (Int × Int) := if 0 ≤ a0 ∧ a0 ≤ 18446744073709551615 ∧ 0 ≤ a1 ∧ a1 ≤ 18446744073709551615 then (some (a0 * a1 / 18446744073709551616, a0 * a1 % 18446744073709551616)) else (none)
theorem bits_Mul64.calls (a0 : Int) (a1 : Int) (r1 : Int) (r2 : Int) (w : World) (h : bits_Mul64.f a0 a1 = some (r1, r2)) :
    Calls Try.prog 35 #[.int .u64 a0, .int .u64 a1] w fun e w' => e = .returned (.tuple #[.int .u64 r1, .int .u64 r2]) ∧ Drawn0 w w' := by
  unfold bits_Mul64.f at h
  split at h
  · rename_i hh
    obtain ⟨h0, h1, h2, h3⟩ := hh
    simp only [Option.some.injEq, Prod.mk.injEq] at h
    obtain ⟨rfl, rfl⟩ := h
    obtain ⟨x, rfl⟩ := Int.eq_ofNat_of_zero_le h0
    obtain ⟨y, rfl⟩ := Int.eq_ofNat_of_zero_le h2
    refine (Go.Proofs.Try.bits_Mul64 x y (by omega) (by omega) w).mono fun e w' ⟨he, hw⟩ => ⟨?_, hw ▸ Drawn0.refl _⟩
    rw [he]; simp
  · cases h

/-! ### fix_F_Times: function 24 -/
def fix_F_Times.f (a0 : Int) (a1 : Int) : Option (Int) := (bits_Mul64.f a0 a1).bind fun bt128 => ((fix_shifted.f bt128.1 bt128.2).bind fun t130 => (some t130))
set_option maxHeartbeats 8000000 in
set_option maxRecDepth 100000 in
theorem fix_F_Times.calls (a0 : Int) (a1 : Int) (r : Int) (w : World) (h : fix_F_Times.f a0 a1 = some r) :
    Calls Try.prog 24 #[.int .u64 a0, .int .u64 a1] w fun e w' => e = .returned (.int .u64 r) ∧ Drawn0 w w' := by
  have H : ((bits_Mul64.f a0 a1).bind fun bt128 => ((fix_shifted.f bt128.1 bt128.2).bind fun t130 => (some t130))) = some r := h
  clear h
  replace H := Option.bind_eq_some_iff.mp H
  obtain ⟨⟨t128, t129⟩, A30, H⟩ := H
  replace H : ((fix_shifted.f t128 t129).bind fun t130 => (some t130)) = some r := H
  have A3 := Aside0.mk A30
  clear A30
  replace H := Option.bind_eq_some_iff.mp H
  obtain ⟨t130, A40, H⟩ := H
  replace H : (some t130) = some r := H
  have A4 := Aside0.mk A40
  clear A40
  obtain rfl := Option.some.inj H
  go_enter Try.func24, Try.ntmps24
  go_wp2_with (first | ((with_reducible refine gate_callee (f := 35) rfl ?_); refine goesL_ (some 7) rfl rfl Try.func35 (by kernel_rfl) rfl #[.int .u64 a0, .int .u64 a1] rfl (by (try simp only [List.map_toArray, List.map_cons, List.map_nil]); first | done | rfl | (simp only [List.length_drop, List.length_take]; rfl)) ?_; (with_reducible refine (bits_Mul64.calls a0 a1 t128 t129 _ A3.out).mono ?_); rintro e w' ⟨rfl, ⟨nd, rfl⟩⟩; refine ⟨_, rfl, ?_⟩) | ((with_reducible refine gate_callee (f := 34) rfl ?_); refine goesL_ (some 10) rfl rfl Try.func34 (by kernel_rfl) rfl #[.int .u64 t128, .int .u64 t129] rfl (by (try simp only [List.map_toArray, List.map_cons, List.map_nil]); first | done | rfl | (simp only [List.length_drop, List.length_take]; rfl)) ?_; (with_reducible refine (fix_shifted.calls t128 t129 t130 _ A4.out).mono ?_); rintro e w' ⟨rfl, ⟨nd, rfl⟩⟩; refine ⟨_, rfl, ?_⟩))
  go_ret
  exact ⟨by first | rfl | (simp; done) | (simp [*]; done), by repeat (first | exact Drawn0.refl _ | apply Drawn0.step)⟩

/-! ### suppress_Wait: function 8 -/
def suppress_Wait.j0 : Nat → Int → Int → Int → Bool → Option (Int × Int)
  | 0, _, _, _, _ => none
  | k + 1, x0, x1, x2, x31 => if x31 = true then (some (0, 11)) else ((logs_Neg.f k x0).bind fun t131 => ((fix_Ratio.f k 1 (IntKind.u64.wrap (x2))).bind fun t132 => ((logs_Neg.f k t132).bind fun t133 => (if t131 ≥ t133 then (some (0, 0)) else ((fix_F_Div.f k t131 t133).bind fun t134 => ((fix_F_Sub.f 4294967296 t134).bind fun t135 => ((fix_F_Times.f t135 (IntKind.u64.wrap (x1))).bind fun t136 => (some (wrap64 (t136), 0)))))))))
def suppress_Wait.f (k : Nat) (a0 : Int) (a1 : Int) (a2 : Int) : Option (Int × Int) := if a0 = 0 then (suppress_Wait.j0 k a0 a1 a2 true) else (if a0 > 4294967296 then (suppress_Wait.j0 k a0 a1 a2 true) else (if a1 < 0 then (suppress_Wait.j0 k a0 a1 a2 true) else (if a1 > 1048576 then (suppress_Wait.j0 k a0 a1 a2 true) else (if a2 < 2 then (suppress_Wait.j0 k a0 a1 a2 true) else (suppress_Wait.j0 k a0 a1 a2 (decide (a2 > 65536)))))))
theorem suppress_Wait.mono_l : ∀ k, (∀ y0 y1 y2 y3, LeO (suppress_Wait.j0 k y0 y1 y2 y3) (suppress_Wait.j0 (k + 1) y0 y1 y2 y3))
  | 0 => fun _ _ _ _ r h => by simp [suppress_Wait.j0] at h
  | k + 1 => by
    have ih0 := suppress_Wait.mono_l k
    · intro y0 y1 y2 y3
      unfold suppress_Wait.j0
      repeat' first
      | (with_reducible exact ih0 _ _ _ _)
      | (with_reducible exact fix_F_Div.mono _ _ _)
      | (with_reducible exact fix_Ratio.mono _ _ _)
      | (with_reducible exact logs_Neg.mono _ _)
      | (with_reducible exact LeO.refl _)
      | (with_reducible exact LeO.none _)
      | (with_reducible refine LeO.ite ?_ ?_)
      | (with_reducible refine LeO.bind ?_ (fun _ => ?_))
      | exact ih0 _ _ _ _
      | exact fix_F_Div.mono _ _ _
      | exact fix_Ratio.mono _ _ _
      | exact logs_Neg.mono _ _
      | exact LeO.none _
      | refine LeO.ite ?_ ?_
      | refine LeO.bind ?_ (fun _ => ?_)
theorem suppress_Wait.mono : ∀ a0 a1 a2 k, LeO (suppress_Wait.f k a0 a1 a2) (suppress_Wait.f (k + 1) a0 a1 a2) := by
  intro a0 a1 a2 k
  have ih0 := suppress_Wait.mono_l k
  unfold suppress_Wait.f
  repeat' first
      | (with_reducible exact ih0 _ _ _ _)
      | (with_reducible exact fix_F_Div.mono _ _ _)
      | (with_reducible exact fix_Ratio.mono _ _ _)
      | (with_reducible exact logs_Neg.mono _ _)
      | (with_reducible exact LeO.refl _)
      | (with_reducible exact LeO.none _)
      | (with_reducible refine LeO.ite ?_ ?_)
      | (with_reducible refine LeO.bind ?_ (fun _ => ?_))
      | exact ih0 _ _ _ _
      | exact fix_F_Div.mono _ _ _
      | exact fix_Ratio.mono _ _ _
      | exact logs_Neg.mono _ _
      | exact LeO.none _
      | refine LeO.ite ?_ ?_
      | refine LeO.bind ?_ (fun _ => ?_)
set_option maxHeartbeats 8000000 in
set_option maxRecDepth 100000 in
theorem suppress_Wait.calls (k : Nat) (a0 : Int) (a1 : Int) (a2 : Int) (r1 : Int) (r2 : Int) (w : World) (h : suppress_Wait.f k a0 a1 a2 = some (r1, r2)) :
    Calls Try.prog 8 #[.int .u64 a0, .int .i64 a1, .int .i64 a2] w fun e w' => e = .returned (.tuple #[.int .i64 r1, .int .i64 r2]) ∧ Below w.heap.size w w' := by
  have HB := Aside0.mk (Below.refl w.heap.size w)
  have H : (if a0 = 0 then (suppress_Wait.j0 k a0 a1 a2 true) else (if a0 > 4294967296 then (suppress_Wait.j0 k a0 a1 a2 true) else (if a1 < 0 then (suppress_Wait.j0 k a0 a1 a2 true) else (if a1 > 1048576 then (suppress_Wait.j0 k a0 a1 a2 true) else (if a2 < 2 then (suppress_Wait.j0 k a0 a1 a2 true) else (suppress_Wait.j0 k a0 a1 a2 (decide (a2 > 65536)))))))) = some (r1, r2) := h
  clear h
  have HC4 := Aside0.mk H
  clear H
  go_enter Try.func8, Try.ntmps8
  go_upto_region 1 with (fail)
  go_cut [31] (fun v31 wc => ∃ (kq : Nat) (x31_3 : Bool), v31 = .bool x31_3 ∧ Aside0 (suppress_Wait.j0 kq a0 a1 a2 x31_3 = some (r1, r2)) ∧ Aside0 (kq ≤ k) ∧ Aside0 (Below w.heap.size w wc))
  case first =>
    have H := HC4.out
    clear HC4
    by_cases c5 : a0 = 0
    · rw [if_pos c5] at H
      have c5b0 : (a0 == 0) = true := beq_iff_eq.mpr c5
      have c5b1 : (a0 != 0) = false := bne_eq_false_iff_eq.mpr c5
      clear c5
      (first | rw [c5b0] | (simp only [i64_w, i32_w]; rw [c5b0]) | skip)
      have H' := Aside0.mk H
      clear H
      go_wp2
      go_meet
      case rel => exact ⟨_, (true), (by first | rfl | (simp; done) | (simp [*]; done)), H', ⟨by first | omega | exact Nat.le_refl _⟩, ⟨by repeat (first | (with_reducible first | exact HB.out | apply below_alloc | apply pw_below_drewN | apply below_drew1) | exact HB.out)⟩⟩
    · rw [if_neg c5] at H
      have c5b0 : (a0 == 0) = false := beq_eq_false_iff_ne.mpr c5
      have c5b1 : (a0 != 0) = true := bne_iff_ne.mpr c5
      (first | rw [c5b0] | (simp only [i64_w, i32_w]; rw [c5b0]) | skip)
      by_cases c6 : a0 > 4294967296
      · rw [if_pos c6] at H
        have c6b0 : decide (4294967296 < a0) = true := decide_eq_true c6
        clear c6
        have H' := Aside0.mk H
        clear H
        go_wp2
        go_meet
        case rel => exact ⟨_, (true), (by first | rfl | (simp; done) | (simp [*]; done)), H', ⟨by first | omega | exact Nat.le_refl _⟩, ⟨by repeat (first | (with_reducible first | exact HB.out | apply below_alloc | apply pw_below_drewN | apply below_drew1) | exact HB.out)⟩⟩
      · rw [if_neg c6] at H
        have c6b0 : decide (4294967296 < a0) = false := decide_eq_false c6
        clear c6
        by_cases c7 : a1 < 0
        · rw [if_pos c7] at H
          have c7b0 : decide (a1 < 0) = true := decide_eq_true c7
          clear c7
          have H' := Aside0.mk H
          clear H
          go_wp2
          go_meet
          case rel => exact ⟨_, (true), (by first | rfl | (simp; done) | (simp [*]; done)), H', ⟨by first | omega | exact Nat.le_refl _⟩, ⟨by repeat (first | (with_reducible first | exact HB.out | apply below_alloc | apply pw_below_drewN | apply below_drew1) | exact HB.out)⟩⟩
        · rw [if_neg c7] at H
          have c7b0 : decide (a1 < 0) = false := decide_eq_false c7
          clear c7
          by_cases c8 : a1 > 1048576
          · rw [if_pos c8] at H
            have c8b0 : decide (1048576 < a1) = true := decide_eq_true c8
            clear c8
            have H' := Aside0.mk H
            clear H
            go_wp2
            go_meet
            case rel => exact ⟨_, (true), (by first | rfl | (simp; done) | (simp [*]; done)), H', ⟨by first | omega | exact Nat.le_refl _⟩, ⟨by repeat (first | (with_reducible first | exact HB.out | apply below_alloc | apply pw_below_drewN | apply below_drew1) | exact HB.out)⟩⟩
          · rw [if_neg c8] at H
            have c8b0 : decide (1048576 < a1) = false := decide_eq_false c8
            clear c8
            by_cases c9 : a2 < 2
            · rw [if_pos c9] at H
              have c9b0 : decide (a2 < 2) = true := decide_eq_true c9
              clear c9
              have H' := Aside0.mk H
              clear H
              go_wp2
              go_meet
              case rel => exact ⟨_, (true), (by first | rfl | (simp; done) | (simp [*]; done)), H', ⟨by first | omega | exact Nat.le_refl _⟩, ⟨by repeat (first | (with_reducible first | exact HB.out | apply below_alloc | apply pw_below_drewN | apply below_drew1) | exact HB.out)⟩⟩
            · rw [if_neg c9] at H
              have c9b0 : decide (a2 < 2) = false := decide_eq_false c9
              clear c9
              have H' := Aside0.mk H
              clear H
              go_wp2
              go_meet
              case rel => exact ⟨_, (decide (a2 > 65536)), (by first | rfl | (simp; done) | (simp [*]; done)), H', ⟨by first | omega | exact Nat.le_refl _⟩, ⟨by repeat (first | (with_reducible first | exact HB.out | apply below_alloc | apply pw_below_drewN | apply below_drew1) | exact HB.out)⟩⟩
  case rest =>
    clear HC4
    try clear p2
    try clear c5
    try clear c5b0
    try clear c5b1
    try clear c6
    try clear c6b0
    try clear c7
    try clear c7b0
    try clear c8
    try clear c8b0
    try clear c9
    try clear c9b0
    obtain ⟨kq, x31_3, rfl, HA, HJ3, HB⟩ := hcut
    cases kq with
    | zero => exact absurd HA.out (by simp [suppress_Wait.j0])
    | succ kj3 =>
      have H := HA.out
      clear HA
      simp only [suppress_Wait.j0] at H
      by_cases c10 : x31_3 = true
      · subst c10
        have H1 : (some (0, 11)) = some (r1, r2) := by rw [if_pos rfl] at H; exact H
        clear H
        have H := H1
        clear H1
        simp only [Option.some.injEq, Prod.mk.injEq] at H
        obtain ⟨rfl, rfl⟩ := H
        go_wp2
        go_ret2
        exact ⟨by first | rfl | (simp [errW_none, errW_some] <;> rfl) | (simp [*, errW_none, errW_some] <;> rfl), by repeat (first | (with_reducible first | exact HB.out | apply below_alloc | apply pw_below_drewN | apply below_drew1) | exact HB.out)⟩
      · replace c10 := Bool.eq_false_iff.mpr c10
        subst c10
        have H1 : ((logs_Neg.f kj3 a0).bind fun t131 => ((fix_Ratio.f kj3 1 (IntKind.u64.wrap (a2))).bind fun t132 => ((logs_Neg.f kj3 t132).bind fun t133 => (if t131 ≥ t133 then (some (0, 0)) else ((fix_F_Div.f kj3 t131 t133).bind fun t134 => ((fix_F_Sub.f 4294967296 t134).bind fun t135 => ((fix_F_Times.f t135 (IntKind.u64.wrap (a1))).bind fun t136 => (some (wrap64 (t136), 0))))))))) = some (r1, r2) := by rw [if_neg (show ¬ (false = true) by decide)] at H; exact H
        clear H
        have H := H1
        clear H1
        replace H := Option.bind_eq_some_iff.mp H
        obtain ⟨t131, A110, H⟩ := H
        replace H : ((fix_Ratio.f kj3 1 (IntKind.u64.wrap (a2))).bind fun t132 => ((logs_Neg.f kj3 t132).bind fun t133 => (if t131 ≥ t133 then (some (0, 0)) else ((fix_F_Div.f kj3 t131 t133).bind fun t134 => ((fix_F_Sub.f 4294967296 t134).bind fun t135 => ((fix_F_Times.f t135 (IntKind.u64.wrap (a1))).bind fun t136 => (some (wrap64 (t136), 0)))))))) = some (r1, r2) := H
        have A11 := Aside0.mk A110
        clear A110
        replace H := Option.bind_eq_some_iff.mp H
        obtain ⟨t132, A120, H⟩ := H
        replace H : ((logs_Neg.f kj3 t132).bind fun t133 => (if t131 ≥ t133 then (some (0, 0)) else ((fix_F_Div.f kj3 t131 t133).bind fun t134 => ((fix_F_Sub.f 4294967296 t134).bind fun t135 => ((fix_F_Times.f t135 (IntKind.u64.wrap (a1))).bind fun t136 => (some (wrap64 (t136), 0))))))) = some (r1, r2) := H
        have A12 := Aside0.mk A120
        clear A120
        replace H := Option.bind_eq_some_iff.mp H
        obtain ⟨t133, A130, H⟩ := H
        replace H : (if t131 ≥ t133 then (some (0, 0)) else ((fix_F_Div.f kj3 t131 t133).bind fun t134 => ((fix_F_Sub.f 4294967296 t134).bind fun t135 => ((fix_F_Times.f t135 (IntKind.u64.wrap (a1))).bind fun t136 => (some (wrap64 (t136), 0)))))) = some (r1, r2) := H
        have A13 := Aside0.mk A130
        clear A130
        by_cases c14 : t131 ≥ t133
        · rw [if_pos c14] at H
          have c14b0 : decide (t133 ≤ t131) = true := decide_eq_true c14
          clear c14
          simp only [Option.some.injEq, Prod.mk.injEq] at H
          obtain ⟨rfl, rfl⟩ := H
          go_wp2_with (first | ((with_reducible refine gate_callee (f := 20) rfl ?_); refine goesL_ (some 33) rfl rfl Try.func20 (by kernel_rfl) rfl #[.int .u64 a0] rfl (by (try simp only [List.map_toArray, List.map_cons, List.map_nil]); first | done | rfl | (simp only [List.length_drop, List.length_take]; rfl)) ?_; (with_reducible refine (logs_Neg.calls kj3 a0 t131 _ A11.out).mono ?_); rintro e w15 ⟨rfl, hb⟩; refine ⟨_, rfl, ?_⟩; have n0_ := Aside0.mk (below_step (by repeat (first | (with_reducible first | exact HB.out | apply below_alloc | apply pw_below_drewN | apply below_drew1) | exact HB.out)) hb); clear HB; have HB := n0_; clear n0_; (try clear hb); (try clear hb2); (try clear hk); (try clear hi)) | ((with_reducible refine gate_callee (f := 21) rfl ?_); refine goesL_ (some 36) rfl rfl Try.func21 (by kernel_rfl) rfl #[.int .u64 1, .int .u64 (IntKind.u64.wrap (a2))] rfl (by (try simp only [List.map_toArray, List.map_cons, List.map_nil]); first | done | rfl | (simp only [List.length_drop, List.length_take]; rfl)) ?_; (with_reducible refine (fix_Ratio.calls kj3 1 (IntKind.u64.wrap (a2)) t132 _ A12.out).mono ?_); rintro e w' ⟨rfl, ⟨nd, rfl⟩⟩; refine ⟨_, rfl, ?_⟩) | ((with_reducible refine gate_callee (f := 20) rfl ?_); refine goesL_ (some 37) rfl rfl Try.func20 (by kernel_rfl) rfl #[.int .u64 t132] rfl (by (try simp only [List.map_toArray, List.map_cons, List.map_nil]); first | done | rfl | (simp only [List.length_drop, List.length_take]; rfl)) ?_; (with_reducible refine (logs_Neg.calls kj3 t132 t133 _ A13.out).mono ?_); rintro e w16 ⟨rfl, hb⟩; refine ⟨_, rfl, ?_⟩; have n0_ := Aside0.mk (below_step (by repeat (first | (with_reducible first | exact HB.out | apply below_alloc | apply pw_below_drewN | apply below_drew1) | exact HB.out)) hb); clear HB; have HB := n0_; clear n0_; (try clear hb); (try clear hb2); (try clear hk); (try clear hi)))
          go_ret2
          exact ⟨by first | rfl | (simp [errW_none, errW_some] <;> rfl) | (simp [*, errW_none, errW_some] <;> rfl), by repeat (first | (with_reducible first | exact HB.out | apply below_alloc | apply pw_below_drewN | apply below_drew1) | exact HB.out)⟩
        · rw [if_neg c14] at H
          have c14b0 : decide (t133 ≤ t131) = false := decide_eq_false c14
          clear c14
          replace H := Option.bind_eq_some_iff.mp H
          obtain ⟨t134, A170, H⟩ := H
          replace H : ((fix_F_Sub.f 4294967296 t134).bind fun t135 => ((fix_F_Times.f t135 (IntKind.u64.wrap (a1))).bind fun t136 => (some (wrap64 (t136), 0)))) = some (r1, r2) := H
          have A17 := Aside0.mk A170
          clear A170
          replace H := Option.bind_eq_some_iff.mp H
          obtain ⟨t135, A180, H⟩ := H
          replace H : ((fix_F_Times.f t135 (IntKind.u64.wrap (a1))).bind fun t136 => (some (wrap64 (t136), 0))) = some (r1, r2) := H
          have A18 := Aside0.mk A180
          clear A180
          replace H := Option.bind_eq_some_iff.mp H
          obtain ⟨t136, A190, H⟩ := H
          replace H : (some (wrap64 (t136), 0)) = some (r1, r2) := H
          have A19 := Aside0.mk A190
          clear A190
          simp only [Option.some.injEq, Prod.mk.injEq] at H
          obtain ⟨rfl, rfl⟩ := H
          go_wp2_with (first | ((with_reducible refine gate_callee (f := 20) rfl ?_); refine goesL_ (some 33) rfl rfl Try.func20 (by kernel_rfl) rfl #[.int .u64 a0] rfl (by (try simp only [List.map_toArray, List.map_cons, List.map_nil]); first | done | rfl | (simp only [List.length_drop, List.length_take]; rfl)) ?_; (with_reducible refine (logs_Neg.calls kj3 a0 t131 _ A11.out).mono ?_); rintro e w20 ⟨rfl, hb⟩; refine ⟨_, rfl, ?_⟩; have n0_ := Aside0.mk (below_step (by repeat (first | (with_reducible first | exact HB.out | apply below_alloc | apply pw_below_drewN | apply below_drew1) | exact HB.out)) hb); clear HB; have HB := n0_; clear n0_; (try clear hb); (try clear hb2); (try clear hk); (try clear hi)) | ((with_reducible refine gate_callee (f := 21) rfl ?_); refine goesL_ (some 36) rfl rfl Try.func21 (by kernel_rfl) rfl #[.int .u64 1, .int .u64 (IntKind.u64.wrap (a2))] rfl (by (try simp only [List.map_toArray, List.map_cons, List.map_nil]); first | done | rfl | (simp only [List.length_drop, List.length_take]; rfl)) ?_; (with_reducible refine (fix_Ratio.calls kj3 1 (IntKind.u64.wrap (a2)) t132 _ A12.out).mono ?_); rintro e w' ⟨rfl, ⟨nd, rfl⟩⟩; refine ⟨_, rfl, ?_⟩) | ((with_reducible refine gate_callee (f := 20) rfl ?_); refine goesL_ (some 37) rfl rfl Try.func20 (by kernel_rfl) rfl #[.int .u64 t132] rfl (by (try simp only [List.map_toArray, List.map_cons, List.map_nil]); first | done | rfl | (simp only [List.length_drop, List.length_take]; rfl)) ?_; (with_reducible refine (logs_Neg.calls kj3 t132 t133 _ A13.out).mono ?_); rintro e w21 ⟨rfl, hb⟩; refine ⟨_, rfl, ?_⟩; have n0_ := Aside0.mk (below_step (by repeat (first | (with_reducible first | exact HB.out | apply below_alloc | apply pw_below_drewN | apply below_drew1) | exact HB.out)) hb); clear HB; have HB := n0_; clear n0_; (try clear hb); (try clear hb2); (try clear hk); (try clear hi)) | ((with_reducible refine gate_callee (f := 23) rfl ?_); refine goesL_ (some 43) rfl rfl Try.func23 (by kernel_rfl) rfl #[.int .u64 t131, .int .u64 t133] rfl (by (try simp only [List.map_toArray, List.map_cons, List.map_nil]); first | done | rfl | (simp only [List.length_drop, List.length_take]; rfl)) ?_; (with_reducible refine (fix_F_Div.calls kj3 t131 t133 t134 _ A17.out).mono ?_); rintro e w' ⟨rfl, ⟨nd, rfl⟩⟩; refine ⟨_, rfl, ?_⟩) | ((with_reducible refine gate_callee (f := 22) rfl ?_); refine goesL_ (some 44) rfl rfl Try.func22 (by kernel_rfl) rfl #[.int .u64 4294967296, .int .u64 t134] rfl (by (try simp only [List.map_toArray, List.map_cons, List.map_nil]); first | done | rfl | (simp only [List.length_drop, List.length_take]; rfl)) ?_; (with_reducible refine (fix_F_Sub.calls 4294967296 t134 t135 _ A18.out).mono ?_); rintro e w' ⟨rfl, ⟨nd, rfl⟩⟩; refine ⟨_, rfl, ?_⟩) | ((with_reducible refine gate_callee (f := 24) rfl ?_); refine goesL_ (some 47) rfl rfl Try.func24 (by kernel_rfl) rfl #[.int .u64 t135, .int .u64 (IntKind.u64.wrap (a1))] rfl (by (try simp only [List.map_toArray, List.map_cons, List.map_nil]); first | done | rfl | (simp only [List.length_drop, List.length_take]; rfl)) ?_; (with_reducible refine (fix_F_Times.calls t135 (IntKind.u64.wrap (a1)) t136 _ A19.out).mono ?_); rintro e w' ⟨rfl, ⟨nd, rfl⟩⟩; refine ⟨_, rfl, ?_⟩))
          go_ret2
          exact ⟨by first | rfl | (simp [errW_none, errW_some] <;> rfl) | (simp [*, errW_none, errW_some] <;> rfl), by repeat (first | (with_reducible first | exact HB.out | apply below_alloc | apply pw_below_drewN | apply below_drew1) | exact HB.out)⟩

end Go.Proofs.Ytejminfpgnlpkaa.PSuppressOnce
