-- Written by ext.sh (the session's own program, over the kit's printer) out of the translation. Lean checks it.
import Derived.Test.YtcompobggmdofaaPLogsTellx0
import Derived.Test.YtcompobggmdofaaPLogsTellx1
import Derived.Test.YtcompobggmdofaaPLogsTellx2
namespace Go.Proofs.Ytcompobggmdofaa.PLogsTell
open Go.RowKit Go.Proofs.YtcompobggmdofaaW.PrintWords Go.Proofs.YtcompobggmdofaaW.PrintLast Go.Proofs.YtcompobggmdofaaW.PrintMore
attribute [local go_sem] max2_int min2_int max_two min_two max_three min_three max_four min_four   -- for this text's walks alone
set_option linter.unusedVariables false
set_option linter.unusedSimpArgs false

/-! ### logs_Ln: function 15 -/
def logs_Ln.f (a0 : Int) : Option (Int × Bool) := (logs_Log.f a0).bind fun bt151 => (some ((wrap64 (bt151.1 * 45426)) / 65536, bt151.2))
set_option maxHeartbeats 8000000 in
set_option maxRecDepth 100000 in
theorem logs_Ln.calls (a0 : Int) (r1 : Int) (r2 : Bool) (w : World) (h : logs_Ln.f a0 = some (r1, r2)) :
    Calls Try.prog 15 #[.int .u64 a0] w fun e w' => e = .returned (.tuple #[.int .i64 r1, .bool r2]) ∧ Below w.heap.size w w' := by
  have HB := Aside0.mk (Below.refl w.heap.size w)
  have H : ((logs_Log.f a0).bind fun bt151 => (some ((wrap64 (bt151.1 * 45426)) / 65536, bt151.2))) = some (r1, r2) := h
  clear h
  replace H := Option.bind_eq_some_iff.mp H
  obtain ⟨⟨t151, t152⟩, A20, H⟩ := H
  replace H : (some ((wrap64 (t151 * 45426)) / 65536, t152)) = some (r1, r2) := H
  have A2 := Aside0.mk A20
  clear A20
  simp only [Option.some.injEq, Prod.mk.injEq] at H
  obtain ⟨rfl, rfl⟩ := H
  go_enter Try.func15, Try.ntmps15
  go_wp2_with (first | ((with_reducible refine gate_callee (f := 8) rfl ?_); refine goesL_ (some 8) rfl rfl Try.func8 (by kernel_rfl) rfl #[.int .u64 a0] rfl (by (try simp only [List.map_toArray, List.map_cons, List.map_nil]); first | done | rfl | (simp only [List.length_drop, List.length_take]; rfl)) ?_; (with_reducible refine (logs_Log.calls a0 t151 t152 _ A2.out).mono ?_); rintro e w3 ⟨rfl, hb⟩; refine ⟨_, rfl, ?_⟩; have n0_ := Aside0.mk (below_step (by repeat (first | (with_reducible first | exact HB.out | apply below_alloc | apply pw_below_drewN | apply below_drew1) | exact HB.out)) hb); clear HB; have HB := n0_; clear n0_; (try clear hb); (try clear hb2); (try clear hk); (try clear hi)))
  go_ret2
  exact ⟨by first | rfl | (simp [errW_none, errW_some] <;> rfl) | (simp [*, errW_none, errW_some] <;> rfl), by repeat (first | (with_reducible first | exact HB.out | apply below_alloc | apply pw_below_drewN | apply below_drew1) | exact HB.out)⟩

/-! ### terraceref02_Table: function 13 -/
def terraceref02_Table.f  : Option (Int × Int × Int × Int × Int × Int × Int × Int × Int × Int × Int × Int × Int × Int × Int × Int × Int) := some (0, 5732, 11136, 16248, 21098, 25711, 30109, 34312, 38336, 42196, 45904, 49472, 52911, 56229, 59434, 62534, 65536)
set_option maxHeartbeats 8000000 in
set_option maxRecDepth 100000 in
theorem terraceref02_Table.calls  (r1 : Int) (r2 : Int) (r3 : Int) (r4 : Int) (r5 : Int) (r6 : Int) (r7 : Int) (r8 : Int) (r9 : Int) (r10 : Int) (r11 : Int) (r12 : Int) (r13 : Int) (r14 : Int) (r15 : Int) (r16 : Int) (r17 : Int) (w : World) (h : terraceref02_Table.f  = some (r1, r2, r3, r4, r5, r6, r7, r8, r9, r10, r11, r12, r13, r14, r15, r16, r17)) :
    Calls Try.prog 13 #[] w fun e w' => e = .returned (.agg #[.int .i64 r1, .int .i64 r2, .int .i64 r3, .int .i64 r4, .int .i64 r5, .int .i64 r6, .int .i64 r7, .int .i64 r8, .int .i64 r9, .int .i64 r10, .int .i64 r11, .int .i64 r12, .int .i64 r13, .int .i64 r14, .int .i64 r15, .int .i64 r16, .int .i64 r17]) ∧ Below w.heap.size w w' := by
  have hu33 := Try.underlying33
  have HB := Aside0.mk (Below.refl w.heap.size w)
  have H : (some (0, 5732, 11136, 16248, 21098, 25711, 30109, 34312, 38336, 42196, 45904, 49472, 52911, 56229, 59434, 62534, 65536)) = some (r1, r2, r3, r4, r5, r6, r7, r8, r9, r10, r11, r12, r13, r14, r15, r16, r17) := h
  clear h
  simp only [Option.some.injEq, Prod.mk.injEq] at H
  obtain ⟨rfl, rfl, rfl, rfl, rfl, rfl, rfl, rfl, rfl, rfl, rfl, rfl, rfl, rfl, rfl, rfl, rfl⟩ := H
  go_enter Try.func13, Try.ntmps13
  go_wp2_with (first | ((with_reducible refine gate_dst (N := 0) rfl ?_); refine box_event ?hg (N := 0) ?hd (cs := #[.int .i64 0, .int .i64 0, .int .i64 0, .int .i64 0, .int .i64 0, .int .i64 0, .int .i64 0, .int .i64 0, .int .i64 0, .int .i64 0, .int .i64 0, .int .i64 0, .int .i64 0, .int .i64 0, .int .i64 0, .int .i64 0, .int .i64 0]) (t := 33) ?hr ?_; (case hd => rfl); (case hg => rfl); (case hr => first | (go_simp; done) | (go_simp; rfl)); intro gb153 hg w1 hbox hb; have n0_ := Aside0.mk (below_step (by repeat (first | (with_reducible first | exact HB.out | apply below_alloc | apply pw_below_drewN | apply below_drew1) | exact HB.out)) hb); have n1_ := Aside0.mk (hbox); have n2_ := Aside0.mk ((by rw [hg]; exact (below_size (by repeat (first | (with_reducible first | exact HB.out | apply below_alloc | apply pw_below_drewN | apply below_drew1) | exact HB.out))) : w.heap.size ≤ gb153)); have n3_ := Aside0.mk ((by rw [hg]; exact (below_size (by repeat (first | (with_reducible first | exact HB.out | apply below_alloc | apply pw_below_drewN | apply below_drew1) | exact HB.out))) : w.heap.size ≤ gb153)); clear HB; have HB := n0_; have BK153 := n1_; have GW153 := n2_; have GE153 := n3_; clear n0_ n1_ n2_ n3_; clear hb hbox hg; have hcz2_0 : w1.cell? ⟨gb153, 0, none⟩ = some (.int .i64 0) := (blk_cell BK153.out 0).trans rfl; have hcz2_1 : w1.cell? ⟨gb153, 1, none⟩ = some (.int .i64 0) := (blk_cell BK153.out 1).trans rfl; have hcz2_2 : w1.cell? ⟨gb153, 2, none⟩ = some (.int .i64 0) := (blk_cell BK153.out 2).trans rfl; have hcz2_3 : w1.cell? ⟨gb153, 3, none⟩ = some (.int .i64 0) := (blk_cell BK153.out 3).trans rfl; have hcz2_4 : w1.cell? ⟨gb153, 4, none⟩ = some (.int .i64 0) := (blk_cell BK153.out 4).trans rfl; have hcz2_5 : w1.cell? ⟨gb153, 5, none⟩ = some (.int .i64 0) := (blk_cell BK153.out 5).trans rfl; have hcz2_6 : w1.cell? ⟨gb153, 6, none⟩ = some (.int .i64 0) := (blk_cell BK153.out 6).trans rfl; have hcz2_7 : w1.cell? ⟨gb153, 7, none⟩ = some (.int .i64 0) := (blk_cell BK153.out 7).trans rfl; have hcz2_8 : w1.cell? ⟨gb153, 8, none⟩ = some (.int .i64 0) := (blk_cell BK153.out 8).trans rfl; have hcz2_9 : w1.cell? ⟨gb153, 9, none⟩ = some (.int .i64 0) := (blk_cell BK153.out 9).trans rfl; have hcz2_10 : w1.cell? ⟨gb153, 10, none⟩ = some (.int .i64 0) := (blk_cell BK153.out 10).trans rfl; have hcz2_11 : w1.cell? ⟨gb153, 11, none⟩ = some (.int .i64 0) := (blk_cell BK153.out 11).trans rfl; have hcz2_12 : w1.cell? ⟨gb153, 12, none⟩ = some (.int .i64 0) := (blk_cell BK153.out 12).trans rfl; have hcz2_13 : w1.cell? ⟨gb153, 13, none⟩ = some (.int .i64 0) := (blk_cell BK153.out 13).trans rfl; have hcz2_14 : w1.cell? ⟨gb153, 14, none⟩ = some (.int .i64 0) := (blk_cell BK153.out 14).trans rfl; have hcz2_15 : w1.cell? ⟨gb153, 15, none⟩ = some (.int .i64 0) := (blk_cell BK153.out 15).trans rfl; have hcz2_16 : w1.cell? ⟨gb153, 16, none⟩ = some (.int .i64 0) := (blk_cell BK153.out 16).trans rfl; have hfz2_0 := blk_frozen BK153.out 0; have hfz2_1 := blk_frozen BK153.out 1; have hfz2_2 := blk_frozen BK153.out 2; have hfz2_3 := blk_frozen BK153.out 3; have hfz2_4 := blk_frozen BK153.out 4; have hfz2_5 := blk_frozen BK153.out 5; have hfz2_6 := blk_frozen BK153.out 6; have hfz2_7 := blk_frozen BK153.out 7; have hfz2_8 := blk_frozen BK153.out 8; have hfz2_9 := blk_frozen BK153.out 9; have hfz2_10 := blk_frozen BK153.out 10; have hfz2_11 := blk_frozen BK153.out 11; have hfz2_12 := blk_frozen BK153.out 12; have hfz2_13 := blk_frozen BK153.out 13; have hfz2_14 := blk_frozen BK153.out 14; have hfz2_15 := blk_frozen BK153.out 15; have hfz2_16 := blk_frozen BK153.out 16))
  refine bodyPost_ret (results_cell_row rfl _ _ gb153 33 #[.int .i64 0, .int .i64 5732, .int .i64 11136, .int .i64 16248, .int .i64 21098, .int .i64 25711, .int .i64 30109, .int .i64 34312, .int .i64 38336, .int .i64 42196, .int .i64 45904, .int .i64 49472, .int .i64 52911, .int .i64 56229, .int .i64 59434, .int .i64 62534, .int .i64 65536] (0, 0) _ rfl (by (with_reducible repeat (first | refine blk_drewN ?_ _ | refine blk_drew ?_ | refine blk_alloc ?_ _)); refine blk_put (cs := #[.int .i64 0, .int .i64 5732, .int .i64 11136, .int .i64 16248, .int .i64 21098, .int .i64 25711, .int .i64 30109, .int .i64 34312, .int .i64 38336, .int .i64 42196, .int .i64 45904, .int .i64 49472, .int .i64 52911, .int .i64 56229, .int .i64 59434, .int .i64 62534, .int .i64 0]) ?_ 16 _ rfl; (with_reducible repeat (first | refine blk_drewN ?_ _ | refine blk_drew ?_ | refine blk_alloc ?_ _)); refine blk_put (cs := #[.int .i64 0, .int .i64 5732, .int .i64 11136, .int .i64 16248, .int .i64 21098, .int .i64 25711, .int .i64 30109, .int .i64 34312, .int .i64 38336, .int .i64 42196, .int .i64 45904, .int .i64 49472, .int .i64 52911, .int .i64 56229, .int .i64 59434, .int .i64 0, .int .i64 0]) ?_ 15 _ rfl; (with_reducible repeat (first | refine blk_drewN ?_ _ | refine blk_drew ?_ | refine blk_alloc ?_ _)); refine blk_put (cs := #[.int .i64 0, .int .i64 5732, .int .i64 11136, .int .i64 16248, .int .i64 21098, .int .i64 25711, .int .i64 30109, .int .i64 34312, .int .i64 38336, .int .i64 42196, .int .i64 45904, .int .i64 49472, .int .i64 52911, .int .i64 56229, .int .i64 0, .int .i64 0, .int .i64 0]) ?_ 14 _ rfl; (with_reducible repeat (first | refine blk_drewN ?_ _ | refine blk_drew ?_ | refine blk_alloc ?_ _)); refine blk_put (cs := #[.int .i64 0, .int .i64 5732, .int .i64 11136, .int .i64 16248, .int .i64 21098, .int .i64 25711, .int .i64 30109, .int .i64 34312, .int .i64 38336, .int .i64 42196, .int .i64 45904, .int .i64 49472, .int .i64 52911, .int .i64 0, .int .i64 0, .int .i64 0, .int .i64 0]) ?_ 13 _ rfl; (with_reducible repeat (first | refine blk_drewN ?_ _ | refine blk_drew ?_ | refine blk_alloc ?_ _)); refine blk_put (cs := #[.int .i64 0, .int .i64 5732, .int .i64 11136, .int .i64 16248, .int .i64 21098, .int .i64 25711, .int .i64 30109, .int .i64 34312, .int .i64 38336, .int .i64 42196, .int .i64 45904, .int .i64 49472, .int .i64 0, .int .i64 0, .int .i64 0, .int .i64 0, .int .i64 0]) ?_ 12 _ rfl; (with_reducible repeat (first | refine blk_drewN ?_ _ | refine blk_drew ?_ | refine blk_alloc ?_ _)); refine blk_put (cs := #[.int .i64 0, .int .i64 5732, .int .i64 11136, .int .i64 16248, .int .i64 21098, .int .i64 25711, .int .i64 30109, .int .i64 34312, .int .i64 38336, .int .i64 42196, .int .i64 45904, .int .i64 0, .int .i64 0, .int .i64 0, .int .i64 0, .int .i64 0, .int .i64 0]) ?_ 11 _ rfl; (with_reducible repeat (first | refine blk_drewN ?_ _ | refine blk_drew ?_ | refine blk_alloc ?_ _)); refine blk_put (cs := #[.int .i64 0, .int .i64 5732, .int .i64 11136, .int .i64 16248, .int .i64 21098, .int .i64 25711, .int .i64 30109, .int .i64 34312, .int .i64 38336, .int .i64 42196, .int .i64 0, .int .i64 0, .int .i64 0, .int .i64 0, .int .i64 0, .int .i64 0, .int .i64 0]) ?_ 10 _ rfl; (with_reducible repeat (first | refine blk_drewN ?_ _ | refine blk_drew ?_ | refine blk_alloc ?_ _)); refine blk_put (cs := #[.int .i64 0, .int .i64 5732, .int .i64 11136, .int .i64 16248, .int .i64 21098, .int .i64 25711, .int .i64 30109, .int .i64 34312, .int .i64 38336, .int .i64 0, .int .i64 0, .int .i64 0, .int .i64 0, .int .i64 0, .int .i64 0, .int .i64 0, .int .i64 0]) ?_ 9 _ rfl; (with_reducible repeat (first | refine blk_drewN ?_ _ | refine blk_drew ?_ | refine blk_alloc ?_ _)); refine blk_put (cs := #[.int .i64 0, .int .i64 5732, .int .i64 11136, .int .i64 16248, .int .i64 21098, .int .i64 25711, .int .i64 30109, .int .i64 34312, .int .i64 0, .int .i64 0, .int .i64 0, .int .i64 0, .int .i64 0, .int .i64 0, .int .i64 0, .int .i64 0, .int .i64 0]) ?_ 8 _ rfl; (with_reducible repeat (first | refine blk_drewN ?_ _ | refine blk_drew ?_ | refine blk_alloc ?_ _)); refine blk_put (cs := #[.int .i64 0, .int .i64 5732, .int .i64 11136, .int .i64 16248, .int .i64 21098, .int .i64 25711, .int .i64 30109, .int .i64 0, .int .i64 0, .int .i64 0, .int .i64 0, .int .i64 0, .int .i64 0, .int .i64 0, .int .i64 0, .int .i64 0, .int .i64 0]) ?_ 7 _ rfl; (with_reducible repeat (first | refine blk_drewN ?_ _ | refine blk_drew ?_ | refine blk_alloc ?_ _)); refine blk_put (cs := #[.int .i64 0, .int .i64 5732, .int .i64 11136, .int .i64 16248, .int .i64 21098, .int .i64 25711, .int .i64 0, .int .i64 0, .int .i64 0, .int .i64 0, .int .i64 0, .int .i64 0, .int .i64 0, .int .i64 0, .int .i64 0, .int .i64 0, .int .i64 0]) ?_ 6 _ rfl; (with_reducible repeat (first | refine blk_drewN ?_ _ | refine blk_drew ?_ | refine blk_alloc ?_ _)); refine blk_put (cs := #[.int .i64 0, .int .i64 5732, .int .i64 11136, .int .i64 16248, .int .i64 21098, .int .i64 0, .int .i64 0, .int .i64 0, .int .i64 0, .int .i64 0, .int .i64 0, .int .i64 0, .int .i64 0, .int .i64 0, .int .i64 0, .int .i64 0, .int .i64 0]) ?_ 5 _ rfl; (with_reducible repeat (first | refine blk_drewN ?_ _ | refine blk_drew ?_ | refine blk_alloc ?_ _)); refine blk_put (cs := #[.int .i64 0, .int .i64 5732, .int .i64 11136, .int .i64 16248, .int .i64 0, .int .i64 0, .int .i64 0, .int .i64 0, .int .i64 0, .int .i64 0, .int .i64 0, .int .i64 0, .int .i64 0, .int .i64 0, .int .i64 0, .int .i64 0, .int .i64 0]) ?_ 4 _ rfl; (with_reducible repeat (first | refine blk_drewN ?_ _ | refine blk_drew ?_ | refine blk_alloc ?_ _)); refine blk_put (cs := #[.int .i64 0, .int .i64 5732, .int .i64 11136, .int .i64 0, .int .i64 0, .int .i64 0, .int .i64 0, .int .i64 0, .int .i64 0, .int .i64 0, .int .i64 0, .int .i64 0, .int .i64 0, .int .i64 0, .int .i64 0, .int .i64 0, .int .i64 0]) ?_ 3 _ rfl; (with_reducible repeat (first | refine blk_drewN ?_ _ | refine blk_drew ?_ | refine blk_alloc ?_ _)); refine blk_put (cs := #[.int .i64 0, .int .i64 5732, .int .i64 0, .int .i64 0, .int .i64 0, .int .i64 0, .int .i64 0, .int .i64 0, .int .i64 0, .int .i64 0, .int .i64 0, .int .i64 0, .int .i64 0, .int .i64 0, .int .i64 0, .int .i64 0, .int .i64 0]) ?_ 2 _ rfl; (with_reducible repeat (first | refine blk_drewN ?_ _ | refine blk_drew ?_ | refine blk_alloc ?_ _)); refine blk_put (cs := #[.int .i64 0, .int .i64 0, .int .i64 0, .int .i64 0, .int .i64 0, .int .i64 0, .int .i64 0, .int .i64 0, .int .i64 0, .int .i64 0, .int .i64 0, .int .i64 0, .int .i64 0, .int .i64 0, .int .i64 0, .int .i64 0, .int .i64 0]) ?_ 1 _ rfl; (with_reducible repeat (first | refine blk_drewN ?_ _ | refine blk_drew ?_ | refine blk_alloc ?_ _)); refine blk_put (cs := #[.int .i64 0, .int .i64 0, .int .i64 0, .int .i64 0, .int .i64 0, .int .i64 0, .int .i64 0, .int .i64 0, .int .i64 0, .int .i64 0, .int .i64 0, .int .i64 0, .int .i64 0, .int .i64 0, .int .i64 0, .int .i64 0, .int .i64 0]) ?_ 0 _ rfl; (with_reducible repeat (first | refine blk_drewN ?_ _ | refine blk_drew ?_ | refine blk_alloc ?_ _)); exact BK153.out) Try.underlying33 rfl (by kernel_rfl)) rfl ?_
  exact ⟨by first | rfl | (simp [errW_none, errW_some] <;> rfl) | (simp [*, errW_none, errW_some] <;> rfl), by repeat (first | (with_reducible first | exact HB.out | apply below_alloc | apply pw_below_drewN | apply below_drew1 | refine below_set ?_ GE153.out) | exact HB.out)⟩

/-! ### terraceref02_Log: function 16 (told by hand) -/
/-- after k halvings -/
def terraceref02_Log.half (a : Int) (k : Nat) (n : Int) : Prop := 1 ≤ n ∧ n ≤ 18446744073709551615 ∧ n * 2 ^ k ≤ a ∧ a < (n + 1) * 2 ^ k
theorem terraceref02_Log.half_next {a n : Int} {k : Nat} (h : terraceref02_Log.half a k n) (hn : 1 < n) : terraceref02_Log.half a (k + 1) (n / 2) := by
  obtain ⟨h0, h1, h2, h3⟩ := h
  have hp : (0 : Int) < 2 ^ k := Int.pow_pos (by omega)
  have e1 : n / 2 * 2 ^ (k + 1) = (2 * (n / 2)) * 2 ^ k := by rw [Int.pow_succ]; grind
  have e2 : (n / 2 + 1) * 2 ^ (k + 1) = (2 * (n / 2) + 2) * 2 ^ k := by rw [Int.pow_succ]; grind
  refine ⟨by omega, by omega, ?_, ?_⟩
  · rw [e1]; exact Int.le_trans (Int.mul_le_mul_of_nonneg_right (by omega) (by omega)) h2
  · rw [e2]; exact Int.lt_of_lt_of_le h3 (Int.mul_le_mul_of_nonneg_right (by omega) (by omega))
theorem terraceref02_Log.half_end {a n : Int} {k : Nat} (h : terraceref02_Log.half a k n) (hn : ¬ 1 < n) (ha : a ≤ 18446744073709551615) : k = a.toNat.log2 ∧ k ≤ 63 ∧ 2 ^ k ≤ a ∧ a < 2 ^ (k + 1) := by
  obtain ⟨h0, h1, h2, h3⟩ := h
  obtain rfl : n = 1 := by omega
  rw [Int.one_mul] at h2
  have e : ((1 : Int) + 1) * 2 ^ k = 2 ^ (k + 1) := by rw [Int.pow_succ]; omega
  rw [e] at h3
  have hp : (0 : Int) < 2 ^ k := Int.pow_pos (by omega)
  obtain ⟨x, rfl⟩ := Int.eq_ofNat_of_zero_le (show 0 ≤ a by omega)
  have h2' : 2 ^ k ≤ x := by exact_mod_cast h2
  have h3' : x < 2 ^ (k + 1) := by exact_mod_cast h3
  have hx : x ≠ 0 := by have := Nat.two_pow_pos k; omega
  have l1 := (Nat.le_log2 hx).2 h2'
  have l2 := (Nat.log2_lt hx).2 h3'
  have hk : k ≤ 63 := by
    have h4 : x < 2 ^ 64 := by omega
    have l3 := (Nat.log2_lt hx).2 h4
    omega
  exact ⟨by rw [Int.toNat_natCast]; omega, hk, h2, h3⟩
/-- a doubled up to place j, from k on -/
theorem terraceref02_Log.dbl {a : Int} {k j : Nat} (hj : k ≤ j) (h2 : 2 ^ k ≤ a) (h3 : a < 2 ^ (k + 1)) : 2 ^ j ≤ a * 2 ^ (j - k) ∧ a * 2 ^ (j - k) < 2 ^ (j + 1) := by
  have hp : (0 : Int) < 2 ^ (j - k) := Int.pow_pos (by omega)
  have e1 : (2 : Int) ^ j = 2 ^ k * 2 ^ (j - k) := by rw [← Int.pow_add]; congr 1; omega
  have e2 : (2 : Int) ^ (j + 1) = 2 ^ (k + 1) * 2 ^ (j - k) := by rw [← Int.pow_add]; congr 1; omega
  rw [e1, e2]
  exact ⟨Int.mul_le_mul_of_nonneg_right h2 (by omega), Int.mul_lt_mul_of_pos_right h3 hp⟩
theorem terraceref02_Log.pw_le {j : Nat} (hj : j ≤ 63) : (2 : Int) ^ (j + 1) ≤ 18446744073709551616 := by
  have : (2 : Int) ^ (j + 1) ≤ 2 ^ 64 := by exact_mod_cast Nat.pow_le_pow_right (by omega) (show j + 1 ≤ 64 by omega)
  omega
def terraceref02_Log.tab : List Int := [0, 5732, 11136, 16248, 21098, 25711, 30109, 34312, 38336, 42196, 45904, 49472, 52911, 56229, 59434, 62534, 65536]
def terraceref02_Log.tb (k : Nat) : Int := terraceref02_Log.tab.getD k 0
def terraceref02_Log.e (a : Int) : Nat := a.toNat.log2
def terraceref02_Log.q (a : Int) : Int := a * 2 ^ (63 - terraceref02_Log.e a) - 9223372036854775808
def terraceref02_Log.i (a : Int) : Int := terraceref02_Log.q a / 576460752303423488
def terraceref02_Log.r (a : Int) : Int := terraceref02_Log.q a % 576460752303423488 / 2147483648
def terraceref02_Log.v (a : Int) : Int := ((terraceref02_Log.e a : Int) - 32) * 65536 + terraceref02_Log.tb (terraceref02_Log.i a).toNat + (terraceref02_Log.tb ((terraceref02_Log.i a).toNat + 1) - terraceref02_Log.tb (terraceref02_Log.i a).toNat) * terraceref02_Log.r a / 268435456
def terraceref02_Log.f (a0 : Int) : Option (Int) := if 1 ≤ a0 ∧ a0 ≤ 18446744073709551615 then some (terraceref02_Log.v a0) else none
theorem terraceref02_Log.row_at (w : World) (k : Nat) (hk : k < 17) : (w.alloc (.cells #[.int .i64 0, .int .i64 5732, .int .i64 11136, .int .i64 16248, .int .i64 21098, .int .i64 25711, .int .i64 30109, .int .i64 34312, .int .i64 38336, .int .i64 42196, .int .i64 45904, .int .i64 49472, .int .i64 52911, .int .i64 56229, .int .i64 59434, .int .i64 62534, .int .i64 65536] 33)).cell? ⟨w.heap.size, k, none⟩ = some (.int .i64 (terraceref02_Log.tb k)) := by
  refine (blk_cell (heap_alloc_new w (.cells #[.int .i64 0, .int .i64 5732, .int .i64 11136, .int .i64 16248, .int .i64 21098, .int .i64 25711, .int .i64 30109, .int .i64 34312, .int .i64 38336, .int .i64 42196, .int .i64 45904, .int .i64 49472, .int .i64 52911, .int .i64 56229, .int .i64 59434, .int .i64 62534, .int .i64 65536] 33)) k).trans ?_
  have : k = 0 ∨ k = 1 ∨ k = 2 ∨ k = 3 ∨ k = 4 ∨ k = 5 ∨ k = 6 ∨ k = 7 ∨ k = 8 ∨ k = 9 ∨ k = 10 ∨ k = 11 ∨ k = 12 ∨ k = 13 ∨ k = 14 ∨ k = 15 ∨ k = 16 := by omega
  rcases this with rfl | rfl | rfl | rfl | rfl | rfl | rfl | rfl | rfl | rfl | rfl | rfl | rfl | rfl | rfl | rfl | rfl <;> rfl
theorem terraceref02_Log.tb_le (k : Nat) (hk : k < 16) : 0 ≤ terraceref02_Log.tb k ∧ terraceref02_Log.tb k ≤ terraceref02_Log.tb (k + 1) ∧ terraceref02_Log.tb (k + 1) ≤ 65536 := by
  have : k = 0 ∨ k = 1 ∨ k = 2 ∨ k = 3 ∨ k = 4 ∨ k = 5 ∨ k = 6 ∨ k = 7 ∨ k = 8 ∨ k = 9 ∨ k = 10 ∨ k = 11 ∨ k = 12 ∨ k = 13 ∨ k = 14 ∨ k = 15 := by omega
  rcases this with rfl | rfl | rfl | rfl | rfl | rfl | rfl | rfl | rfl | rfl | rfl | rfl | rfl | rfl | rfl | rfl <;> decide
set_option maxRecDepth 100000 in
set_option maxHeartbeats 8000000 in
theorem terraceref02_Log.table (w : World) : Calls Try.prog 13 #[] w fun e w' => e = .returned (.agg #[.int .i64 0, .int .i64 5732, .int .i64 11136, .int .i64 16248, .int .i64 21098, .int .i64 25711, .int .i64 30109, .int .i64 34312, .int .i64 38336, .int .i64 42196, .int .i64 45904, .int .i64 49472, .int .i64 52911, .int .i64 56229, .int .i64 59434, .int .i64 62534, .int .i64 65536]) ∧ Below w.heap.size w w' := by
  have hu := Try.underlying33
  go_enter Try.func13, Try.ntmps13
  go_wp2
  exact bodyPost_ret (v := .agg #[.int .i64 0, .int .i64 5732, .int .i64 11136, .int .i64 16248, .int .i64 21098, .int .i64 25711, .int .i64 30109, .int .i64 34312, .int .i64 38336, .int .i64 42196, .int .i64 45904, .int .i64 49472, .int .i64 52911, .int .i64 56229, .int .i64 59434, .int .i64 62534, .int .i64 65536]) (by simp [results, Try.results13, go_sem]) rfl ⟨rfl, below_alloc (Below.refl _ _) _⟩
set_option maxRecDepth 100000 in
set_option maxHeartbeats 8000000 in
theorem terraceref02_Log.calls (a0 : Int) (r1 : Int) (w : World) (h : terraceref02_Log.f a0 = some r1) :
    Calls Try.prog 16 #[.int .u64 a0] w fun e w' => e = .returned (.int .i64 r1) ∧ Below w.heap.size w w' := by
  unfold terraceref02_Log.f at h
  by_cases hc : 1 ≤ a0 ∧ a0 ≤ 18446744073709551615
  rotate_left
  · rw [if_neg hc] at h; cases h
  rw [if_pos hc] at h
  obtain rfl := Option.some.inj h
  obtain ⟨h0, h1⟩ := hc
  clear h
  have HB := Aside0.mk (Below.refl w.heap.size w)
  go_enter Try.func16, Try.ntmps16
  go_wp2
  go_loop [3, 4] (fun v3 v4 => ∃ (k : Nat) (n : Int), v3 = .int .i64 k ∧ v4 = .int .u64 n ∧ terraceref02_Log.half a0 k n ∧ k ≤ 63) (fun _ v4 => (intOf v4).toNat)
  case atStart => exact ⟨0, a0, rfl, rfl, ⟨h0, h1, by simp, by simp; omega⟩, by omega⟩
  case round =>
    obtain ⟨k, n, rfl, rfl, hH, hk⟩ := hrel
    have hn0 := hH.1
    have hn1 := hH.2.1
    by_cases hlt : 1 < n
    · have hN := Aside0.mk (terraceref02_Log.half_next hH hlt)
      have hk2 : k + 1 ≤ 63 := by
        have h4 := hN.out
        have h5 : (2 : Int) ^ (k + 1) ≤ a0 := Int.le_trans (by have := Int.mul_le_mul_of_nonneg_right h4.1 (show (0 : Int) ≤ 2 ^ (k + 1) from Int.le_of_lt (Int.pow_pos (by omega))); rwa [Int.one_mul] at this) h4.2.2.1
        by_cases h6 : k + 1 ≤ 63
        · exact h6
        · obtain rfl : k = 63 := by omega
          omega
      have HH := Aside0.mk hH
      clear hH
      go_wp2
      go_round
      case rel => exact ⟨k + 1, n / 2, by go_num, rfl, hN.out, hk2⟩
      case measure => simp [intOf]; omega
    · have hE := Aside0.mk (terraceref02_Log.half_end hH hlt h1)
      clear hH
      go_wp2
      go_loop [5, 6] (fun v5 v6 => ∃ (j : Nat) (m : Int), v5 = .int .u64 m ∧ v6 = .int .i64 j ∧ k ≤ j ∧ j ≤ 63 ∧ Aside0 (m = a0 * 2 ^ (j - k))) (fun _ v6 => 63 - (intOf v6).toNat)
      case atStart => exact ⟨k, a0, rfl, rfl, Nat.le_refl _, hk, ⟨by simp⟩⟩
      case round =>
        obtain ⟨j, m, rfl, rfl, hj0, hj1, hM⟩ := hrel
        have hD := terraceref02_Log.dbl hj0 hE.out.2.2.1 hE.out.2.2.2
        rw [← hM.out] at hD
        have hm0 : 0 ≤ m := Int.le_trans (Int.le_of_lt (Int.pow_pos (by omega))) hD.1
        by_cases hlt2 : j < 63
        · have hm1 : m * 2 ≤ 18446744073709551615 := by
            have h6 := terraceref02_Log.pw_le (show j + 1 ≤ 63 by omega)
            have h7 : (2 : Int) ^ (j + 1 + 1) = 2 ^ (j + 1) * 2 := Int.pow_succ ..
            have h8 := hD.2
            omega
          have hM2 := Aside0.mk (show m * 2 = a0 * 2 ^ (j + 1 - k) by rw [hM.out, show j + 1 - k = (j - k) + 1 by omega, Int.pow_succ]; grind)
          clear hD
          go_wp2
          go_round
          case rel => exact ⟨j + 1, m * 2, rfl, by go_num, by omega, by omega, hM2⟩
          case measure => simp [intOf]; omega
        · have hk3 := hE.out.1
          have hq : m - 9223372036854775808 = terraceref02_Log.q a0 := by
            obtain rfl : j = 63 := by omega
            unfold terraceref02_Log.q terraceref02_Log.e
            rw [← hk3, ← hM.out]
          have hqb : 9223372036854775808 ≤ m ∧ m ≤ 18446744073709551615 := by
            obtain rfl : j = 63 := by omega
            have h8 := hD.1
            have h9 := hD.2
            have h10 : (2 : Int) ^ 63 = 9223372036854775808 := by decide
            have h11 : (2 : Int) ^ (63 + 1) = 18446744073709551616 := by decide
            omega
          have hv : terraceref02_Log.v a0 = ((k : Int) - 32) * 65536 + terraceref02_Log.tb (terraceref02_Log.i a0).toNat + (terraceref02_Log.tb ((terraceref02_Log.i a0).toNat + 1) - terraceref02_Log.tb (terraceref02_Log.i a0).toNat) * terraceref02_Log.r a0 / 268435456 := by rw [hk3]; rfl
          have hi1 : terraceref02_Log.q a0 / 576460752303423488 = terraceref02_Log.i a0 := rfl
          have hr1 : terraceref02_Log.q a0 % 576460752303423488 / 2147483648 = terraceref02_Log.r a0 := rfl
          have hqr : 0 ≤ terraceref02_Log.q a0 ∧ terraceref02_Log.q a0 ≤ 9223372036854775807 := by omega
          have hib : 0 ≤ terraceref02_Log.i a0 ∧ terraceref02_Log.i a0 ≤ 15 := by omega
          have hrb : 0 ≤ terraceref02_Log.r a0 ∧ terraceref02_Log.r a0 ≤ 268435455 := by omega
          clear hD hM hk3
          obtain ⟨v, hvv⟩ : ∃ v, terraceref02_Log.v a0 = v := ⟨_, rfl⟩
          rw [hvv] at hv
          have HV := Aside0.mk hv
          have HVV := Aside0.mk hvv
          clear hv hvv
          generalize terraceref02_Log.q a0 = q at *
          generalize terraceref02_Log.i a0 = i at *
          generalize terraceref02_Log.r a0 = r at *
          have ht0 := terraceref02_Log.tb_le i.toNat (by omega)
          have hrow0 : ∀ w : World, (w.alloc (.cells #[.int .i64 0, .int .i64 5732, .int .i64 11136, .int .i64 16248, .int .i64 21098, .int .i64 25711, .int .i64 30109, .int .i64 34312, .int .i64 38336, .int .i64 42196, .int .i64 45904, .int .i64 49472, .int .i64 52911, .int .i64 56229, .int .i64 59434, .int .i64 62534, .int .i64 65536] 33)).cell? ⟨w.heap.size, i.toNat, none⟩ = some (.int .i64 (terraceref02_Log.tb i.toNat)) := fun w => terraceref02_Log.row_at w _ (by omega)
          have hrow1 : ∀ w : World, (w.alloc (.cells #[.int .i64 0, .int .i64 5732, .int .i64 11136, .int .i64 16248, .int .i64 21098, .int .i64 25711, .int .i64 30109, .int .i64 34312, .int .i64 38336, .int .i64 42196, .int .i64 45904, .int .i64 49472, .int .i64 52911, .int .i64 56229, .int .i64 59434, .int .i64 62534, .int .i64 65536] 33)).cell? ⟨w.heap.size, i.toNat + 1, none⟩ = some (.int .i64 (terraceref02_Log.tb (i.toNat + 1))) := fun w => terraceref02_Log.row_at w _ (by omega)
          generalize terraceref02_Log.tb i.toNat = t0 at *
          generalize terraceref02_Log.tb (i.toNat + 1) = t1 at *
          obtain ⟨p, hp⟩ : ∃ p, (t1 - t0) * r = p := ⟨_, rfl⟩
          have hpb : 0 ≤ p ∧ p ≤ 65536 * 268435455 := by
            rw [← hp]
            exact ⟨Int.mul_nonneg (by omega) hrb.1, Int.mul_le_mul (by omega) hrb.2 hrb.1 (by omega)⟩
          have HV2 := HV.out
          rw [hp] at HV2
          have HV3 := Aside0.mk HV2
          have HR0 := Aside0.mk hrow0
          have HR1 := Aside0.mk hrow1
          have HE := Aside0.mk hE
          clear HV HV2 hrow0 hrow1 hE
          have hu := Try.underlying33
          have hd1 : decide ((j : Int) < 63) = false := by simp; omega
          go_wp2_with (go_at_call 13; refine (terraceref02_Log.table _).mono ?_; rintro e w1 ⟨rfl, hb1⟩)
          have hb2 := Aside0.mk (below_alloc hb1 (.cells #[.int .i64 0, .int .i64 5732, .int .i64 11136, .int .i64 16248, .int .i64 21098, .int .i64 25711, .int .i64 30109, .int .i64 34312, .int .i64 38336, .int .i64 42196, .int .i64 45904, .int .i64 49472, .int .i64 52911, .int .i64 56229, .int .i64 59434, .int .i64 62534, .int .i64 65536] 33))
          have hq0 := HR0.out w1
          have hq1 := HR1.out w1
          clear HR0 HR1
          generalize (w1.alloc (.cells #[.int .i64 0, .int .i64 5732, .int .i64 11136, .int .i64 16248, .int .i64 21098, .int .i64 25711, .int .i64 30109, .int .i64 34312, .int .i64 38336, .int .i64 42196, .int .i64 45904, .int .i64 49472, .int .i64 52911, .int .i64 56229, .int .i64 59434, .int .i64 62534, .int .i64 65536] 33)) = w2 at hb2 hq0 hq1 ⊢
          generalize w1.heap.size = B at hq0 hq1 ⊢
          have e1 : (i + 1).toNat = i.toNat + 1 := by omega
          have q0 : i < 17 := by omega
          have q1 : i + 1 < 17 := by omega
          go_region
          have hv : ((k : Int) - 32) * 65536 + t0 + p / 268435456 = v := HV3.out.symm
          go_wp2
          go_ret
          exact ⟨by rw [HVV.out]; rfl, hb2.out.drew⟩

/-! ### terraceref02_Ln: function 17 -/
def terraceref02_Ln.f (a0 : Int) : Option (Int) := (terraceref02_Log.f a0).bind fun t154 => (if (wrap64 (t154 * 45426)) < 0 then (some (wrap64 (-(wrap64 (Int.tdiv (wrap64 ((wrap64 (-(wrap64 (t154 * 45426)))) + 65535)) 65536))))) else (some (wrap64 (Int.tdiv (wrap64 (t154 * 45426)) 65536))))
set_option maxHeartbeats 8000000 in
set_option maxRecDepth 100000 in
theorem terraceref02_Ln.calls (a0 : Int) (r : Int) (w : World) (h : terraceref02_Ln.f a0 = some r) :
    Calls Try.prog 17 #[.int .u64 a0] w fun e w' => e = .returned (.int .i64 r) ∧ Below w.heap.size w w' := by
  have HB := Aside0.mk (Below.refl w.heap.size w)
  have H : ((terraceref02_Log.f a0).bind fun t154 => (if (wrap64 (t154 * 45426)) < 0 then (some (wrap64 (-(wrap64 (Int.tdiv (wrap64 ((wrap64 (-(wrap64 (t154 * 45426)))) + 65535)) 65536))))) else (some (wrap64 (Int.tdiv (wrap64 (t154 * 45426)) 65536))))) = some r := h
  clear h
  replace H := Option.bind_eq_some_iff.mp H
  obtain ⟨t154, A20, H⟩ := H
  replace H : (if (wrap64 (t154 * 45426)) < 0 then (some (wrap64 (-(wrap64 (Int.tdiv (wrap64 ((wrap64 (-(wrap64 (t154 * 45426)))) + 65535)) 65536))))) else (some (wrap64 (Int.tdiv (wrap64 (t154 * 45426)) 65536)))) = some r := H
  have A2 := Aside0.mk A20
  clear A20
  by_cases c3 : (wrap64 (t154 * 45426)) < 0
  · rw [if_pos c3] at H
    have c3b0 : decide ((wrap64 (t154 * 45426)) < 0) = true := decide_eq_true c3
    clear c3
    obtain rfl := Option.some.inj H
    go_enter Try.func17, Try.ntmps17
    go_wp2_with (first | ((with_reducible refine gate_callee (f := 16) rfl ?_); refine goesL_ (some 5) rfl rfl Try.func16 (by kernel_rfl) rfl #[.int .u64 a0] rfl (by (try simp only [List.map_toArray, List.map_cons, List.map_nil]); first | done | rfl | (simp only [List.length_drop, List.length_take]; rfl)) ?_; (with_reducible refine (terraceref02_Log.calls a0 t154 _ A2.out).mono ?_); rintro e w4 ⟨rfl, hb⟩; refine ⟨_, rfl, ?_⟩; have n0_ := Aside0.mk (below_step (by repeat (first | (with_reducible first | exact HB.out | apply below_alloc | apply pw_below_drewN | apply below_drew1) | exact HB.out)) hb); clear HB; have HB := n0_; clear n0_; (try clear hb); (try clear hb2); (try clear hk); (try clear hi)))
    go_ret
    exact ⟨by first | rfl | (simp [errW_none, errW_some] <;> rfl) | (simp [*, errW_none, errW_some] <;> rfl), by repeat (first | (with_reducible first | exact HB.out | apply below_alloc | apply pw_below_drewN | apply below_drew1) | exact HB.out)⟩
  · rw [if_neg c3] at H
    have c3b0 : decide ((wrap64 (t154 * 45426)) < 0) = false := decide_eq_false c3
    clear c3
    obtain rfl := Option.some.inj H
    go_enter Try.func17, Try.ntmps17
    go_wp2_with (first | ((with_reducible refine gate_callee (f := 16) rfl ?_); refine goesL_ (some 5) rfl rfl Try.func16 (by kernel_rfl) rfl #[.int .u64 a0] rfl (by (try simp only [List.map_toArray, List.map_cons, List.map_nil]); first | done | rfl | (simp only [List.length_drop, List.length_take]; rfl)) ?_; (with_reducible refine (terraceref02_Log.calls a0 t154 _ A2.out).mono ?_); rintro e w5 ⟨rfl, hb⟩; refine ⟨_, rfl, ?_⟩; have n0_ := Aside0.mk (below_step (by repeat (first | (with_reducible first | exact HB.out | apply below_alloc | apply pw_below_drewN | apply below_drew1) | exact HB.out)) hb); clear HB; have HB := n0_; clear n0_; (try clear hb); (try clear hb2); (try clear hk); (try clear hi)))
    go_ret
    exact ⟨by first | rfl | (simp [errW_none, errW_some] <;> rfl) | (simp [*, errW_none, errW_some] <;> rfl), by repeat (first | (with_reducible first | exact HB.out | apply below_alloc | apply pw_below_drewN | apply below_drew1) | exact HB.out)⟩

/-! ### terracelaw02_LogsTell: function 6 -/
def terracelaw02_LogsTell.j0 : Nat → Int → Int → Bool → Option (Bool)
  | 0, _, _, _ => none
  | k + 1, x0, x7, x61 => if x61 = true then (some false) else (if x7 < 0 then ((logs_Neg.f k x0).bind fun t163 => (if t163 = (IntKind.u64.wrap ((IntKind.u64.wrap (wrap64 (-x7))) * 65536)) then ((terracelaw02_awake.f k).bind fun t164 => (some t164)) else (some false))) else ((logs_Neg.f k x0).bind fun t165 => (if t165 = 0 then ((terracelaw02_awake.f k).bind fun t166 => (some t166)) else (some false))))
def terracelaw02_LogsTell.f (k : Nat) (a0 : Int) : Option (Bool) := (logs_Log.f a0).bind fun bt155 => ((logs_Ln.f a0).bind fun bt157 => (if a0 = 0 then (if bt155.2 = true then (some false) else (if bt155.1 = 0 then (if bt157.2 = true then (some false) else (if bt157.1 = 0 then ((logs_Neg.f k a0).bind fun t159 => (if t159 = 18446744073709551615 then ((terracelaw02_awake.f k).bind fun t160 => (some t160)) else (some false))) else (some false))) else (some false))) else ((terraceref02_Log.f a0).bind fun t161 => (if bt155.2 = true then (if bt157.2 = true then (if bt155.1 = t161 then ((terraceref02_Ln.f a0).bind fun t162 => (terracelaw02_LogsTell.j0 k a0 t161 (bt157.1 != t162))) else (terracelaw02_LogsTell.j0 k a0 t161 true)) else (terracelaw02_LogsTell.j0 k a0 t161 true)) else (terracelaw02_LogsTell.j0 k a0 t161 true)))))
theorem terracelaw02_LogsTell.mono_l : ∀ k, (∀ y0 y1 y2, LeO (terracelaw02_LogsTell.j0 k y0 y1 y2) (terracelaw02_LogsTell.j0 (k + 1) y0 y1 y2))
  | 0 => fun _ _ _ r h => by simp [terracelaw02_LogsTell.j0] at h
  | k + 1 => by
    have ih0 := terracelaw02_LogsTell.mono_l k
    · intro y0 y1 y2
      unfold terracelaw02_LogsTell.j0
      repeat' first
      | (with_reducible exact ih0 _ _ _)
      | (with_reducible exact logs_Neg.mono _ _)
      | (with_reducible exact terracelaw02_awake.mono _)
      | (with_reducible exact LeO.refl _)
      | (with_reducible exact LeO.none _)
      | (with_reducible refine LeO.ite ?_ ?_)
      | (with_reducible refine LeO.bind ?_ (fun _ => ?_))
      | exact ih0 _ _ _
      | exact logs_Neg.mono _ _
      | exact terracelaw02_awake.mono _
      | exact LeO.none _
      | refine LeO.ite ?_ ?_
      | refine LeO.bind ?_ (fun _ => ?_)
theorem terracelaw02_LogsTell.mono : ∀ a0 k, LeO (terracelaw02_LogsTell.f k a0) (terracelaw02_LogsTell.f (k + 1) a0) := by
  intro a0 k
  have ih0 := terracelaw02_LogsTell.mono_l k
  unfold terracelaw02_LogsTell.f
  repeat' first
      | (with_reducible exact ih0 _ _ _)
      | (with_reducible exact logs_Neg.mono _ _)
      | (with_reducible exact terracelaw02_awake.mono _)
      | (with_reducible exact LeO.refl _)
      | (with_reducible exact LeO.none _)
      | (with_reducible refine LeO.ite ?_ ?_)
      | (with_reducible refine LeO.bind ?_ (fun _ => ?_))
      | exact ih0 _ _ _
      | exact logs_Neg.mono _ _
      | exact terracelaw02_awake.mono _
      | exact LeO.none _
      | refine LeO.ite ?_ ?_
      | refine LeO.bind ?_ (fun _ => ?_)
set_option maxHeartbeats 8000000 in
set_option maxRecDepth 100000 in
theorem terracelaw02_LogsTell.calls (k : Nat) (a0 : Int) (r : Bool) (w : World) (h : terracelaw02_LogsTell.f k a0 = some r) :
    Calls Try.prog 6 #[.int .u64 a0] w fun e w' => e = .returned (.bool r) ∧ Below w.heap.size w w' := by
  have HB := Aside0.mk (Below.refl w.heap.size w)
  have H : ((logs_Log.f a0).bind fun bt155 => ((logs_Ln.f a0).bind fun bt157 => (if a0 = 0 then (if bt155.2 = true then (some false) else (if bt155.1 = 0 then (if bt157.2 = true then (some false) else (if bt157.1 = 0 then ((logs_Neg.f k a0).bind fun t159 => (if t159 = 18446744073709551615 then ((terracelaw02_awake.f k).bind fun t160 => (some t160)) else (some false))) else (some false))) else (some false))) else ((terraceref02_Log.f a0).bind fun t161 => (if bt155.2 = true then (if bt157.2 = true then (if bt155.1 = t161 then ((terraceref02_Ln.f a0).bind fun t162 => (terracelaw02_LogsTell.j0 k a0 t161 (bt157.1 != t162))) else (terracelaw02_LogsTell.j0 k a0 t161 true)) else (terracelaw02_LogsTell.j0 k a0 t161 true)) else (terracelaw02_LogsTell.j0 k a0 t161 true)))))) = some r := h
  clear h
  replace H := Option.bind_eq_some_iff.mp H
  obtain ⟨⟨t155, t156⟩, A20, H⟩ := H
  replace H : ((logs_Ln.f a0).bind fun bt157 => (if a0 = 0 then (if t156 = true then (some false) else (if t155 = 0 then (if bt157.2 = true then (some false) else (if bt157.1 = 0 then ((logs_Neg.f k a0).bind fun t159 => (if t159 = 18446744073709551615 then ((terracelaw02_awake.f k).bind fun t160 => (some t160)) else (some false))) else (some false))) else (some false))) else ((terraceref02_Log.f a0).bind fun t161 => (if t156 = true then (if bt157.2 = true then (if t155 = t161 then ((terraceref02_Ln.f a0).bind fun t162 => (terracelaw02_LogsTell.j0 k a0 t161 (bt157.1 != t162))) else (terracelaw02_LogsTell.j0 k a0 t161 true)) else (terracelaw02_LogsTell.j0 k a0 t161 true)) else (terracelaw02_LogsTell.j0 k a0 t161 true))))) = some r := H
  have A2 := Aside0.mk A20
  clear A20
  replace H := Option.bind_eq_some_iff.mp H
  obtain ⟨⟨t157, t158⟩, A30, H⟩ := H
  replace H : (if a0 = 0 then (if t156 = true then (some false) else (if t155 = 0 then (if t158 = true then (some false) else (if t157 = 0 then ((logs_Neg.f k a0).bind fun t159 => (if t159 = 18446744073709551615 then ((terracelaw02_awake.f k).bind fun t160 => (some t160)) else (some false))) else (some false))) else (some false))) else ((terraceref02_Log.f a0).bind fun t161 => (if t156 = true then (if t158 = true then (if t155 = t161 then ((terraceref02_Ln.f a0).bind fun t162 => (terracelaw02_LogsTell.j0 k a0 t161 (t157 != t162))) else (terracelaw02_LogsTell.j0 k a0 t161 true)) else (terracelaw02_LogsTell.j0 k a0 t161 true)) else (terracelaw02_LogsTell.j0 k a0 t161 true)))) = some r := H
  have A3 := Aside0.mk A30
  clear A30
  by_cases c4 : a0 = 0
  · rw [if_pos c4] at H
    have c4b0 : (a0 == 0) = true := beq_iff_eq.mpr c4
    have c4b1 : (a0 != 0) = false := bne_eq_false_iff_eq.mpr c4
    clear c4
    by_cases c5 : t156 = true
    · subst c5
      have H1 : (some false) = some r := by rw [if_pos rfl] at H; exact H
      clear H
      have H := H1
      clear H1
      obtain rfl := Option.some.inj H
      go_enter Try.func6, Try.ntmps6
      go_wp2_with (first | ((with_reducible refine gate_callee (f := 8) rfl ?_); refine goesL_ (some 11) rfl rfl Try.func8 (by kernel_rfl) rfl #[.int .u64 a0] rfl (by (try simp only [List.map_toArray, List.map_cons, List.map_nil]); first | done | rfl | (simp only [List.length_drop, List.length_take]; rfl)) ?_; (with_reducible refine (logs_Log.calls a0 t155 true _ A2.out).mono ?_); rintro e w6 ⟨rfl, hb⟩; refine ⟨_, rfl, ?_⟩; have n0_ := Aside0.mk (below_step (by repeat (first | (with_reducible first | exact HB.out | apply below_alloc | apply pw_below_drewN | apply below_drew1) | exact HB.out)) hb); clear HB; have HB := n0_; clear n0_; (try clear hb); (try clear hb2); (try clear hk); (try clear hi)) | ((with_reducible refine gate_callee (f := 15) rfl ?_); refine goesL_ (some 16) rfl rfl Try.func15 (by kernel_rfl) rfl #[.int .u64 a0] rfl (by (try simp only [List.map_toArray, List.map_cons, List.map_nil]); first | done | rfl | (simp only [List.length_drop, List.length_take]; rfl)) ?_; (with_reducible refine (logs_Ln.calls a0 t157 t158 _ A3.out).mono ?_); rintro e w7 ⟨rfl, hb⟩; refine ⟨_, rfl, ?_⟩; have n0_ := Aside0.mk (below_step (by repeat (first | (with_reducible first | exact HB.out | apply below_alloc | apply pw_below_drewN | apply below_drew1) | exact HB.out)) hb); clear HB; have HB := n0_; clear n0_; (try clear hb); (try clear hb2); (try clear hk); (try clear hi)))
      go_ret
      exact ⟨by first | rfl | (simp [errW_none, errW_some] <;> rfl) | (simp [*, errW_none, errW_some] <;> rfl), by repeat (first | (with_reducible first | exact HB.out | apply below_alloc | apply pw_below_drewN | apply below_drew1) | exact HB.out)⟩
    · replace c5 := Bool.eq_false_iff.mpr c5
      subst c5
      have H1 : (if t155 = 0 then (if t158 = true then (some false) else (if t157 = 0 then ((logs_Neg.f k a0).bind fun t159 => (if t159 = 18446744073709551615 then ((terracelaw02_awake.f k).bind fun t160 => (some t160)) else (some false))) else (some false))) else (some false)) = some r := by rw [if_neg (show ¬ (false = true) by decide)] at H; exact H
      clear H
      have H := H1
      clear H1
      by_cases c8 : t155 = 0
      · rw [if_pos c8] at H
        have c8b0 : (t155 == 0) = true := beq_iff_eq.mpr c8
        have c8b1 : (t155 != 0) = false := bne_eq_false_iff_eq.mpr c8
        clear c8
        by_cases c9 : t158 = true
        · subst c9
          have H1 : (some false) = some r := by rw [if_pos rfl] at H; exact H
          clear H
          have H := H1
          clear H1
          obtain rfl := Option.some.inj H
          go_enter Try.func6, Try.ntmps6
          go_wp2_with (first | ((with_reducible refine gate_callee (f := 8) rfl ?_); refine goesL_ (some 11) rfl rfl Try.func8 (by kernel_rfl) rfl #[.int .u64 a0] rfl (by (try simp only [List.map_toArray, List.map_cons, List.map_nil]); first | done | rfl | (simp only [List.length_drop, List.length_take]; rfl)) ?_; (with_reducible refine (logs_Log.calls a0 t155 false _ A2.out).mono ?_); rintro e w10 ⟨rfl, hb⟩; refine ⟨_, rfl, ?_⟩; have n0_ := Aside0.mk (below_step (by repeat (first | (with_reducible first | exact HB.out | apply below_alloc | apply pw_below_drewN | apply below_drew1) | exact HB.out)) hb); clear HB; have HB := n0_; clear n0_; (try clear hb); (try clear hb2); (try clear hk); (try clear hi)) | ((with_reducible refine gate_callee (f := 15) rfl ?_); refine goesL_ (some 16) rfl rfl Try.func15 (by kernel_rfl) rfl #[.int .u64 a0] rfl (by (try simp only [List.map_toArray, List.map_cons, List.map_nil]); first | done | rfl | (simp only [List.length_drop, List.length_take]; rfl)) ?_; (with_reducible refine (logs_Ln.calls a0 t157 true _ A3.out).mono ?_); rintro e w11 ⟨rfl, hb⟩; refine ⟨_, rfl, ?_⟩; have n0_ := Aside0.mk (below_step (by repeat (first | (with_reducible first | exact HB.out | apply below_alloc | apply pw_below_drewN | apply below_drew1) | exact HB.out)) hb); clear HB; have HB := n0_; clear n0_; (try clear hb); (try clear hb2); (try clear hk); (try clear hi)))
          go_ret
          exact ⟨by first | rfl | (simp [errW_none, errW_some] <;> rfl) | (simp [*, errW_none, errW_some] <;> rfl), by repeat (first | (with_reducible first | exact HB.out | apply below_alloc | apply pw_below_drewN | apply below_drew1) | exact HB.out)⟩
        · replace c9 := Bool.eq_false_iff.mpr c9
          subst c9
          have H1 : (if t157 = 0 then ((logs_Neg.f k a0).bind fun t159 => (if t159 = 18446744073709551615 then ((terracelaw02_awake.f k).bind fun t160 => (some t160)) else (some false))) else (some false)) = some r := by rw [if_neg (show ¬ (false = true) by decide)] at H; exact H
          clear H
          have H := H1
          clear H1
          by_cases c12 : t157 = 0
          · rw [if_pos c12] at H
            have c12b0 : (t157 == 0) = true := beq_iff_eq.mpr c12
            have c12b1 : (t157 != 0) = false := bne_eq_false_iff_eq.mpr c12
            clear c12
            replace H := Option.bind_eq_some_iff.mp H
            obtain ⟨t159, A130, H⟩ := H
            replace H : (if t159 = 18446744073709551615 then ((terracelaw02_awake.f k).bind fun t160 => (some t160)) else (some false)) = some r := H
            have A13 := Aside0.mk A130
            clear A130
            by_cases c14 : t159 = 18446744073709551615
            · rw [if_pos c14] at H
              have c14b0 : (t159 == 18446744073709551615) = true := beq_iff_eq.mpr c14
              have c14b1 : (t159 != 18446744073709551615) = false := bne_eq_false_iff_eq.mpr c14
              clear c14
              replace H := Option.bind_eq_some_iff.mp H
              obtain ⟨t160, A150, H⟩ := H
              replace H : (some t160) = some r := H
              have A15 := Aside0.mk A150
              clear A150
              obtain rfl := Option.some.inj H
              go_enter Try.func6, Try.ntmps6
              go_wp2_with (first | ((with_reducible refine gate_callee (f := 8) rfl ?_); refine goesL_ (some 11) rfl rfl Try.func8 (by kernel_rfl) rfl #[.int .u64 a0] rfl (by (try simp only [List.map_toArray, List.map_cons, List.map_nil]); first | done | rfl | (simp only [List.length_drop, List.length_take]; rfl)) ?_; (with_reducible refine (logs_Log.calls a0 t155 false _ A2.out).mono ?_); rintro e w16 ⟨rfl, hb⟩; refine ⟨_, rfl, ?_⟩; have n0_ := Aside0.mk (below_step (by repeat (first | (with_reducible first | exact HB.out | apply below_alloc | apply pw_below_drewN | apply below_drew1) | exact HB.out)) hb); clear HB; have HB := n0_; clear n0_; (try clear hb); (try clear hb2); (try clear hk); (try clear hi)) | ((with_reducible refine gate_callee (f := 15) rfl ?_); refine goesL_ (some 16) rfl rfl Try.func15 (by kernel_rfl) rfl #[.int .u64 a0] rfl (by (try simp only [List.map_toArray, List.map_cons, List.map_nil]); first | done | rfl | (simp only [List.length_drop, List.length_take]; rfl)) ?_; (with_reducible refine (logs_Ln.calls a0 t157 false _ A3.out).mono ?_); rintro e w17 ⟨rfl, hb⟩; refine ⟨_, rfl, ?_⟩; have n0_ := Aside0.mk (below_step (by repeat (first | (with_reducible first | exact HB.out | apply below_alloc | apply pw_below_drewN | apply below_drew1) | exact HB.out)) hb); clear HB; have HB := n0_; clear n0_; (try clear hb); (try clear hb2); (try clear hk); (try clear hi)) | (go_at_call 9; (with_reducible refine (logs_Neg.calls k a0 t159 _ A13.out).mono ?_); rintro e w18 ⟨rfl, hb⟩; have n0_ := Aside0.mk (below_step (by repeat (first | (with_reducible first | exact HB.out | apply below_alloc | apply pw_below_drewN | apply below_drew1) | exact HB.out)) hb); clear HB; have HB := n0_; clear n0_; (try clear hb); (try clear hb2); (try clear hk); (try clear hi)) | (go_at_call 7; (with_reducible refine (terracelaw02_awake.calls k  t160 _ A15.out).mono ?_); rintro e w19 ⟨rfl, hb⟩; have n0_ := Aside0.mk (below_step (by repeat (first | (with_reducible first | exact HB.out | apply below_alloc | apply pw_below_drewN | apply below_drew1) | exact HB.out)) hb); clear HB; have HB := n0_; clear n0_; (try clear hb); (try clear hb2); (try clear hk); (try clear hi)))
              go_ret
              exact ⟨by first | rfl | (simp [errW_none, errW_some] <;> rfl) | (simp [*, errW_none, errW_some] <;> rfl), by repeat (first | (with_reducible first | exact HB.out | apply below_alloc | apply pw_below_drewN | apply below_drew1) | exact HB.out)⟩
            · rw [if_neg c14] at H
              have c14b0 : (t159 == 18446744073709551615) = false := beq_eq_false_iff_ne.mpr c14
              have c14b1 : (t159 != 18446744073709551615) = true := bne_iff_ne.mpr c14
              obtain rfl := Option.some.inj H
              go_enter Try.func6, Try.ntmps6
              go_wp2_with (first | ((with_reducible refine gate_callee (f := 8) rfl ?_); refine goesL_ (some 11) rfl rfl Try.func8 (by kernel_rfl) rfl #[.int .u64 a0] rfl (by (try simp only [List.map_toArray, List.map_cons, List.map_nil]); first | done | rfl | (simp only [List.length_drop, List.length_take]; rfl)) ?_; (with_reducible refine (logs_Log.calls a0 t155 false _ A2.out).mono ?_); rintro e w20 ⟨rfl, hb⟩; refine ⟨_, rfl, ?_⟩; have n0_ := Aside0.mk (below_step (by repeat (first | (with_reducible first | exact HB.out | apply below_alloc | apply pw_below_drewN | apply below_drew1) | exact HB.out)) hb); clear HB; have HB := n0_; clear n0_; (try clear hb); (try clear hb2); (try clear hk); (try clear hi)) | ((with_reducible refine gate_callee (f := 15) rfl ?_); refine goesL_ (some 16) rfl rfl Try.func15 (by kernel_rfl) rfl #[.int .u64 a0] rfl (by (try simp only [List.map_toArray, List.map_cons, List.map_nil]); first | done | rfl | (simp only [List.length_drop, List.length_take]; rfl)) ?_; (with_reducible refine (logs_Ln.calls a0 t157 false _ A3.out).mono ?_); rintro e w21 ⟨rfl, hb⟩; refine ⟨_, rfl, ?_⟩; have n0_ := Aside0.mk (below_step (by repeat (first | (with_reducible first | exact HB.out | apply below_alloc | apply pw_below_drewN | apply below_drew1) | exact HB.out)) hb); clear HB; have HB := n0_; clear n0_; (try clear hb); (try clear hb2); (try clear hk); (try clear hi)) | (go_at_call 9; (with_reducible refine (logs_Neg.calls k a0 t159 _ A13.out).mono ?_); rintro e w22 ⟨rfl, hb⟩; have n0_ := Aside0.mk (below_step (by repeat (first | (with_reducible first | exact HB.out | apply below_alloc | apply pw_below_drewN | apply below_drew1) | exact HB.out)) hb); clear HB; have HB := n0_; clear n0_; (try clear hb); (try clear hb2); (try clear hk); (try clear hi)))
              go_ret
              exact ⟨by first | rfl | (simp [errW_none, errW_some] <;> rfl) | (simp [*, errW_none, errW_some] <;> rfl), by repeat (first | (with_reducible first | exact HB.out | apply below_alloc | apply pw_below_drewN | apply below_drew1) | exact HB.out)⟩
          · rw [if_neg c12] at H
            have c12b0 : (t157 == 0) = false := beq_eq_false_iff_ne.mpr c12
            have c12b1 : (t157 != 0) = true := bne_iff_ne.mpr c12
            obtain rfl := Option.some.inj H
            go_enter Try.func6, Try.ntmps6
            go_wp2_with (first | ((with_reducible refine gate_callee (f := 8) rfl ?_); refine goesL_ (some 11) rfl rfl Try.func8 (by kernel_rfl) rfl #[.int .u64 a0] rfl (by (try simp only [List.map_toArray, List.map_cons, List.map_nil]); first | done | rfl | (simp only [List.length_drop, List.length_take]; rfl)) ?_; (with_reducible refine (logs_Log.calls a0 t155 false _ A2.out).mono ?_); rintro e w23 ⟨rfl, hb⟩; refine ⟨_, rfl, ?_⟩; have n0_ := Aside0.mk (below_step (by repeat (first | (with_reducible first | exact HB.out | apply below_alloc | apply pw_below_drewN | apply below_drew1) | exact HB.out)) hb); clear HB; have HB := n0_; clear n0_; (try clear hb); (try clear hb2); (try clear hk); (try clear hi)) | ((with_reducible refine gate_callee (f := 15) rfl ?_); refine goesL_ (some 16) rfl rfl Try.func15 (by kernel_rfl) rfl #[.int .u64 a0] rfl (by (try simp only [List.map_toArray, List.map_cons, List.map_nil]); first | done | rfl | (simp only [List.length_drop, List.length_take]; rfl)) ?_; (with_reducible refine (logs_Ln.calls a0 t157 false _ A3.out).mono ?_); rintro e w24 ⟨rfl, hb⟩; refine ⟨_, rfl, ?_⟩; have n0_ := Aside0.mk (below_step (by repeat (first | (with_reducible first | exact HB.out | apply below_alloc | apply pw_below_drewN | apply below_drew1) | exact HB.out)) hb); clear HB; have HB := n0_; clear n0_; (try clear hb); (try clear hb2); (try clear hk); (try clear hi)))
            go_ret
            exact ⟨by first | rfl | (simp [errW_none, errW_some] <;> rfl) | (simp [*, errW_none, errW_some] <;> rfl), by repeat (first | (with_reducible first | exact HB.out | apply below_alloc | apply pw_below_drewN | apply below_drew1) | exact HB.out)⟩
      · rw [if_neg c8] at H
        have c8b0 : (t155 == 0) = false := beq_eq_false_iff_ne.mpr c8
        have c8b1 : (t155 != 0) = true := bne_iff_ne.mpr c8
        obtain rfl := Option.some.inj H
        go_enter Try.func6, Try.ntmps6
        go_wp2_with (first | ((with_reducible refine gate_callee (f := 8) rfl ?_); refine goesL_ (some 11) rfl rfl Try.func8 (by kernel_rfl) rfl #[.int .u64 a0] rfl (by (try simp only [List.map_toArray, List.map_cons, List.map_nil]); first | done | rfl | (simp only [List.length_drop, List.length_take]; rfl)) ?_; (with_reducible refine (logs_Log.calls a0 t155 false _ A2.out).mono ?_); rintro e w25 ⟨rfl, hb⟩; refine ⟨_, rfl, ?_⟩; have n0_ := Aside0.mk (below_step (by repeat (first | (with_reducible first | exact HB.out | apply below_alloc | apply pw_below_drewN | apply below_drew1) | exact HB.out)) hb); clear HB; have HB := n0_; clear n0_; (try clear hb); (try clear hb2); (try clear hk); (try clear hi)) | ((with_reducible refine gate_callee (f := 15) rfl ?_); refine goesL_ (some 16) rfl rfl Try.func15 (by kernel_rfl) rfl #[.int .u64 a0] rfl (by (try simp only [List.map_toArray, List.map_cons, List.map_nil]); first | done | rfl | (simp only [List.length_drop, List.length_take]; rfl)) ?_; (with_reducible refine (logs_Ln.calls a0 t157 t158 _ A3.out).mono ?_); rintro e w26 ⟨rfl, hb⟩; refine ⟨_, rfl, ?_⟩; have n0_ := Aside0.mk (below_step (by repeat (first | (with_reducible first | exact HB.out | apply below_alloc | apply pw_below_drewN | apply below_drew1) | exact HB.out)) hb); clear HB; have HB := n0_; clear n0_; (try clear hb); (try clear hb2); (try clear hk); (try clear hi)))
        go_ret
        exact ⟨by first | rfl | (simp [errW_none, errW_some] <;> rfl) | (simp [*, errW_none, errW_some] <;> rfl), by repeat (first | (with_reducible first | exact HB.out | apply below_alloc | apply pw_below_drewN | apply below_drew1) | exact HB.out)⟩
  · rw [if_neg c4] at H
    have c4b0 : (a0 == 0) = false := beq_eq_false_iff_ne.mpr c4
    have c4b1 : (a0 != 0) = true := bne_iff_ne.mpr c4
    replace H := Option.bind_eq_some_iff.mp H
    obtain ⟨t161, A270, H⟩ := H
    replace H : (if t156 = true then (if t158 = true then (if t155 = t161 then ((terraceref02_Ln.f a0).bind fun t162 => (terracelaw02_LogsTell.j0 k a0 t161 (t157 != t162))) else (terracelaw02_LogsTell.j0 k a0 t161 true)) else (terracelaw02_LogsTell.j0 k a0 t161 true)) else (terracelaw02_LogsTell.j0 k a0 t161 true)) = some r := H
    have A27 := Aside0.mk A270
    clear A270
    have HC28 := Aside0.mk H
    clear H
    go_enter Try.func6, Try.ntmps6
    go_upto_region 6 with (first | ((with_reducible refine gate_callee (f := 8) rfl ?_); refine goesL_ (some 11) rfl rfl Try.func8 (by kernel_rfl) rfl #[.int .u64 a0] rfl (by (try simp only [List.map_toArray, List.map_cons, List.map_nil]); first | done | rfl | (simp only [List.length_drop, List.length_take]; rfl)) ?_; (with_reducible refine (logs_Log.calls a0 t155 t156 _ A2.out).mono ?_); rintro e w29 ⟨rfl, hb⟩; refine ⟨_, rfl, ?_⟩; have n0_ := Aside0.mk (below_step (by repeat (first | (with_reducible first | exact HB.out | apply below_alloc | apply pw_below_drewN | apply below_drew1) | exact HB.out)) hb); clear HB; have HB := n0_; clear n0_; (try clear hb); (try clear hb2); (try clear hk); (try clear hi)) | ((with_reducible refine gate_callee (f := 15) rfl ?_); refine goesL_ (some 16) rfl rfl Try.func15 (by kernel_rfl) rfl #[.int .u64 a0] rfl (by (try simp only [List.map_toArray, List.map_cons, List.map_nil]); first | done | rfl | (simp only [List.length_drop, List.length_take]; rfl)) ?_; (with_reducible refine (logs_Ln.calls a0 t157 t158 _ A3.out).mono ?_); rintro e w30 ⟨rfl, hb⟩; refine ⟨_, rfl, ?_⟩; have n0_ := Aside0.mk (below_step (by repeat (first | (with_reducible first | exact HB.out | apply below_alloc | apply pw_below_drewN | apply below_drew1) | exact HB.out)) hb); clear HB; have HB := n0_; clear n0_; (try clear hb); (try clear hb2); (try clear hk); (try clear hi)) | ((with_reducible refine gate_callee (f := 16) rfl ?_); refine goesL_ (some 44) rfl rfl Try.func16 (by kernel_rfl) rfl #[.int .u64 a0] rfl (by (try simp only [List.map_toArray, List.map_cons, List.map_nil]); first | done | rfl | (simp only [List.length_drop, List.length_take]; rfl)) ?_; (with_reducible refine (terraceref02_Log.calls a0 t161 _ A27.out).mono ?_); rintro e w31 ⟨rfl, hb⟩; refine ⟨_, rfl, ?_⟩; have n0_ := Aside0.mk (below_step (by repeat (first | (with_reducible first | exact HB.out | apply below_alloc | apply pw_below_drewN | apply below_drew1) | exact HB.out)) hb); clear HB; have HB := n0_; clear n0_; (try clear hb); (try clear hb2); (try clear hk); (try clear hi)))
    (try simp only [Act.put, List.setIfInBounds_toArray, List.set_cons_zero, List.set_cons_succ])
    go_cut [61] (fun v61 wc => ∃ (kq : Nat) (x61_27 : Bool), v61 = .bool x61_27 ∧ Aside0 (terracelaw02_LogsTell.j0 kq a0 t161 x61_27 = some r) ∧ Aside0 (kq ≤ k) ∧ Aside0 (Below w.heap.size w wc))
    case first =>
      have H := HC28.out
      clear HC28
      by_cases c32 : t156 = true
      · subst c32
        have H1 : (if t158 = true then (if t155 = t161 then ((terraceref02_Ln.f a0).bind fun t162 => (terracelaw02_LogsTell.j0 k a0 t161 (t157 != t162))) else (terracelaw02_LogsTell.j0 k a0 t161 true)) else (terracelaw02_LogsTell.j0 k a0 t161 true)) = some r := by rw [if_pos rfl] at H; exact H
        clear H
        have H := H1
        clear H1
        by_cases c33 : t158 = true
        · subst c33
          have H1 : (if t155 = t161 then ((terraceref02_Ln.f a0).bind fun t162 => (terracelaw02_LogsTell.j0 k a0 t161 (t157 != t162))) else (terracelaw02_LogsTell.j0 k a0 t161 true)) = some r := by rw [if_pos rfl] at H; exact H
          clear H
          have H := H1
          clear H1
          by_cases c34 : t155 = t161
          · rw [if_pos c34] at H
            have c34b0 : (t155 == t161) = true := beq_iff_eq.mpr c34
            have c34b1 : (t155 != t161) = false := bne_eq_false_iff_eq.mpr c34
            clear c34
            (first | rw [c34b0] | (simp only [i64_w, i32_w]; rw [c34b0]) | skip)
            replace H := Option.bind_eq_some_iff.mp H
            obtain ⟨t162, A350, H⟩ := H
            replace H : (terracelaw02_LogsTell.j0 k a0 t161 (t157 != t162)) = some r := H
            have A35 := Aside0.mk A350
            clear A350
            have H' := Aside0.mk H
            clear H
            go_wp2_with (first | (go_at_call 17; (with_reducible refine (terraceref02_Ln.calls a0 t162 _ A35.out).mono ?_); rintro e w36 ⟨rfl, hb⟩; have n0_ := Aside0.mk (below_step (by repeat (first | (with_reducible first | exact HB.out | apply below_alloc | apply pw_below_drewN | apply below_drew1) | exact HB.out)) hb); clear HB; have HB := n0_; clear n0_; (try clear hb); (try clear hb2); (try clear hk); (try clear hi)))
            go_meet
            case rel => exact ⟨_, ((t157 != t162)), (by first | rfl | (simp; done) | (simp [*]; done)), H', ⟨by first | omega | exact Nat.le_refl _⟩, ⟨by repeat (first | (with_reducible first | exact HB.out | apply below_alloc | apply pw_below_drewN | apply below_drew1) | exact HB.out)⟩⟩
          · rw [if_neg c34] at H
            have c34b0 : (t155 == t161) = false := beq_eq_false_iff_ne.mpr c34
            have c34b1 : (t155 != t161) = true := bne_iff_ne.mpr c34
            (first | rw [c34b0] | (simp only [i64_w, i32_w]; rw [c34b0]) | skip)
            have H' := Aside0.mk H
            clear H
            go_wp2
            go_meet
            case rel => exact ⟨_, (true), (by first | rfl | (simp; done) | (simp [*]; done)), H', ⟨by first | omega | exact Nat.le_refl _⟩, ⟨by repeat (first | (with_reducible first | exact HB.out | apply below_alloc | apply pw_below_drewN | apply below_drew1) | exact HB.out)⟩⟩
        · replace c33 := Bool.eq_false_iff.mpr c33
          subst c33
          have H1 : (terracelaw02_LogsTell.j0 k a0 t161 true) = some r := by rw [if_neg (show ¬ (false = true) by decide)] at H; exact H
          clear H
          have H := H1
          clear H1
          have H' := Aside0.mk H
          clear H
          go_wp2
          go_meet
          case rel => exact ⟨_, (true), (by first | rfl | (simp; done) | (simp [*]; done)), H', ⟨by first | omega | exact Nat.le_refl _⟩, ⟨by repeat (first | (with_reducible first | exact HB.out | apply below_alloc | apply pw_below_drewN | apply below_drew1) | exact HB.out)⟩⟩
      · replace c32 := Bool.eq_false_iff.mpr c32
        subst c32
        have H1 : (terracelaw02_LogsTell.j0 k a0 t161 true) = some r := by rw [if_neg (show ¬ (false = true) by decide)] at H; exact H
        clear H
        have H := H1
        clear H1
        have H' := Aside0.mk H
        clear H
        go_wp2
        go_meet
        case rel => exact ⟨_, (true), (by first | rfl | (simp; done) | (simp [*]; done)), H', ⟨by first | omega | exact Nat.le_refl _⟩, ⟨by repeat (first | (with_reducible first | exact HB.out | apply below_alloc | apply pw_below_drewN | apply below_drew1) | exact HB.out)⟩⟩
    case rest =>
      clear HC28
      try clear c1
      try clear p2
      try clear c3
      try clear c4
      try clear c4b0
      try clear c4b1
      try clear c5
      try clear c6
      try clear c8
      try clear c8b0
      try clear c8b1
      try clear c9
      try clear c12
      try clear c12b0
      try clear c12b1
      try clear c14
      try clear c14b0
      try clear c14b1
      try clear c15
      try clear c16
      try clear c32
      try clear c33
      try clear c34
      try clear c34b0
      try clear c34b1
      obtain ⟨kq, x61_27, rfl, HA, HJ27, HB⟩ := hcut
      cases kq with
      | zero => exact absurd HA.out (by simp [terracelaw02_LogsTell.j0])
      | succ kj27 =>
        have H := HA.out
        clear HA
        simp only [terracelaw02_LogsTell.j0] at H
        by_cases c37 : x61_27 = true
        · subst c37
          have H1 : (some false) = some r := by rw [if_pos rfl] at H; exact H
          clear H
          have H := H1
          clear H1
          obtain rfl := Option.some.inj H
          go_wp2
          go_ret
          exact ⟨by first | rfl | (simp [errW_none, errW_some] <;> rfl) | (simp [*, errW_none, errW_some] <;> rfl), by repeat (first | (with_reducible first | exact HB.out | apply below_alloc | apply pw_below_drewN | apply below_drew1) | exact HB.out)⟩
        · replace c37 := Bool.eq_false_iff.mpr c37
          subst c37
          have H1 : (if t161 < 0 then ((logs_Neg.f kj27 a0).bind fun t163 => (if t163 = (IntKind.u64.wrap ((IntKind.u64.wrap (wrap64 (-t161))) * 65536)) then ((terracelaw02_awake.f kj27).bind fun t164 => (some t164)) else (some false))) else ((logs_Neg.f kj27 a0).bind fun t165 => (if t165 = 0 then ((terracelaw02_awake.f kj27).bind fun t166 => (some t166)) else (some false)))) = some r := by rw [if_neg (show ¬ (false = true) by decide)] at H; exact H
          clear H
          have H := H1
          clear H1
          by_cases c38 : t161 < 0
          · rw [if_pos c38] at H
            have c38b0 : decide (t161 < 0) = true := decide_eq_true c38
            clear c38
            replace H := Option.bind_eq_some_iff.mp H
            obtain ⟨t163, A390, H⟩ := H
            replace H : (if t163 = (IntKind.u64.wrap ((IntKind.u64.wrap (wrap64 (-t161))) * 65536)) then ((terracelaw02_awake.f kj27).bind fun t164 => (some t164)) else (some false)) = some r := H
            have A39 := Aside0.mk A390
            clear A390
            by_cases c40 : t163 = (IntKind.u64.wrap ((IntKind.u64.wrap (wrap64 (-t161))) * 65536))
            · rw [if_pos c40] at H
              have c40b0 : (t163 == (IntKind.u64.wrap ((IntKind.u64.wrap (wrap64 (-t161))) * 65536))) = true := beq_iff_eq.mpr c40
              have c40b1 : (t163 != (IntKind.u64.wrap ((IntKind.u64.wrap (wrap64 (-t161))) * 65536))) = false := bne_eq_false_iff_eq.mpr c40
              clear c40
              replace H := Option.bind_eq_some_iff.mp H
              obtain ⟨t164, A410, H⟩ := H
              replace H : (some t164) = some r := H
              have A41 := Aside0.mk A410
              clear A410
              obtain rfl := Option.some.inj H
              go_wp2_with (first | ((with_reducible refine gate_callee (f := 9) rfl ?_); refine goesL_ (some 69) rfl rfl Try.func9 (by kernel_rfl) rfl #[.int .u64 a0] rfl (by (try simp only [List.map_toArray, List.map_cons, List.map_nil]); first | done | rfl | (simp only [List.length_drop, List.length_take]; rfl)) ?_; (with_reducible refine (logs_Neg.calls kj27 a0 t163 _ A39.out).mono ?_); rintro e w42 ⟨rfl, hb⟩; refine ⟨_, rfl, ?_⟩; have n0_ := Aside0.mk (below_step (by repeat (first | (with_reducible first | exact HB.out | apply below_alloc | apply pw_below_drewN | apply below_drew1) | exact HB.out)) hb); clear HB; have HB := n0_; clear n0_; (try clear hb); (try clear hb2); (try clear hk); (try clear hi)) | (go_at_call 7; (with_reducible refine (terracelaw02_awake.calls kj27  t164 _ A41.out).mono ?_); rintro e w43 ⟨rfl, hb⟩; have n0_ := Aside0.mk (below_step (by repeat (first | (with_reducible first | exact HB.out | apply below_alloc | apply pw_below_drewN | apply below_drew1) | exact HB.out)) hb); clear HB; have HB := n0_; clear n0_; (try clear hb); (try clear hb2); (try clear hk); (try clear hi)))
              go_ret
              exact ⟨by first | rfl | (simp [errW_none, errW_some] <;> rfl) | (simp [*, errW_none, errW_some] <;> rfl), by repeat (first | (with_reducible first | exact HB.out | apply below_alloc | apply pw_below_drewN | apply below_drew1) | exact HB.out)⟩
            · rw [if_neg c40] at H
              have c40b0 : (t163 == (IntKind.u64.wrap ((IntKind.u64.wrap (wrap64 (-t161))) * 65536))) = false := beq_eq_false_iff_ne.mpr c40
              have c40b1 : (t163 != (IntKind.u64.wrap ((IntKind.u64.wrap (wrap64 (-t161))) * 65536))) = true := bne_iff_ne.mpr c40
              obtain rfl := Option.some.inj H
              go_wp2_with (first | ((with_reducible refine gate_callee (f := 9) rfl ?_); refine goesL_ (some 69) rfl rfl Try.func9 (by kernel_rfl) rfl #[.int .u64 a0] rfl (by (try simp only [List.map_toArray, List.map_cons, List.map_nil]); first | done | rfl | (simp only [List.length_drop, List.length_take]; rfl)) ?_; (with_reducible refine (logs_Neg.calls kj27 a0 t163 _ A39.out).mono ?_); rintro e w44 ⟨rfl, hb⟩; refine ⟨_, rfl, ?_⟩; have n0_ := Aside0.mk (below_step (by repeat (first | (with_reducible first | exact HB.out | apply below_alloc | apply pw_below_drewN | apply below_drew1) | exact HB.out)) hb); clear HB; have HB := n0_; clear n0_; (try clear hb); (try clear hb2); (try clear hk); (try clear hi)))
              go_ret
              exact ⟨by first | rfl | (simp [errW_none, errW_some] <;> rfl) | (simp [*, errW_none, errW_some] <;> rfl), by repeat (first | (with_reducible first | exact HB.out | apply below_alloc | apply pw_below_drewN | apply below_drew1) | exact HB.out)⟩
          · rw [if_neg c38] at H
            have c38b0 : decide (t161 < 0) = false := decide_eq_false c38
            clear c38
            replace H := Option.bind_eq_some_iff.mp H
            obtain ⟨t165, A450, H⟩ := H
            replace H : (if t165 = 0 then ((terracelaw02_awake.f kj27).bind fun t166 => (some t166)) else (some false)) = some r := H
            have A45 := Aside0.mk A450
            clear A450
            by_cases c46 : t165 = 0
            · rw [if_pos c46] at H
              have c46b0 : (t165 == 0) = true := beq_iff_eq.mpr c46
              have c46b1 : (t165 != 0) = false := bne_eq_false_iff_eq.mpr c46
              clear c46
              replace H := Option.bind_eq_some_iff.mp H
              obtain ⟨t166, A470, H⟩ := H
              replace H : (some t166) = some r := H
              have A47 := Aside0.mk A470
              clear A470
              obtain rfl := Option.some.inj H
              go_wp2_with (first | ((with_reducible refine gate_callee (f := 9) rfl ?_); refine goesL_ (some 69) rfl rfl Try.func9 (by kernel_rfl) rfl #[.int .u64 a0] rfl (by (try simp only [List.map_toArray, List.map_cons, List.map_nil]); first | done | rfl | (simp only [List.length_drop, List.length_take]; rfl)) ?_; (with_reducible refine (logs_Neg.calls kj27 a0 t165 _ A45.out).mono ?_); rintro e w48 ⟨rfl, hb⟩; refine ⟨_, rfl, ?_⟩; have n0_ := Aside0.mk (below_step (by repeat (first | (with_reducible first | exact HB.out | apply below_alloc | apply pw_below_drewN | apply below_drew1) | exact HB.out)) hb); clear HB; have HB := n0_; clear n0_; (try clear hb); (try clear hb2); (try clear hk); (try clear hi)) | (go_at_call 7; (with_reducible refine (terracelaw02_awake.calls kj27  t166 _ A47.out).mono ?_); rintro e w49 ⟨rfl, hb⟩; have n0_ := Aside0.mk (below_step (by repeat (first | (with_reducible first | exact HB.out | apply below_alloc | apply pw_below_drewN | apply below_drew1) | exact HB.out)) hb); clear HB; have HB := n0_; clear n0_; (try clear hb); (try clear hb2); (try clear hk); (try clear hi)))
              go_ret
              exact ⟨by first | rfl | (simp [errW_none, errW_some] <;> rfl) | (simp [*, errW_none, errW_some] <;> rfl), by repeat (first | (with_reducible first | exact HB.out | apply below_alloc | apply pw_below_drewN | apply below_drew1) | exact HB.out)⟩
            · rw [if_neg c46] at H
              have c46b0 : (t165 == 0) = false := beq_eq_false_iff_ne.mpr c46
              have c46b1 : (t165 != 0) = true := bne_iff_ne.mpr c46
              obtain rfl := Option.some.inj H
              go_wp2_with (first | ((with_reducible refine gate_callee (f := 9) rfl ?_); refine goesL_ (some 69) rfl rfl Try.func9 (by kernel_rfl) rfl #[.int .u64 a0] rfl (by (try simp only [List.map_toArray, List.map_cons, List.map_nil]); first | done | rfl | (simp only [List.length_drop, List.length_take]; rfl)) ?_; (with_reducible refine (logs_Neg.calls kj27 a0 t165 _ A45.out).mono ?_); rintro e w50 ⟨rfl, hb⟩; refine ⟨_, rfl, ?_⟩; have n0_ := Aside0.mk (below_step (by repeat (first | (with_reducible first | exact HB.out | apply below_alloc | apply pw_below_drewN | apply below_drew1) | exact HB.out)) hb); clear HB; have HB := n0_; clear n0_; (try clear hb); (try clear hb2); (try clear hk); (try clear hi)))
              go_ret
              exact ⟨by first | rfl | (simp [errW_none, errW_some] <;> rfl) | (simp [*, errW_none, errW_some] <;> rfl), by repeat (first | (with_reducible first | exact HB.out | apply below_alloc | apply pw_below_drewN | apply below_drew1) | exact HB.out)⟩

/-- THE ONE PURE STATEMENT of terracelaw02_LogsTell: yours. -/
def terracelaw02_LogsTell.Pure : Prop := ∀ (a0 : Int), (Lit.int .u64 a0).wf = true → ∃ k, terracelaw02_LogsTell.f k a0 = some true
theorem terracelaw02_LogsTell.walk (P : terracelaw02_LogsTell.Pure) (a0 : Int) (w : World) (w0 : (Lit.int .u64 a0).wf = true) :
    Calls Try.prog 6 #[.int .u64 a0] w fun e w' => e = .returned (.bool true) ∧ Below w.heap.size w w' := by
  obtain ⟨k, h⟩ := P a0 w0
  refine (terracelaw02_LogsTell.calls k a0 true w h).mono ?_
  rintro e w' ⟨rfl, hd⟩
  exact ⟨rfl, hd⟩

end Go.Proofs.Ytcompobggmdofaa.PLogsTell
