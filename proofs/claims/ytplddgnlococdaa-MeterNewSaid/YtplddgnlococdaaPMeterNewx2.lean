-- Written by ext.sh (the session's own program, over the kit's printer) out of the translation. Lean checks it.
import Derived.Test.YtplddgnlococdaaPMeterNewx0
import Derived.Test.YtplddgnlococdaaPMeterNewx1
namespace Go.Proofs.Ytplddgnlococdaa.PMeterNew
open Go.RowKit Go.Proofs.YtplddgnlococdaaW.PrintWords Go.Proofs.YtplddgnlococdaaW.PrintLast Go.Proofs.YtplddgnlococdaaW.PrintMore
attribute [local go_sem] max2_int min2_int max_two min_two max_three min_three max_four min_four   -- for this text's walks alone
set_option linter.unusedVariables false
set_option linter.unusedSimpArgs false

/-! ### meter_Meter_Rate: function 12 -/
def meter_Meter_Rate.f (k : Nat) (s0_0 : Int) (s0_1 : Int) (l0_2 : List (S51)) (a1 : Int) : Option (Int) := (meter_Meter_Sum.f k s0_0 s0_1 l0_2 a1).bind fun t107 => ((fix_Ratio.f k (IntKind.u64.wrap (t107)) (IntKind.u64.wrap (s0_0))).bind fun t108 => (some t108))
theorem meter_Meter_Rate.mono : ∀ a0 a1 a2 a3 k, LeO (meter_Meter_Rate.f k a0 a1 a2 a3) (meter_Meter_Rate.f (k + 1) a0 a1 a2 a3) := by
  intro a0 a1 a2 a3 k
  unfold meter_Meter_Rate.f
  repeat' first
      | (with_reducible exact fix_Ratio.mono _ _ _)
      | (with_reducible exact meter_Meter_Sum.mono _ _ _ _ _)
      | (with_reducible exact LeO.refl _)
      | (with_reducible exact LeO.none _)
      | (with_reducible refine LeO.ite ?_ ?_)
      | (with_reducible refine LeO.bind ?_ (fun _ => ?_))
      | exact fix_Ratio.mono _ _ _
      | exact meter_Meter_Sum.mono _ _ _ _ _
      | exact LeO.none _
      | refine LeO.ite ?_ ?_
      | refine LeO.bind ?_ (fun _ => ?_)
def meter_Meter_Rate.T1 : Bool × List (List Nat × List Nat) := (true, [([], []), ([], []), ([0, 1], [0, 1]), ([2], [2]), ([], []), ([4], [4]), ([5], [5]), ([6], [6]), ([7], [7]), ([3, 8, 2], [3, 8]), ([9, 9, 0, 1, 2, 3, 4, 5, 6, 7, 8, 9], [9])])
def meter_Meter_Rate.B1 : List Nat := [0, 0, 3, 7, 0, 16, 48, 112, 240, 511, 1023]
theorem meter_Meter_Rate.tab1 : rtab .any (opsOf Try.f12 1) = meter_Meter_Rate.T1 := by kernel_rfl
theorem meter_Meter_Rate.bits1 : waitsOk meter_Meter_Rate.T1.2 meter_Meter_Rate.B1 = true := by kernel_rfl
set_option maxHeartbeats 8000000 in
set_option maxRecDepth 100000 in
theorem meter_Meter_Rate.calls (k : Nat) (g : Nat) (s0_0 : Int) (s0_1 : Int) (A0_2 : Option Addr) (c0_2 : Nat) (l0_2 : List (S51)) (a1 : Int) (r : Int) (w : World) (hI : w.heap[g]? = some (.cells #[.int .i64 s0_0, .int .i64 s0_1, .slice A0_2 l0_2.length c0_2] 49 (0, 0))) (hr0_2 : Kd.C k51 w A0_2 l0_2.length l0_2) (hc0_2 : l0_2.length ≤ c0_2) (h : meter_Meter_Rate.f k s0_0 s0_1 l0_2 a1 = some r) :
    Calls Try.prog 12 #[.pointer (some ⟨g, 0, none⟩), .int .i64 a1] w fun e w' => e = .returned (.int .u64 r) ∧ Below w.heap.size w w' := by
  have HR0_2 := Aside0.mk hr0_2
  have HC0_2 := Aside0.mk hc0_2
  clear hr0_2 hc0_2
  have BK0 := Aside0.mk hI
  clear hI
  have HB := Aside0.mk (Below.refl w.heap.size w)
  have H : ((meter_Meter_Sum.f k s0_0 s0_1 l0_2 a1).bind fun t107 => ((fix_Ratio.f k (IntKind.u64.wrap (t107)) (IntKind.u64.wrap (s0_0))).bind fun t108 => (some t108))) = some r := h
  clear h
  replace H := Option.bind_eq_some_iff.mp H
  obtain ⟨t107, A30, H⟩ := H
  replace H : ((fix_Ratio.f k (IntKind.u64.wrap (t107)) (IntKind.u64.wrap (s0_0))).bind fun t108 => (some t108)) = some r := H
  have A3 := Aside0.mk A30
  clear A30
  replace H := Option.bind_eq_some_iff.mp H
  obtain ⟨t108, A40, H⟩ := H
  replace H : (some t108) = some r := H
  have A4 := Aside0.mk A40
  clear A40
  obtain rfl := Option.some.inj H
  go_enter Try.func12, Try.ntmps12
  try go_wp2
  have n0_ := Aside0.mk (blk_drew BK0.out)
  have n1_ := Aside0.mk (below_drew1 HB.out)
  clear BK0
  clear HB
  have BK0 := n0_
  have HB := n1_
  clear n0_ n1_
  refine start_ (n := 11) (S := fun w' => w'.cell? ⟨g, 0, none⟩ = some (.int .i64 s0_0) ∧ w'.cell? ⟨g, 1, none⟩ = some (.int .i64 s0_1) ∧ w'.cell? ⟨g, 2, none⟩ = some (.slice A0_2 l0_2.length c0_2)) (ds := []) #[false, false, false, false, false, false, false, false, false, false, false] (by kernel_rfl) rfl rfl ⟨(blk_cell BK0.out 0).trans rfl, (blk_cell BK0.out 1).trans rfl, (blk_cell BK0.out 2).trans rfl⟩ (fun hHeld => ?_); refine with_tabW meter_Meter_Rate.tab1 meter_Meter_Rate.bits1 (fun HT_ HW_ => ?_)
  generalize w.drew = w5 at BK0 HB hHeld ⊢
  refine pure_ (i := 0) (N := some 5) (v := ?_) (a' := ?_) #[true, false, false, false, false, false, false, false, false, false, false] rfl rfl (any_of HT_.out (by kernel_rfl)) (fun _ _ _ h => h) (Or.inl ⟨by rfl, ?_⟩) ?_ ?_
  rotate_left
  · intro w'
    go_simp
    with_reducible rfl
  rotate_left
  · simp only [Act.put, List.setIfInBounds_toArray, List.set_cons_zero, List.set_cons_succ, i64_w, i32_w]
    rfl
  refine pure_ (i := 1) (N := some 6) (v := ?_) (a' := ?_) #[true, true, false, false, false, false, false, false, false, false, false] rfl rfl (any_of HT_.out (by kernel_rfl)) (fun _ _ _ h => h) (Or.inl ⟨by rfl, ?_⟩) ?_ ?_
  rotate_left
  · intro w'
    go_simp
    with_reducible rfl
  rotate_left
  · simp only [Act.put, List.setIfInBounds_toArray, List.set_cons_zero, List.set_cons_succ, i64_w, i32_w]
    rfl
  refine pure_ (i := 4) (N := some 9) (v := ?_) (a' := ?_) #[true, true, false, false, true, false, false, false, false, false, false] rfl rfl (any_of HT_.out (by kernel_rfl)) (fun _ _ _ h => h) (Or.inl ⟨by rfl, ?_⟩) ?_ ?_
  rotate_left
  · intro w'
    go_simp
    with_reducible rfl
  rotate_left
  · simp only [Act.put, List.setIfInBounds_toArray, List.set_cons_zero, List.set_cons_succ, i64_w, i32_w]
    rfl
  refine pure_ (i := 5) (N := some 10) (v := ?_) (a' := ?_) #[true, true, false, false, true, true, false, false, false, false, false] rfl rfl (any_of HT_.out (by kernel_rfl)) (fun _ _ _ h => h) (Or.inl ⟨by rfl, ?_⟩) ?_ ?_
  rotate_left
  · intro w'
    go_simp
    with_reducible rfl
  rotate_left
  · simp only [Act.put, List.setIfInBounds_toArray, List.set_cons_zero, List.set_cons_succ, i64_w, i32_w]
    rfl
  refine pure_ (i := 6) (N := some 11) (v := ?_) (a' := ?_) #[true, true, false, false, true, true, true, false, false, false, false] rfl rfl (any_of HT_.out (by kernel_rfl)) (fun _ _ _ h => h) (Or.inl ⟨by rfl, ?_⟩) ?_ ?_
  rotate_left
  · intro w'
    go_simp
    with_reducible rfl
  rotate_left
  · simp only [Act.put, List.setIfInBounds_toArray, List.set_cons_zero, List.set_cons_succ, i64_w, i32_w]
    rfl
  refine take_ (i := 7) (N := some 12) (v := ?_) (a' := ?_) #[true, true, false, false, true, true, true, true, false, false, false] rfl rfl (take_ofW HT_.out HW_.out (by kernel_rfl)) (fun _ _ _ h => h) (Or.inl ⟨by rfl, ?_⟩) hHeld ?_ ?_
  rotate_left
  · rintro w' ⟨s0, s1, s2⟩
    go_simp
    with_reducible rfl
  rotate_left
  · simp only [Act.put, List.setIfInBounds_toArray, List.set_cons_zero, List.set_cons_succ, i64_w, i32_w]
    rfl
  refine pure_ (i := 8) (N := some 13) (v := ?_) (a' := ?_) #[true, true, false, false, true, true, true, true, true, false, false] rfl rfl (any_of HT_.out (by kernel_rfl)) (fun _ _ _ h => h) (Or.inl ⟨by rfl, ?_⟩) ?_ ?_
  rotate_left
  · intro w'
    go_simp
    with_reducible rfl
  rotate_left
  · simp only [Act.put, List.setIfInBounds_toArray, List.set_cons_zero, List.set_cons_succ, i64_w, i32_w]
    rfl
  refine one_ (i := 2) (N := some 7) #[true, true, true, false, true, true, true, true, true, false, false] rfl rfl (one_of HT_.out (by kernel_rfl)) (by decide) (fun K hK => ?_)
  refine goes_ Try.func11 (by kernel_rfl) rfl #[.pointer (some ⟨g, 0, none⟩), .int .i64 a1] (by rfl) rfl rfl (by (try simp only [List.map_toArray, List.map_cons, List.map_nil]); first | done | rfl | (simp only [List.length_drop, List.length_take]; rfl)) ?_
  with_reducible refine (meter_Meter_Sum.calls k g s0_0 s0_1 A0_2 c0_2 l0_2 a1 t107 _ ?side1 ?side2 ?side3 A3.out).mono ?_
  (case side1 => (with_reducible repeat (first | refine blk_drewN ?_ _ | refine blk_drew ?_ | refine blk_alloc ?_ _)); exact BK0.out)
  (case side2 => repeat (first | exact (Kd.C_below HR0_2.out HB.out) | (with_reducible refine Kd.C_alloc ?_ _) | (with_reducible refine Kd.C_drewN ?_ _) | (with_reducible refine Kd.C_drew ?_)))
  (case side3 => exact HC0_2.out)
  rintro e w6 ⟨rfl, hb⟩
  refine ⟨_, rfl, ?_⟩
  have n0_ := Aside0.mk (blk_below (g := g) (o := .cells #[.int .i64 s0_0, .int .i64 s0_1, .slice A0_2 l0_2.length c0_2] 49 (0, 0)) (by (with_reducible repeat (first | refine blk_drewN ?_ _ | refine blk_drew ?_ | refine blk_alloc ?_ _)); exact BK0.out) hb)
  have n1_ := Aside0.mk (below_step (by repeat (first | (with_reducible first | exact HB.out | apply below_alloc | apply pw_below_drewN | apply below_drew1 | refine below_set ?_ GE0.out) | exact HB.out)) hb)
  clear BK0
  clear HB
  have BK0 := n0_
  have HB := n1_
  clear n0_ n1_
  (try clear hb)
  (try clear hb2)
  (try clear hk)
  (try clear hi)
  refine hK.out _ _ ⟨(blk_cell BK0.out 0).trans rfl, (blk_cell BK0.out 1).trans rfl, (blk_cell BK0.out 2).trans rfl⟩ (fun hHeld => ?_)
  clear hK K
  refine norm_ (a' := ?_) ?_ ?_
  rotate_left
  · show Act.put _ (some 7) _ = _
    simp only [Act.put, List.setIfInBounds_toArray, List.set_cons_zero, List.set_cons_succ, i64_w, i32_w]
    rfl
  refine pure_ (i := 3) (N := some 8) (v := ?_) (a' := ?_) #[true, true, true, true, true, true, true, true, true, false, false] rfl rfl (any_of HT_.out (by kernel_rfl)) (fun _ _ _ h => h) (Or.inl ⟨by rfl, ?_⟩) ?_ ?_
  rotate_left
  · intro w'
    go_simp
    with_reducible rfl
  rotate_left
  · simp only [Act.put, List.setIfInBounds_toArray, List.set_cons_zero, List.set_cons_succ, i64_w, i32_w]
    rfl
  refine one_ (i := 9) (N := some 14) #[true, true, true, true, true, true, true, true, true, true, false] rfl rfl (one_of HT_.out (by kernel_rfl)) (by decide) (fun K hK => ?_)
  refine goes_ Try.func13 (by kernel_rfl) rfl #[.int .u64 (IntKind.u64.wrap (t107)), .int .u64 (IntKind.u64.wrap (s0_0))] (by rfl) rfl rfl (by (try simp only [List.map_toArray, List.map_cons, List.map_nil]); first | done | rfl | (simp only [List.length_drop, List.length_take]; rfl)) ?_
  with_reducible refine (fix_Ratio.calls k (IntKind.u64.wrap (t107)) (IntKind.u64.wrap (s0_0)) t108 _ A4.out).mono ?_
  rintro e w' ⟨rfl, ⟨nd, rfl⟩⟩
  refine ⟨_, rfl, ?_⟩
  refine hK.out _ _ ⟨(blk_cell BK0.out 0).trans rfl, (blk_cell BK0.out 1).trans rfl, (blk_cell BK0.out 2).trans rfl⟩ (fun hHeld => ?_)
  clear hK K
  refine norm_ (a' := ?_) ?_ ?_
  rotate_left
  · show Act.put _ (some 14) _ = _
    simp only [Act.put, List.setIfInBounds_toArray, List.set_cons_zero, List.set_cons_succ, i64_w, i32_w]
    rfl
  refine pure_ (i := 10) (N := some 4) (v := ?_) (a' := ?_) #[true, true, true, true, true, true, true, true, true, true, true] rfl rfl (any_of HT_.out (by kernel_rfl)) (fun _ _ _ h => h) (Or.inl ⟨by rfl, ?_⟩) ?_ ?_
  rotate_left
  · intro w'
    go_simp
    with_reducible rfl
  rotate_left
  · simp only [Act.put, List.setIfInBounds_toArray, List.set_cons_zero, List.set_cons_succ, i64_w, i32_w]
    rfl
  refine done_ (done_of HT_.out (by kernel_rfl)) ?_
  try go_wp2
  go_ret
  exact ⟨by first | rfl | (simp [errW_none, errW_some] <;> rfl) | (simp [*, errW_none, errW_some] <;> rfl), by repeat (first | (with_reducible first | exact HB.out | apply below_alloc | apply pw_below_drewN | apply below_drew1 | refine below_set ?_ GE0.out) | exact HB.out)⟩

/-! ### meter_New: function 14 -/
def meter_New.f (a0 : Int) : Option (Int × Int × (List (S51)) × Int) := if a0 < 1 then (none) else (if a0 > 64 then (none) else (some (a0, 0, ([] : List (S51)), 0)))
set_option maxHeartbeats 8000000 in
set_option maxRecDepth 100000 in
theorem meter_New.calls (a0 : Int) (r1 : Int) (r2 : Int) (r3 : List (S51)) (r4 : Int) (w : World) (h : meter_New.f a0 = some (r1, r2, r3, r4)) :
    Calls Try.prog 14 #[.int .i64 a0] w fun e w' => ∃ v2_ : Value, ∃ g_ : Nat, e = .returned (.tuple #[.pointer (some ⟨g_, 0, none⟩), .int .i64 r4]) ∧ Kd.R k51 51 w' w.heap.size (fun _ => True) v2_ r3 ∧ (w'.heap[g_]? = some (.cells #[.int .i64 r1, .int .i64 r2, v2_] 49 (0, 0)) ∧ w.heap.size ≤ g_) ∧ Below w.heap.size w w' := by
  have hu49 := Try.underlying49
  have HB := Aside0.mk (Below.refl w.heap.size w)
  have H : (if a0 < 1 then (none) else (if a0 > 64 then (none) else (some (a0, 0, ([] : List (S51)), 0)))) = some (r1, r2, r3, r4) := h
  clear h
  by_cases c2 : a0 < 1
  · rw [if_pos c2] at H
    exact absurd H (by simp)
  · rw [if_neg c2] at H
    have c2b0 : decide (a0 < 1) = false := decide_eq_false c2
    clear c2
    by_cases c3 : a0 > 64
    · rw [if_pos c3] at H
      exact absurd H (by simp)
    · rw [if_neg c3] at H
      have c3b0 : decide (64 < a0) = false := decide_eq_false c3
      clear c3
      simp only [Option.some.injEq, Prod.mk.injEq] at H
      obtain ⟨rfl, rfl, rfl, rfl⟩ := H
      go_enter Try.func14, Try.ntmps14
      go_wp2_with (first | ((with_reducible refine gate_dst (N := 12) rfl ?_); refine box_event ?hg (N := 12) ?hd (cs := #[.int .i64 a0, .int .i64 0, .slice none 0 0]) (t := 49) ?hr ?_; (case hd => rfl); (case hg => rfl); (case hr => first | (go_simp; done) | (go_simp; rfl)); intro gb109 hg w4 hbox hb; have n0_ := Aside0.mk (below_step (by repeat (first | (with_reducible first | exact HB.out | apply below_alloc | apply pw_below_drewN | apply below_drew1) | exact HB.out)) hb); have n1_ := Aside0.mk (hbox); have n2_ := Aside0.mk ((by rw [hg]; exact (below_size (by repeat (first | (with_reducible first | exact HB.out | apply below_alloc | apply pw_below_drewN | apply below_drew1) | exact HB.out))) : w.heap.size ≤ gb109)); have n3_ := Aside0.mk ((by rw [hg]; exact (below_size (by repeat (first | (with_reducible first | exact HB.out | apply below_alloc | apply pw_below_drewN | apply below_drew1) | exact HB.out))) : w.heap.size ≤ gb109)); clear HB; have HB := n0_; have BK109 := n1_; have GW109 := n2_; have GE109 := n3_; clear n0_ n1_ n2_ n3_; clear hb hbox hg))
      go_ret2
      exact ⟨.slice none 0 0, gb109, by first | rfl | (simp; done) | (simp [*]; done), by first | exact Kd.R_nil _ _ _ _ _ | exact Kd.N_nil _ _ _ _ _ | exact Kd.V_nil _ _ _ _ _ | exact Kd.Q_nil _ _ _ _ _ | exact Kd.S_nil _ _ _ _ _, ⟨(by (with_reducible repeat (first | refine blk_drewN ?_ _ | refine blk_drew ?_ | refine blk_alloc ?_ _)); exact BK109.out), GE109.out⟩, by repeat (first | (with_reducible first | exact HB.out | apply below_alloc | apply pw_below_drewN | apply below_drew1 | refine below_set ?_ GE109.out) | exact HB.out)⟩

/-! ### meter_New_no: function 14 -/
def meter_New_no.f (a0 : Int) : Option (Int) := if a0 < 1 then (some 11) else (if a0 > 64 then (some 11) else (none))
set_option maxHeartbeats 8000000 in
set_option maxRecDepth 100000 in
theorem meter_New_no.calls (a0 : Int) (r : Int) (w : World) (h : meter_New_no.f a0 = some r) :
    Calls Try.prog 14 #[.int .i64 a0] w fun e w' => e = .returned (.tuple #[.pointer none, .int .i64 r]) ∧ Below w.heap.size w w' := by
  have hu49 := Try.underlying49
  have HB := Aside0.mk (Below.refl w.heap.size w)
  have H : (if a0 < 1 then (some 11) else (if a0 > 64 then (some 11) else (none))) = some r := h
  clear h
  by_cases c2 : a0 < 1
  · rw [if_pos c2] at H
    have c2b0 : decide (a0 < 1) = true := decide_eq_true c2
    clear c2
    obtain rfl := Option.some.inj H
    go_enter Try.func14, Try.ntmps14
    go_wp2
    go_ret2
    exact ⟨by first | rfl | (simp [errW_none, errW_some] <;> rfl) | (simp [*, errW_none, errW_some] <;> rfl), by repeat (first | (with_reducible first | exact HB.out | apply below_alloc | apply pw_below_drewN | apply below_drew1) | exact HB.out)⟩
  · rw [if_neg c2] at H
    have c2b0 : decide (a0 < 1) = false := decide_eq_false c2
    clear c2
    by_cases c3 : a0 > 64
    · rw [if_pos c3] at H
      have c3b0 : decide (64 < a0) = true := decide_eq_true c3
      clear c3
      obtain rfl := Option.some.inj H
      go_enter Try.func14, Try.ntmps14
      go_wp2
      go_ret2
      exact ⟨by first | rfl | (simp [errW_none, errW_some] <;> rfl) | (simp [*, errW_none, errW_some] <;> rfl), by repeat (first | (with_reducible first | exact HB.out | apply below_alloc | apply pw_below_drewN | apply below_drew1) | exact HB.out)⟩
    · rw [if_neg c3] at H
      have c3b0 : decide (64 < a0) = false := decide_eq_false c3
      clear c3
      exact absurd H (by simp)

def meter_New.ok (a0 : Int) : Bool := (meter_New.f a0).isSome

-- NOT PRINTED: function 28 (meter_amount_28)

/-! ### meter_amount_21: function 21 (told by hand) -/
/-- what goes: what is two of the widest windows old -/
def meter_amount_21.p (t : Int) (x : S51) : Bool := decide (x.f0 ≤ wrap64 (t - 128))
def meter_amount_21.f (l : List S51) (t : Int) : Option (List S51) := some (l.filter fun x => !meter_amount_21.p t x)
def meter_amount_21.idx (t : Int) : List S51 → Nat → Int
  | [], _ => -1
  | y :: r, i => if meter_amount_21.p t y = true then (i : Int) else meter_amount_21.idx t r (i + 1)
theorem meter_amount_21.idx_spec (t : Int) : ∀ (l : List S51) (i : Nat), (meter_amount_21.idx t l i = -1 ∧ l.filter (fun x => !meter_amount_21.p t x) = l) ∨ ∃ k, ∃ h : k < l.length, meter_amount_21.idx t l i = ((i + k : Nat) : Int) ∧ meter_amount_21.p t l[k] = true ∧ (l.take k).filter (fun x => !meter_amount_21.p t x) = l.take k
  | [], _ => .inl ⟨rfl, rfl⟩
  | y :: r, i => by
    cases hp : meter_amount_21.p t y with
    | true => exact .inr ⟨0, by simp, by simp [meter_amount_21.idx, hp], by simpa using hp, by simp⟩
    | false =>
      rcases meter_amount_21.idx_spec t r (i + 1) with ⟨e, hf⟩ | ⟨k, hk, e, ht, hf⟩
      · exact .inl ⟨by simp [meter_amount_21.idx, hp, e], by rw [List.filter_cons, if_pos (by simp [hp]), hf]⟩
      · refine .inr ⟨k + 1, by simpa using hk, by simp only [meter_amount_21.idx, hp, if_false, Bool.false_eq_true, e]; congr 1; omega, by simpa using ht, ?_⟩
        rw [List.take_succ_cons, List.filter_cons, if_pos (by simp [hp]), hf]
theorem meter_amount_21.pred (x : S51) (g : Nat) (t : Int) (W : World) (hc : W.cell? ⟨g, 0, none⟩ = some (.int .i64 t)) (hg : g < W.heap.size) :
    Calls Try.prog 22 #[.agg #[.int .i64 x.f0, .int .i64 x.f1], .pointer (some ⟨g, 0, none⟩)] W fun e w' => e = .returned (.bool (meter_amount_21.p t x)) ∧ Below W.heap.size W w' := by
  have hc' : ∀ o, (W.alloc o).cell? ⟨g, 0, none⟩ = some (.int .i64 t) := fun o => (World.cell?_alloc_past _ _ _ hg).trans hc
  have hne : ¬ (g = W.heap.size) := by omega
  have hne' : ¬ (W.heap.size = g) := by omega
  have HB := Aside0.mk (Below.refl W.heap.size W)
  go_enter Try.func22, Try.ntmps22
  go_wp2
  go_ret
  exact ⟨by simp [meter_amount_21.p], below_alloc HB.out _⟩
theorem meter_amount_21.idx_drop (t : Int) (l : List S51) (k : Nat) (h : k < l.length) : meter_amount_21.idx t (l.drop k) k = if meter_amount_21.p t (l.getD k z51) = true then (k : Int) else meter_amount_21.idx t (l.drop (k + 1)) (k + 1) := by
  rw [List.drop_eq_getElem_cons h]
  simp only [meter_amount_21.idx, List.getD_eq_getElem?_getD, List.getElem?_eq_getElem h, Option.getD_some]
theorem meter_amount_21.find (A : Option Addr) (c : Nat) (l : List S51) (g : Nat) (t : Int) (w : World) (hI : w.heap[g]? = some (.cells #[.int .i64 t] 3 (0, 0))) (hr : Kd.C k51 w A l.length l) :
    Calls Try.prog 28 #[.slice A l.length c, .func (.func 22) #[] #[.pointer (some ⟨g, 0, none⟩)]] w fun e w' => e = .returned (.int .i64 (meter_amount_21.idx t l 0)) ∧ Below w.heap.size w w' := by
  have hg : g < w.heap.size := blk_lt hI
  have hc0 : w.cell? ⟨g, 0, none⟩ = some (.int .i64 t) := (blk_cell hI 0).trans rfl
  have hm := hr.2.1
  have HI := Aside0.mk hc0
  have HR := Aside0.mk hr
  have HG := Aside0.mk hg
  clear hI hr hc0 hg
  have hu51 := Try.underlying51
  go_enter Try.func28, Try.ntmps28
  go_wp2
  go_loopg [5, 8] l.length (fun gg _ s8 wr => ∃ kk : Nat, kk ≤ l.length ∧ l.length - kk ≤ gg ∧ s8 = .int .i64 kk ∧ Aside0 (Below w.heap.size w wr) ∧ Aside0 (meter_amount_21.idx t l 0 = meter_amount_21.idx t (l.drop kk) kk))
  case atStart => exact ⟨0, Nat.zero_le _, by omega, rfl, ⟨Below.refl _ w⟩, ⟨by rw [List.drop_zero]⟩⟩
  case round =>
    obtain ⟨kk, hkk, hgg, rfl, BW, AI⟩ := hrel
    by_cases hlt : kk < l.length
    · have hltz : (kk : Int) < (l.length : Int) := by omega
      obtain ⟨ad, rfl, hx0, hx1⟩ := at_T51 HR.out (kk : Int) (by omega) hltz
      simp only [Int.toNat_natCast] at hx0 hx1
      replace hx0 := (BW.out.cell (World.block_lt_of_cell? w _ hx0)).trans hx0
      replace hx1 := (BW.out.cell (World.block_lt_of_cell? w _ hx1)).trans hx1
      have hcall := meter_amount_21.pred (rd_T51 l (kk : Int)) g t wr ((BW.out.cell (World.block_lt_of_cell? w _ HI.out)).trans HI.out) (Nat.lt_of_lt_of_le HG.out BW.out.size)
      have hd := meter_amount_21.idx_drop t l kk hlt
      rw [show l.getD kk z51 = rd_T51 l (kk : Int) from by simp [rd_T51]] at hd
      generalize rd_T51 l (kk : Int) = y at hx0 hx1 hcall hd
      have HD := Aside0.mk hd
      clear hd
      cases hq : meter_amount_21.p t y with
      | true =>
        rw [hq] at hcall
        have HQ := Aside0.mk hq
        clear hq
        go_wp2_with (go_at_call 22; refine hcall.mono ?_; rintro e w' ⟨rfl, hb'⟩)
        go_ret
        refine ⟨?_, BW.out.trans (hb'.mono BW.out.size)⟩
        rw [AI.out, HD.out, if_pos HQ.out]
        rfl
      | false =>
        rw [hq] at hcall
        have HQ := Aside0.mk hq
        clear hq
        go_wp2_with (go_at_call 22; refine hcall.mono ?_; rintro e w' ⟨rfl, hb'⟩)
        go_roundg (l.length - (kk + 1))
        case measure => omega
        case rel => exact ⟨kk + 1, by omega, by omega, by go_num, ⟨BW.out.trans (hb'.mono BW.out.size)⟩, ⟨by rw [AI.out, HD.out, if_neg (by rw [HQ.out]; simp)]⟩⟩
    · have hltz : ¬ (kk : Int) < (l.length : Int) := by omega
      obtain rfl : kk = l.length := by omega
      go_wp2
      go_ret
      refine ⟨?_, BW.out⟩
      rw [AI.out, List.drop_length]
      rfl
section
variable {W w2 : World} {base gb n cap : Nat} {ok : Nat → Prop} {dk : List S51}
theorem meter_amount_21.cells (h : Kd.R k51 51 W base ok (.slice (some ⟨gb, 0, none⟩) n cap) dk) (q : Nat) (hq : q < n * 2) : (∃ u, W.cell? ⟨gb, q, none⟩ = some u) ∧ W.frozen? ⟨gb, q, none⟩ = false := by
  obtain ⟨c, hcl, _, hcc, hf⟩ := Kd.R_elem h z51 ((q / 2 : Nat) : Int) (by omega) (by omega)
  have h2 : c.length = 2 := hcl
  simp only [Int.toNat_natCast, show k51.sz = 2 from rfl] at hcc hf
  have hlt : q % 2 < c.length := by omega
  have h3 := hcc (q % 2) _ (List.getElem?_eq_getElem hlt)
  have h4 := hf (q % 2)
  have e : q / 2 * 2 + q % 2 = q := by omega
  rw [e] at h3 h4
  exact ⟨⟨_, h3⟩, h4⟩
theorem meter_amount_21.elem (h : Kd.R k51 51 W base ok (.slice (some ⟨gb, 0, none⟩) n cap) dk) (i : Nat) (hi : i < n) : W.cell? ⟨gb, i * 2, none⟩ = some (.int .i64 (dk.getD i z51).f0) ∧ W.cell? ⟨gb, i * 2 + 1, none⟩ = some (.int .i64 (dk.getD i z51).f1) := by
  obtain ⟨c, hcl, hM, hcc, _⟩ := Kd.R_elem h z51 (i : Int) (by omega) (by omega)
  obtain rfl := k51_openM hM
  simp only [Int.toNat_natCast, show k51.sz = 2 from rfl] at hcc
  exact ⟨hcc 0 _ rfl, hcc 1 _ rfl⟩
theorem meter_amount_21.put (h : Kd.R k51 51 W base ok (.slice (some ⟨gb, 0, none⟩) n cap) dk) (i : Nat) (hi : i < n) (x : S51) :
    Kd.R k51 51 ((W.setCell ⟨gb, i * 2, none⟩ (.int .i64 x.f0)).setCell ⟨gb, i * 2 + 1, none⟩ (.int .i64 x.f1)) base ok (.slice (some ⟨gb, 0, none⟩) n cap) (dk.set i x) ∧ W.grownBy ((W.setCell ⟨gb, i * 2, none⟩ (.int .i64 x.f0)).setCell ⟨gb, i * 2 + 1, none⟩ (.int .i64 x.f1)) (some gb) := by
  obtain ⟨c, hcl, hM, hcc, _⟩ := Kd.R_elem h z51 (i : Int) (by omega) (by omega)
  have h2 := Kd.R_seg h (i : Int) (by omega) (by omega) (seg := [.int .i64 x.f0, .int .i64 x.f1]) (j := 0) (okp := fun _ => False) (x' := x) hcl hcc (Nat.le_refl 2) (by
    have hl : c.length = 2 := hcl
    rw [List.drop_eq_nil_of_le (by simp [hl])]
    exact k51_mkM _ _ _ _) (fun _ hk => hk.elim)
  simp only [Int.toNat_natCast, show k51.sz = 2 from rfl, Nat.add_zero] at h2
  exact h2
theorem meter_amount_21.zeros : ∀ (m i : Nat) (W : World) (dk : List S51), Kd.R k51 51 W base ok (.slice (some ⟨gb, 0, none⟩) n cap) dk → i + m = n →
    ∃ dk', Kd.R k51 51 (W.setCells gb (i * 2) (List.replicate (m * 2) (.int .i64 0))) base ok (.slice (some ⟨gb, 0, none⟩) n cap) dk' ∧ dk'.take i = dk.take i ∧ dk'.length = dk.length ∧ W.grownBy (W.setCells gb (i * 2) (List.replicate (m * 2) (.int .i64 0))) (some gb)
  | 0, i, W, dk, h, hi => ⟨dk, by simpa [World.setCells] using h, rfl, rfl, by simpa [World.setCells] using World.grownBy.refl W _⟩
  | m + 1, i, W, dk, h, hi => by
    obtain ⟨h1, g1⟩ := meter_amount_21.put h i (by omega) z51
    obtain ⟨dk', h2, ht, hl, g2⟩ := meter_amount_21.zeros m (i + 1) _ _ h1 (by omega)
    have e : W.setCells gb (i * 2) (List.replicate ((m + 1) * 2) (.int .i64 0)) = ((W.setCell ⟨gb, i * 2, none⟩ (.int .i64 z51.f0)).setCell ⟨gb, i * 2 + 1, none⟩ (.int .i64 z51.f1)).setCells gb ((i + 1) * 2) (List.replicate (m * 2) (.int .i64 0)) := by
      rw [show (m + 1) * 2 = m * 2 + 1 + 1 from by omega, List.replicate_succ, List.replicate_succ, show (i + 1) * 2 = i * 2 + 1 + 1 from by omega]
      rfl
    rw [e]
    refine ⟨dk', h2, ?_, by rw [hl, List.length_set], g1.trans g2⟩
    have := congrArg (List.take i) ht
    rw [List.take_take, List.take_take, Nat.min_eq_left (Nat.le_succ i), List.take_set_of_le (Nat.le_refl i)] at this
    exact this
theorem meter_amount_21.clear (h : Kd.R k51 51 W base ok (.slice (some ⟨gb, 0, none⟩) n cap) dk) (i c ty : Nat) (hi : i < n) :
    (Builtin.clear_ #[47] ty #[.slice (some ⟨gb, i * 2, none⟩) (n - i) c]).run Try.prog W = .ok (.tuple #[]) (W.setCells gb (i * 2) (List.replicate ((n - i) * 2) (.int .i64 0))) := by
  have hz : (Builtin.zeroCells #[.int .i64 0, .int .i64 0] (n - i)).toList = List.replicate ((n - i) * 2) (Value.int .i64 0) := by
    rw [List.eq_replicate_iff]
    refine ⟨by simp [Builtin.zeroCells], fun b hb => ?_⟩
    simp only [Builtin.zeroCells, Array.toList_map, List.mem_map] at hb
    obtain ⟨j, _, rfl⟩ := hb
    have : j % 2 = 0 ∨ j % 2 = 1 := by omega
    rcases this with e | e <;> simp [e]
  have hst := run_storeCells_cells (P := Try.prog) gb (i * 2) (List.replicate ((n - i) * 2) (.int .i64 0)) 0 W (fun j hj => by
    rw [List.length_replicate] at hj
    obtain ⟨u, hu⟩ := (meter_amount_21.cells h (i * 2 + 0 + j) (by omega)).1
    rw [hu]; rfl) (fun j hj => by
    rw [List.length_replicate] at hj
    exact (meter_amount_21.cells h (i * 2 + 0 + j) (by omega)).2) (fun v hv => by rw [List.eq_of_mem_replicate hv]; rfl)
  rw [Nat.add_zero] at hst
  obtain ⟨m, hm⟩ : ∃ m, n - i = m + 1 := ⟨n - i - 1, by omega⟩
  have hv : ∀ w, (zeroValue 51).run Try.prog w = .ok (.agg #[.int .i64 0, .int .i64 0]) w := fun w => Try.zeroValue51 w
  rw [hm] at hz hst ⊢
  simp [Builtin.clear_, run_underlying Try.underlying47, hv, Value.cells, hz, hst]
end
/-- behind the call of the closure: what is needed to store -/
theorem meter_amount_21.aft {wr w2 : World} {base gb n cap : Nat} {ok : Nat → Prop} {dk : List S51} (y : S51) (h : Kd.R k51 51 wr base ok (.slice (some ⟨gb, 0, none⟩) n cap) dk) (i : Nat) (hi : i < n)
    (hb : Below (wr.alloc (.cells #[.int .i64 y.f0, .int .i64 y.f1] 51)).heap.size (wr.alloc (.cells #[.int .i64 y.f0, .int .i64 y.f1] 51)) w2) :
    w2.cell? ⟨wr.heap.size, 0, none⟩ = some (.int .i64 y.f0) ∧ w2.cell? ⟨wr.heap.size, 1, none⟩ = some (.int .i64 y.f1) ∧ (∃ u, w2.cell? ⟨gb, i * 2, none⟩ = some u) ∧ (∃ u, w2.cell? ⟨gb, i * 2 + 1, none⟩ = some u) ∧ w2.frozen? ⟨gb, i * 2, none⟩ = false ∧ w2.frozen? ⟨gb, i * 2 + 1, none⟩ = false ∧ Below wr.heap.size wr w2 := by
  have hW : Below wr.heap.size wr (wr.alloc (.cells #[.int .i64 y.f0, .int .i64 y.f1] 51)) := below_alloc (Below.refl _ _) _
  have hB : Below wr.heap.size wr w2 := hW.trans (hb.mono hW.size)
  have h2 := Kd.R_below h hB
  have hz : (wr.alloc (.cells #[.int .i64 y.f0, .int .i64 y.f1] 51)).heap.size = wr.heap.size + 1 := by simp
  have hn := heap_alloc_new wr (.cells #[.int .i64 y.f0, .int .i64 y.f1] 51)
  refine ⟨?_, ?_, (meter_amount_21.cells h2 _ (by omega)).1, (meter_amount_21.cells h2 _ (by omega)).1, (meter_amount_21.cells h2 _ (by omega)).2, (meter_amount_21.cells h2 _ (by omega)).2, hB⟩
  · refine (hb.cell (p := ⟨wr.heap.size, 0, none⟩) (by rw [hz]; exact Nat.lt_succ_self _)).trans ?_
    exact (blk_cell hn _).trans rfl
  · refine (hb.cell (p := ⟨wr.heap.size, 1, none⟩) (by rw [hz]; exact Nat.lt_succ_self _)).trans ?_
    exact (blk_cell hn _).trans rfl
theorem meter_amount_21.filt (t : Int) (l : List S51) (j : Nat) (hj : j < l.length) : (l.take (j + 1)).filter (fun x => !meter_amount_21.p t x) = (l.take j).filter (fun x => !meter_amount_21.p t x) ++ (if meter_amount_21.p t (l.getD j z51) = true then [] else [l.getD j z51]) := by
  rw [List.take_succ_eq_append_getElem hj, List.filter_append, List.getD_eq_getElem?_getD, List.getElem?_eq_getElem hj, Option.getD_some]
  cases h : meter_amount_21.p t l[j] <;> simp [h]
theorem meter_amount_21.run {wr : World} {base gb n cap : Nat} {ok : Nat → Prop} {dk : List S51} (h : Kd.R k51 51 wr base ok (.slice (some ⟨gb, 0, none⟩) n cap) dk) : n = dk.length ∧ n ≤ cap := ⟨(Kd.R_reads' h).1, (Kd.R_reads' h).2.1⟩
set_option maxHeartbeats 4000000 in
theorem meter_amount_21.calls (P : Nat → Prop) (v : Value) (l : List S51) (g : Nat) (t : Int) (r : List S51) (w0 w : World) (hB : Below w0.heap.size w0 w) (hI : w.heap[g]? = some (.cells #[.int .i64 t] 3 (0, 0))) (ho : Kd.R k51 51 w w0.heap.size P v l) (h : meter_amount_21.f l t = some r) :
    Calls Try.prog 21 #[v, .func (.func 22) #[] #[.pointer (some ⟨g, 0, none⟩)]] w fun e w' => ∃ v2 : Value, e = .returned v2 ∧ Kd.R k51 51 w' w0.heap.size (fun k_ => P k_ ∨ w.heap.size ≤ k_) v2 r ∧ Below w0.heap.size w0 w' ∧ Kept w w' P := by
  obtain rfl := Option.some.inj h
  clear h
  have hu51 := Try.underlying51
  obtain ⟨A, cap, rfl⟩ := Kd.R_slice ho
  have hfind := meter_amount_21.find A cap l g t w hI (Kd.R_reads' ho).2.2
  rcases meter_amount_21.idx_spec t l 0 with ⟨e1, hf⟩ | ⟨k0, hk0, e1, hp0, hf⟩
  · rw [e1] at hfind
    have HO := Aside0.mk ho
    have HI := Aside0.mk hI
    have HB := Aside0.mk hB
    clear ho hI hB e1
    rw [show (l.filter fun x => !meter_amount_21.p t x) = l from hf]
    clear hf
    go_enter Try.func21, Try.ntmps21
    go_wp2_with (go_at_call 28; refine hfind.mono ?_; rintro e w' ⟨rfl, hb'⟩)
    go_ret
    exact ⟨_, rfl, Kd.R_mono (Kd.R_below HO.out hb') (fun k hk => .inl hk), HB.out.trans (hb'.mono HB.out.size), Kept.of_below hb' _⟩
  · rw [e1, Nat.zero_add] at hfind
    clear e1
    have hlen : 0 < l.length := by omega
    obtain ⟨gb, cap', hv, hbg, hgl, cells, hcb⟩ := Kd.R_form ho hlen
    injection hv with ha _ hc
    subst ha; subst hc
    have hgg : g ≠ gb := by
      rintro rfl
      rw [hI] at hcb
      injection hcb with hcb
      injection hcb with _ h2
      exact absurd h2 (by decide)
    have hPg : P gb := ho.1 gb rfl
    have hmax : l.length ≤ 9223372036854775807 := (Kd.R_reads' ho).2.2.2.1
    have HO := Aside0.mk ho
    have HI := Aside0.mk hI
    have HB := Aside0.mk hB
    have HF := Aside0.mk hf
    have HP0 := Aside0.mk hp0
    have HPG := Aside0.mk hPg
    have HBG := Aside0.mk hbg
    have HGG := Aside0.mk hgg
    have HGL := Aside0.mk hgl
    clear ho hI hB hf hp0 hPg hcb hbg hgg hgl
    have hk0' : (k0 : Int) + 1 ≤ 9223372036854775807 := by omega
    have hne1 : ((k0 : Int) == -1) = false := beq_eq_false_iff_ne.2 (by omega)
    go_enter Try.func21, Try.ntmps21
    go_wp2_with (go_at_call 28; refine hfind.mono ?_; rintro e w1 ⟨rfl, hb1⟩)
    clear hfind
    go_loopg [5, 6, 7] l.length (fun gg s5 s6 _ wr => ∃ (i j : Nat) (dk : List S51), s5 = .int .i64 i ∧ s6 = .int .i64 j ∧ j ≤ l.length ∧ l.length - j ≤ gg ∧ i < j ∧ Aside0 (dk.take i = (l.take j).filter (fun x => !meter_amount_21.p t x) ∧ dk.drop j = l.drop j ∧ dk.length = l.length) ∧ Aside0 (Kd.R k51 51 wr w0.heap.size P (.slice (some ⟨gb, 0, none⟩) l.length cap) dk) ∧ Aside0 (wr.heap[g]? = some (.cells #[.int .i64 t] 3 (0, 0))) ∧ Aside0 (Below w0.heap.size w0 wr) ∧ Aside0 (Kept w wr P))
    case atStart =>
      refine ⟨k0, k0 + 1, l, rfl, by go_num, by omega, by omega, Nat.lt_succ_self _, ⟨?_, rfl, rfl⟩, ⟨Kd.R_below HO.out hb1⟩, ⟨?_⟩, ⟨HB.out.trans (hb1.mono HB.out.size)⟩, ⟨Kept.of_below hb1 _⟩⟩
      · rw [meter_amount_21.filt t l k0 hk0, HF.out, List.getD_eq_getElem?_getD, List.getElem?_eq_getElem hk0, Option.getD_some, if_pos HP0.out, List.append_nil]
      · exact blk_below HI.out hb1
    case round =>
      obtain ⟨i, j, dk, rfl, rfl, hjn, hgg2, hij, IV, RO, GI, GB, GK⟩ := hrel
      by_cases hlt : j < l.length
      · have hltz : (j : Int) < (l.length : Int) := by omega
        have hiz : (i : Int) < (l.length : Int) := by omega
        have hi0 : (i : Int) + 1 ≤ 9223372036854775807 := by omega
        have hj0 : (j : Int) + 1 ≤ 9223372036854775807 := by omega
        obtain ⟨hx0, hx1⟩ := meter_amount_21.elem RO.out j hlt
        have hy : dk.getD j z51 = l.getD j z51 := by
          have := congrArg (fun z => z.getD 0 z51) IV.out.2.1
          simpa [List.getD_eq_getElem?_getD] using this
        have hflt := meter_amount_21.filt t l j hlt
        rw [← hy] at hflt
        generalize dk.getD j z51 = y at hx0 hx1 hflt hy
        have HFL := Aside0.mk hflt
        have HY := Aside0.mk hy
        clear hflt hy
        have hW : Below wr.heap.size wr (wr.alloc (.cells #[.int .i64 y.f0, .int .i64 y.f1] 51)) := below_alloc (Below.refl _ _) _
        have hcall := meter_amount_21.pred y g t _ ((pw_cell_below hW ((blk_cell GI.out 0).trans rfl))) (Nat.lt_of_lt_of_le (blk_lt GI.out) hW.size)
        clear hW
        cases hq : meter_amount_21.p t y with
        | true =>
          rw [hq] at hcall
          have HQ := Aside0.mk hq
          clear hq
          go_wp2_with (go_at_call 22; refine hcall.mono ?_; rintro e w2 ⟨rfl, hb2⟩)
          have hb3 := (meter_amount_21.aft y RO.out i (by omega) hb2).2.2.2.2.2.2
          go_roundg (l.length - (j + 1))
          case measure => omega
          case rel =>
            refine ⟨i, j + 1, dk, rfl, by go_num, by omega, by omega, by omega, ⟨?_, ?_, IV.out.2.2⟩, ⟨Kd.R_below RO.out hb3⟩, ⟨blk_below GI.out hb3⟩, ⟨GB.out.trans (hb3.mono GB.out.size)⟩, ⟨Kept.below GK.out hb3⟩⟩
            · rw [HFL.out, if_pos HQ.out, List.append_nil]; exact IV.out.1
            · have := congrArg (List.drop 1) IV.out.2.1
              simpa [List.drop_drop, Nat.add_comm] using this
        | false =>
          rw [hq] at hcall
          have HQ := Aside0.mk hq
          clear hq
          go_wp2_with (go_at_call 22; refine hcall.mono ?_; rintro e w2 ⟨rfl, hb2⟩; obtain ⟨ha0, ha1, ⟨u0, hu0⟩, ⟨u1, hu1⟩, hf0, hf1, hb3⟩ := meter_amount_21.aft y RO.out i (by omega) hb2; have HB3 := Aside0.mk hb3; clear hb3 hb2)
          obtain ⟨hr4, hg4⟩ := meter_amount_21.put (Kd.R_below RO.out HB3.out) i (by omega) y
          go_roundg (l.length - (j + 1))
          case measure => omega
          case rel =>
            refine ⟨i + 1, j + 1, dk.set i y, by go_num, by go_num, by omega, by omega, by omega, ⟨?_, ?_, by rw [List.length_set]; exact IV.out.2.2⟩, ⟨hr4⟩, ⟨?_⟩, ⟨?_⟩, ⟨?_⟩⟩
            · have hil : i < dk.length := by rw [IV.out.2.2]; omega
              rw [HFL.out, if_neg (by rw [HQ.out]; simp), ← IV.out.1, List.take_succ_eq_append_getElem (by rw [List.length_set]; exact hil), List.take_set_of_le (Nat.le_refl i), List.getElem_set_self]
            · rw [List.drop_set_of_lt (by omega)]
              have := congrArg (List.drop 1) IV.out.2.1
              simpa [List.drop_drop, Nat.add_comm] using this
            · exact (hg4.block g (blk_lt (blk_below GI.out HB3.out)) (fun e => by injection e with e; exact HGG.out e)).trans (blk_below GI.out HB3.out)
            · have hB3 := GB.out.trans (HB3.out.mono GB.out.size)
              exact pw_below_grown hB3 (some gb) hB3.size hg4 (fun k e => by injection e with e; rw [← e]; exact HBG.out)
            · exact Kept.of_grown hg4 (Kept.below GK.out HB3.out) (fun k e => by injection e with e; rw [← e]; exact .inl HPG.out)
      · obtain rfl : j = l.length := by omega
        have hltz : ¬ (l.length : Int) < (l.length : Int) := by omega
        have hcap : l.length ≤ cap := (meter_amount_21.run RO.out).2
        have hiz : (i : Int) < (l.length : Int) := by omega
        have hcl := fun ty => meter_amount_21.clear RO.out i (cap - i) ty hij
        obtain ⟨dk', hr5, ht5, hl5, hg5⟩ := meter_amount_21.zeros (l.length - i) i wr dk RO.out (by omega)
        have HR5 := Aside0.mk hr5
        have HT5 := Aside0.mk ht5
        have HG5 := Aside0.mk hg5
        clear hr5 ht5 hg5 hl5
        go_wp2
        go_ret
        refine ⟨_, rfl, ?_, ?_, ?_⟩
        · have h6 := Kd.R_take (m := i) HR5.out (by have := (meter_amount_21.run HR5.out).1; omega)
          rw [HT5.out, IV.out.1, List.take_of_length_le (Nat.le_refl _)] at h6
          exact Kd.R_mono h6 (fun k hk => .inl hk)
        · exact pw_below_grown GB.out (some gb) GB.out.size HG5.out (fun k e => by injection e with e; rw [← e]; exact HBG.out)
        · exact Kept.of_grown HG5.out GK.out (fun k e => by injection e with e; rw [← e]; exact .inl HPG.out)

-- NOT PRINTED: function 22 (meter_Meter_Add_1)

end Go.Proofs.Ytplddgnlococdaa.PMeterNew
