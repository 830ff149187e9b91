-- Written by ext.sh (the session's own program, over the kit's printer) out of the translation. Lean checks it.
import Derived.Test.YtobipigioaoaiaaPDetectCopiesx0
import Derived.Test.YtobipigioaoaiaaPDetectCopiesx9
namespace Go.Proofs.Ytobipigioaoaiaa.PDetectCopies
open Go.RowKit Go.Proofs.YtobipigioaoaiaaW.PrintWords Go.Proofs.YtobipigioaoaiaaW.PrintLast Go.Proofs.YtobipigioaoaiaaW.PrintMore
attribute [local go_sem] max2_int min2_int max_two min_two max_three min_three max_four min_four   -- for this text's walks alone
set_option linter.unusedVariables false
set_option linter.unusedSimpArgs false
theorem bpq11 {W V : World} {g : Nat} {o : Obj} (h : V.heap[g]? = some o) (e : V.heap[g]? = some o → W.heap[g]? = some o := by (intro h_; (with_reducible repeat (first | exact h_ | refine blk_drewN ?_ _ | refine blk_drew ?_ | refine blk_alloc ?_ _)); first | done | exact h_)) : W.heap[g]? = some o := e h
theorem bfq11 {W V : World} {g b : Nat} {t : TypeId} {cs : Array Value} {i : Nat} {u : Value} (hn : g ≠ b) (h : V.heap[g]? = some (.cells cs t (0, 0))) (e : (V.setCell ⟨b, i, none⟩ u).heap[g]? = some (.cells cs t (0, 0)) → W.heap[g]? = some (.cells cs t (0, 0)) := by (intro h_; (with_reducible repeat (first | exact h_ | refine blk_drewN ?_ _ | refine blk_drew ?_ | refine blk_alloc ?_ _)); first | done | exact h_)) : W.heap[g]? = some (.cells cs t (0, 0)) := e (blk_far h hn u)
theorem bzq11 {W : World} {g : Nat} {t : TypeId} {c : Array Value} (h : ∃ cs, W.heap[g]? = some (.cells cs t (0, 0)) ∧ cs = c) : W.heap[g]? = some (.cells c t (0, 0)) := by obtain ⟨_, h, rfl⟩ := h; exact h
theorem btq11 {W V : World} {g : Nat} {t : TypeId} {i : Nat} {u : Value} {P : Array Value → Prop} (h : ∃ cs, V.heap[g]? = some (.cells cs t (0, 0)) ∧ P (cs.setIfInBounds i u)) (e : ∀ cs, (V.setCell ⟨g, i, none⟩ u).heap[g]? = some (.cells cs t (0, 0)) → W.heap[g]? = some (.cells cs t (0, 0)) := by (intro cs_ h_; (with_reducible repeat (first | exact h_ | refine blk_drewN ?_ _ | refine blk_drew ?_ | refine blk_alloc ?_ _)); first | done | exact h_)) : ∃ cs, W.heap[g]? = some (.cells cs t (0, 0)) ∧ P cs := by obtain ⟨cs, h, hp⟩ := h; exact ⟨_, e _ (blk_put h i u rfl), hp⟩
theorem bbq11 {n : Nat} {w W V : World} (h : Below n w V) (e : Below n w V → Below n w W := by (intro h_; (with_reducible repeat (first | exact h_ | apply below_alloc | apply pw_below_drewN | apply below_drew1 | refine below_set ?_ (Aside0.out (by assumption)))); first | done | exact h_)) : Below n w W := e h
theorem bc20q11 {w : World} {g : Nat} {t : TypeId} {v0 v1 v2 v3 v4 v5 v6 v7 v8 v9 v10 v11 v12 v13 v14 v15 v16 v17 v18 v19 : Value} (h : w.heap[g]? = some (.cells #[v0, v1, v2, v3, v4, v5, v6, v7, v8, v9, v10, v11, v12, v13, v14, v15, v16, v17, v18, v19] t (0, 0))) : w.cell? ⟨g, 0, none⟩ = some v0 ∧ w.cell? ⟨g, 1, none⟩ = some v1 ∧ w.cell? ⟨g, 2, none⟩ = some v2 ∧ w.cell? ⟨g, 3, none⟩ = some v3 ∧ w.cell? ⟨g, 4, none⟩ = some v4 ∧ w.cell? ⟨g, 5, none⟩ = some v5 ∧ w.cell? ⟨g, 6, none⟩ = some v6 ∧ w.cell? ⟨g, 7, none⟩ = some v7 ∧ w.cell? ⟨g, 8, none⟩ = some v8 ∧ w.cell? ⟨g, 9, none⟩ = some v9 ∧ w.cell? ⟨g, 10, none⟩ = some v10 ∧ w.cell? ⟨g, 11, none⟩ = some v11 ∧ w.cell? ⟨g, 12, none⟩ = some v12 ∧ w.cell? ⟨g, 13, none⟩ = some v13 ∧ w.cell? ⟨g, 14, none⟩ = some v14 ∧ w.cell? ⟨g, 15, none⟩ = some v15 ∧ w.cell? ⟨g, 16, none⟩ = some v16 ∧ w.cell? ⟨g, 17, none⟩ = some v17 ∧ w.cell? ⟨g, 18, none⟩ = some v18 ∧ w.cell? ⟨g, 19, none⟩ = some v19 := ⟨(blk_cell h 0).trans rfl, (blk_cell h 1).trans rfl, (blk_cell h 2).trans rfl, (blk_cell h 3).trans rfl, (blk_cell h 4).trans rfl, (blk_cell h 5).trans rfl, (blk_cell h 6).trans rfl, (blk_cell h 7).trans rfl, (blk_cell h 8).trans rfl, (blk_cell h 9).trans rfl, (blk_cell h 10).trans rfl, (blk_cell h 11).trans rfl, (blk_cell h 12).trans rfl, (blk_cell h 13).trans rfl, (blk_cell h 14).trans rfl, (blk_cell h 15).trans rfl, (blk_cell h 16).trans rfl, (blk_cell h 17).trans rfl, (blk_cell h 18).trans rfl, (blk_cell h 19).trans rfl⟩

/-! ### history_History_Copy: function 28 -/
def history_History_Copy.f (s0_0 : Int) (l0_1 : List Int) : Option (Int × List Int) := (slices_Clone_int_int.f l0_1).bind fun t748 => (some (s0_0, t748))
def history_History_Copy.T1 : Bool × List (List Nat × List Nat) := (true, [([], []), ([0], [0]), ([1], [1]), ([2], [2]), ([], []), ([4], [4]), ([5], [5]), ([6], [6]), ([7], [7]), ([3, 8], [3, 8]), ([9], [9]), ([10, 8, 0, 1, 2, 3, 4, 5, 6, 7, 8, 9, 10], [10])])
def history_History_Copy.B1 : List Nat := [0, 1, 3, 7, 0, 16, 48, 112, 240, 511, 1023, 2047]
theorem history_History_Copy.tab1 : rtab .any (opsOf Try.f28 1) = history_History_Copy.T1 := by kernel_rfl
theorem history_History_Copy.bits1 : waitsOk history_History_Copy.T1.2 history_History_Copy.B1 = true := by kernel_rfl
set_option maxHeartbeats 8000000 in
set_option maxRecDepth 100000 in
theorem history_History_Copy.calls (g : Nat) (s0_0 : Int) (A0_1 : Option Addr) (c0_1 : Nat) (l0_1 : List Int) (r1 : Int) (r2 : List Int) (w : World) (hI : w.heap[g]? = some (.cells #[.int .i64 s0_0, .slice A0_1 l0_1.length c0_1] 68 (0, 0))) (hr0_1 : Kd.C (Kd.int .i64) w A0_1 l0_1.length l0_1) (hc0_1 : l0_1.length ≤ c0_1) (h : history_History_Copy.f s0_0 l0_1 = some (r1, r2)) :
    Calls Try.prog 28 #[.pointer (some ⟨g, 0, none⟩)] w fun e w' => ∃ v1_ : Value, ∃ g_ : Nat, e = .returned (.pointer (some ⟨g_, 0, none⟩)) ∧ Kd.R (Kd.int .i64) 3 w' w.heap.size (fun _ => True) v1_ r2 ∧ (w'.heap[g_]? = some (.cells #[.int .i64 r1, v1_] 68 (0, 0)) ∧ w.heap.size ≤ g_) ∧ Below w.heap.size w w' := by
  have hu68 := Try.underlying68
  have HR0_1 := Aside0.mk hr0_1
  have HC0_1 := Aside0.mk hc0_1
  clear hr0_1 hc0_1
  have BK0 := Aside0.mk hI
  clear hI
  have HB := Aside0.mk (Below.refl w.heap.size w)
  have H : ((slices_Clone_int_int.f l0_1).bind fun t748 => (some (s0_0, t748))) = some (r1, r2) := h
  clear h
  replace H := Option.bind_eq_some_iff.mp H
  obtain ⟨t748, A20, H⟩ := H
  replace H : (some (s0_0, t748)) = some (r1, r2) := H
  have A2 := Aside0.mk A20
  clear A20
  simp only [Option.some.injEq, Prod.mk.injEq] at H
  obtain ⟨rfl, rfl⟩ := H
  go_enter Try.func28, Try.ntmps28
  try go_wp2
  have n0_ := Aside0.mk (blk_drew BK0.out)
  have n1_ := Aside0.mk (below_drew1 HB.out)
  clear BK0
  clear HB
  have BK0 := n0_
  have HB := n1_
  clear n0_ n1_
  refine start_ (n := 12) (S := fun w' => w'.cell? ⟨g, 0, none⟩ = some (.int .i64 s0_0) ∧ w'.cell? ⟨g, 1, none⟩ = some (.slice A0_1 l0_1.length c0_1)) (ds := []) #[false, false, false, false, false, false, false, false, false, false, false, false] (by kernel_rfl) rfl rfl ⟨(blk_cell BK0.out 0).trans rfl, (blk_cell BK0.out 1).trans rfl⟩ (fun hHeld => ?_); refine with_tabW history_History_Copy.tab1 history_History_Copy.bits1 (fun HT_ HW_ => ?_)
  generalize w.drew = w3 at BK0 HB hHeld ⊢
  refine pure_ (i := 0) (N := some 3) (v := ?_) (a' := ?_) #[true, false, false, false, false, false, false, false, false, false, false, false] rfl rfl (any_of HT_.out (by kernel_rfl)) (fun _ _ _ h => h) (Or.inl ⟨by rfl, ?_⟩) ?_ ?_
  rotate_left
  · intro w'
    go_simp
    with_reducible rfl
  rotate_left
  · simp only [Act.put, List.setIfInBounds_toArray, List.set_cons_zero, List.set_cons_succ, i64_w, i32_w]
    rfl
  refine pure_ (i := 1) (N := some 4) (v := ?_) (a' := ?_) #[true, true, false, false, false, false, false, false, false, false, false, false] rfl rfl (any_of HT_.out (by kernel_rfl)) (fun _ _ _ h => h) (Or.inl ⟨by rfl, ?_⟩) ?_ ?_
  rotate_left
  · intro w'
    go_simp
    with_reducible rfl
  rotate_left
  · simp only [Act.put, List.setIfInBounds_toArray, List.set_cons_zero, List.set_cons_succ, i64_w, i32_w]
    rfl
  refine pure_ (i := 2) (N := some 5) (v := ?_) (a' := ?_) #[true, true, true, false, false, false, false, false, false, false, false, false] rfl rfl (any_of HT_.out (by kernel_rfl)) (fun _ _ _ h => h) (Or.inl ⟨by rfl, ?_⟩) ?_ ?_
  rotate_left
  · intro w'
    go_simp
    with_reducible rfl
  rotate_left
  · simp only [Act.put, List.setIfInBounds_toArray, List.set_cons_zero, List.set_cons_succ, i64_w, i32_w]
    rfl
  refine pure_ (i := 4) (N := some 7) (v := ?_) (a' := ?_) #[true, true, true, false, true, false, false, false, false, false, false, false] rfl rfl (any_of HT_.out (by kernel_rfl)) (fun _ _ _ h => h) (Or.inl ⟨by rfl, ?_⟩) ?_ ?_
  rotate_left
  · intro w'
    go_simp
    with_reducible rfl
  rotate_left
  · simp only [Act.put, List.setIfInBounds_toArray, List.set_cons_zero, List.set_cons_succ, i64_w, i32_w]
    rfl
  refine pure_ (i := 5) (N := some 8) (v := ?_) (a' := ?_) #[true, true, true, false, true, true, false, false, false, false, false, false] rfl rfl (any_of HT_.out (by kernel_rfl)) (fun _ _ _ h => h) (Or.inl ⟨by rfl, ?_⟩) ?_ ?_
  rotate_left
  · intro w'
    go_simp
    with_reducible rfl
  rotate_left
  · simp only [Act.put, List.setIfInBounds_toArray, List.set_cons_zero, List.set_cons_succ, i64_w, i32_w]
    rfl
  refine pure_ (i := 6) (N := some 9) (v := ?_) (a' := ?_) #[true, true, true, false, true, true, true, false, false, false, false, false] rfl rfl (any_of HT_.out (by kernel_rfl)) (fun _ _ _ h => h) (Or.inl ⟨by rfl, ?_⟩) ?_ ?_
  rotate_left
  · intro w'
    go_simp
    with_reducible rfl
  rotate_left
  · simp only [Act.put, List.setIfInBounds_toArray, List.set_cons_zero, List.set_cons_succ, i64_w, i32_w]
    rfl
  refine take_ (i := 3) (N := some 6) (v := ?_) (a' := ?_) #[true, true, true, true, true, true, true, false, false, false, false, false] rfl rfl (take_ofW HT_.out HW_.out (by kernel_rfl)) (fun _ _ _ h => h) (Or.inl ⟨by rfl, ?_⟩) hHeld ?_ ?_
  rotate_left
  · rintro w' ⟨s0, s1⟩
    go_simp
    with_reducible rfl
  rotate_left
  · simp only [Act.put, List.setIfInBounds_toArray, List.set_cons_zero, List.set_cons_succ, i64_w, i32_w]
    rfl
  refine take_ (i := 7) (N := some 10) (v := ?_) (a' := ?_) #[true, true, true, true, true, true, true, true, false, false, false, false] rfl rfl (take_ofW HT_.out HW_.out (by kernel_rfl)) (fun _ _ _ h => h) (Or.inl ⟨by rfl, ?_⟩) hHeld ?_ ?_
  rotate_left
  · rintro w' ⟨s0, s1⟩
    go_simp
    with_reducible rfl
  rotate_left
  · simp only [Act.put, List.setIfInBounds_toArray, List.set_cons_zero, List.set_cons_succ, i64_w, i32_w]
    rfl
  refine one_ (i := 8) (N := some 11) #[true, true, true, true, true, true, true, true, true, false, false, false] rfl rfl (one_of HT_.out (by kernel_rfl)) (by decide) (fun K hK => ?_)
  refine goes_ Try.func35 (by kernel_rfl) rfl #[.slice A0_1 l0_1.length c0_1] (by rfl) rfl rfl (by (try simp only [List.map_toArray, List.map_cons, List.map_nil]); first | done | rfl | (simp only [List.length_drop, List.length_take]; rfl)) ?_
  with_reducible refine (slices_Clone_int_int.calls _ _ l0_1 t748 _ ?side1 ?side2 A2.out).mono ?_
  (case side1 => repeat (first | exact (Kd.C_below HR0_1.out HB.out) | (with_reducible refine Kd.C_alloc ?_ _) | (with_reducible refine Kd.C_drewN ?_ _) | (with_reducible refine Kd.C_drew ?_)))
  (case side2 => exact HC0_1.out)
  rintro e w4 ⟨v749, rfl, ho0, hb⟩
  refine ⟨_, rfl, ?_⟩
  have n0_ := Aside0.mk (Kd.R_lower ho0 (below_size ((bbq11 HB.out))))
  have n1_ := Aside0.mk (blk_below (bpq11 BK0.out) hb)
  have n2_ := Aside0.mk (below_step ((bbq11 HB.out)) hb)
  clear BK0
  clear HB
  have HO750 := n0_
  have BK0 := n1_
  have HB := n2_
  clear n0_ n1_ n2_
  (try clear hb)
  (try clear hb2)
  (try clear hk)
  (try clear hi)
  (try clear ho0)
  obtain ⟨Ao5, co5, eo5⟩ := Kd.R_slice HO750.out
  (first | subst eo5 | (injection eo5 with f1_ f2_ f3_; have f4_ := f1_.symm; have f5_ := f3_.symm; clear f1_ f2_ f3_; subst f4_; subst f5_))
  refine hK.out _ _ ⟨(blk_cell BK0.out 0).trans rfl, (blk_cell BK0.out 1).trans rfl⟩ (fun hHeld => ?_)
  clear hK K
  refine norm_ (a' := ?_) ?_ ?_
  rotate_left
  · show Act.put _ (some 11) _ = _
    simp only [Act.put, List.setIfInBounds_toArray, List.set_cons_zero, List.set_cons_succ, i64_w, i32_w]
    rfl
  refine pure_ (i := 9) (N := some 12) (v := ?_) (a' := ?_) #[true, true, true, true, true, true, true, true, true, true, false, false] rfl rfl (any_of HT_.out (by kernel_rfl)) (fun _ _ _ h => h) (Or.inl ⟨by rfl, ?_⟩) ?_ ?_
  rotate_left
  · intro w'
    go_simp
    with_reducible rfl
  rotate_left
  · simp only [Act.put, List.setIfInBounds_toArray, List.set_cons_zero, List.set_cons_succ, i64_w, i32_w]
    rfl
  refine one_ (i := 10) (N := some 13) #[true, true, true, true, true, true, true, true, true, true, true, false] rfl rfl (one_of HT_.out (by kernel_rfl)) (by decide) (fun K hK => ?_)
  refine box_step ?hg (N := 13) ?hd (cs := #[.int .i64 s0_0, .slice Ao5 t748.length co5]) (t := 68) ?hr ?_; (case hd => rfl); (case hg => rfl); (case hr => first | (go_simp; done) | (go_simp; rfl))
  intro gb751 hg w6 hbox hb
  have n0_ := Aside0.mk (Kd.R_below (by (with_reducible repeat (first | apply Kd.R_alloc | apply Kd.R_drewN | apply Kd.R_drew)); exact HO750.out) hb)
  have n1_ := Aside0.mk (blk_below (bpq11 BK0.out) hb)
  have n2_ := Aside0.mk (below_step ((bbq11 HB.out)) hb)
  have n3_ := Aside0.mk (hbox)
  have n4_ := Aside0.mk ((by rw [hg]; exact (below_size ((bbq11 HB.out))) : w.heap.size ≤ gb751))
  have n5_ := Aside0.mk ((by rw [hg]; exact (below_size ((bbq11 HB.out))) : w.heap.size ≤ gb751))
  have n6_ := Aside0.mk ((by rw [hg]; exact Nat.ne_of_lt (blk_lt (bpq11 BK0.out)) : g ≠ gb751))
  have n7_ := Aside0.mk ((by rw [hg]; exact Nat.ne_of_gt (blk_lt (bpq11 BK0.out)) : gb751 ≠ g))
  clear HO750
  clear BK0
  clear HB
  have HO750 := n0_
  have BK0 := n1_
  have HB := n2_
  have BK751 := n3_
  have GW751 := n4_
  have GE751 := n5_
  have NB0_751 := n6_
  have NB751_0 := n7_
  clear n0_ n1_ n2_ n3_ n4_ n5_ n6_ n7_
  clear hb hbox hg
  refine hK.out _ _ ⟨(blk_cell BK0.out 0).trans rfl, (blk_cell BK0.out 1).trans rfl⟩ (fun hHeld => ?_)
  clear hK K
  refine norm_ (a' := ?_) ?_ ?_
  rotate_left
  · show Act.put _ (some 13) _ = _
    simp only [Act.put, List.setIfInBounds_toArray, List.set_cons_zero, List.set_cons_succ, i64_w, i32_w]
    rfl
  refine pure_ (i := 11) (N := some 2) (v := ?_) (a' := ?_) #[true, true, true, true, true, true, true, true, true, true, true, true] rfl rfl (any_of HT_.out (by kernel_rfl)) (fun _ _ _ h => h) (Or.inl ⟨by rfl, ?_⟩) ?_ ?_
  rotate_left
  · intro w'
    go_simp
    with_reducible rfl
  rotate_left
  · simp only [Act.put, List.setIfInBounds_toArray, List.set_cons_zero, List.set_cons_succ, i64_w, i32_w]
    rfl
  refine done_ (done_of HT_.out (by kernel_rfl)) ?_
  try go_wp2
  go_ret
  exact ⟨.slice Ao5 t748.length co5, gb751, by first | rfl | (simp; done) | (simp [*]; done), by (with_reducible repeat (first | apply Kd.R_alloc | apply Kd.R_drewN | apply Kd.R_drew)); exact HO750.out, ⟨(by exact bpq11 BK751.out), GE751.out⟩, (bbq11 HB.out)⟩

theorem letterq11 {P : Program} {ops : Array Oper} {rest : List Oper} {Q : Exit → Act → World → Prop} {a : Act} {W : World} (F : World → Prop) (h : F W) (h2 : ∀ W', F W' → wpList P ops Q rest a W') : wpList P ops Q rest a W := h2 W h
theorem belowrowq11 {B g : Nat} {w0 w : World} (hb : Below B w0 w) (hBg : B ≤ g) (cs : Array Value) : Below B w0 (w.setRow g cs) := hb.trans ⟨rfl, rfl, rfl, by simp [World.setRow], fun k hk => setRow_other w g k cs (by omega)⟩
/-! ### detect_Detect_Copy: function 14 -/
def detect_Detect_Copy.f (s0_0 : Int) (s0_1 : Bool) (s0_2 : Int) (s0_3 : Bool) (s0_4 : Int) (s0_5 : Bool) (s0_6 : Int) (s0_7 : Bool) (s0_8 : Int) (s0_9 : Bool) (s0_10 : Int) (s0_11 : Bool) (s0_12 : Int) (s0_13 : Bool) (s0_14 : Int) (s0_15 : Bool) (s0_16 : Int) (l0_17 : List Int) (s0_18 : Int) (s0_19 : Int) (s0_20 : Bool) : Option (Int × Bool × Int × Bool × Int × Bool × Int × Bool × Int × Bool × Int × Bool × Int × Bool × Int × Bool × Int × List Int × Int × Int × Bool) := (history_History_Copy.f s0_16 l0_17).bind fun bt753 => (some (s0_0, s0_1, s0_2, s0_3, s0_4, s0_5, s0_6, s0_7, s0_8, s0_9, s0_10, s0_11, s0_12, s0_13, s0_14, s0_15, bt753.1, bt753.2, s0_18, s0_19, s0_20))
set_option maxHeartbeats 8000000 in
set_option maxRecDepth 100000 in
theorem detect_Detect_Copy.calls (g : Nat) (gs0 : Nat) (s0_0 : Int) (s0_1 : Bool) (s0_2 : Int) (s0_3 : Bool) (s0_4 : Int) (s0_5 : Bool) (s0_6 : Int) (s0_7 : Bool) (s0_8 : Int) (s0_9 : Bool) (s0_10 : Int) (s0_11 : Bool) (s0_12 : Int) (s0_13 : Bool) (s0_14 : Int) (s0_15 : Bool) (s0_16 : Int) (A0_17 : Option Addr) (c0_17 : Nat) (l0_17 : List Int) (s0_18 : Int) (s0_19 : Int) (s0_20 : Bool) (r1 : Int) (r2 : Bool) (r3 : Int) (r4 : Bool) (r5 : Int) (r6 : Bool) (r7 : Int) (r8 : Bool) (r9 : Int) (r10 : Bool) (r11 : Int) (r12 : Bool) (r13 : Int) (r14 : Bool) (r15 : Int) (r16 : Bool) (r17 : Int) (r18 : List Int) (r19 : Int) (r20 : Int) (r21 : Bool) (w : World) (hI : w.heap[g]? = some (.cells #[.int .u32 s0_0, .bool s0_1, .int .u32 s0_2, .bool s0_3, .int .u32 s0_4, .bool s0_5, .int .u32 s0_6, .bool s0_7, .int .u32 s0_8, .bool s0_9, .int .u32 s0_10, .bool s0_11, .int .u32 s0_12, .bool s0_13, .int .u32 s0_14, .bool s0_15, .pointer (some ⟨gs0, 0, none⟩), .int .i64 s0_18, .int .i64 s0_19, .bool s0_20] 54 (0, 0))) (hI1 : w.heap[gs0]? = some (.cells #[.int .i64 s0_16, .slice A0_17 l0_17.length c0_17] 68 (0, 0))) (hr0_17 : Kd.C (Kd.int .i64) w A0_17 l0_17.length l0_17) (hc0_17 : l0_17.length ≤ c0_17) (h : detect_Detect_Copy.f s0_0 s0_1 s0_2 s0_3 s0_4 s0_5 s0_6 s0_7 s0_8 s0_9 s0_10 s0_11 s0_12 s0_13 s0_14 s0_15 s0_16 l0_17 s0_18 s0_19 s0_20 = some (r1, r2, r3, r4, r5, r6, r7, r8, r9, r10, r11, r12, r13, r14, r15, r16, r17, r18, r19, r20, r21)) :
    Calls Try.prog 14 #[.pointer (some ⟨g, 0, none⟩)] w fun e w' => ∃ v17_ : Value, ∃ g_ gs0_ : Nat, e = .returned (.pointer (some ⟨g_, 0, none⟩)) ∧ Kd.R (Kd.int .i64) 3 w' w.heap.size (fun _ => True) v17_ r18 ∧ (w'.heap[g_]? = some (.cells #[.int .u32 r1, .bool r2, .int .u32 r3, .bool r4, .int .u32 r5, .bool r6, .int .u32 r7, .bool r8, .int .u32 r9, .bool r10, .int .u32 r11, .bool r12, .int .u32 r13, .bool r14, .int .u32 r15, .bool r16, .pointer (some ⟨gs0_, 0, none⟩), .int .i64 r19, .int .i64 r20, .bool r21] 54 (0, 0)) ∧ w.heap.size ≤ g_) ∧ (w'.heap[gs0_]? = some (.cells #[.int .i64 r17, v17_] 68 (0, 0)) ∧ w.heap.size ≤ gs0_) ∧ Below w.heap.size w w' := by
  have hu54 := Try.underlying54
  have HR0_17 := Aside0.mk hr0_17
  have HC0_17 := Aside0.mk hc0_17
  clear hr0_17 hc0_17
  have NB0_50 := Aside0.mk (show g ≠ gs0 from fun e_ => by have h1_ := hI; have h2_ := hI1; rw [e_] at h1_; have h_ := h1_.symm.trans h2_; simp at h_)
  have NB50_0 := Aside0.mk (show gs0 ≠ g from fun e_ => by have h1_ := hI1; have h2_ := hI; rw [e_] at h1_; have h_ := h1_.symm.trans h2_; simp at h_)
  have BK0 := Aside0.mk hI
  have BK50 := Aside0.mk hI1
  clear hI hI1
  have HB := Aside0.mk (Below.refl w.heap.size w)
  have H : ((history_History_Copy.f s0_16 l0_17).bind fun bt753 => (some (s0_0, s0_1, s0_2, s0_3, s0_4, s0_5, s0_6, s0_7, s0_8, s0_9, s0_10, s0_11, s0_12, s0_13, s0_14, s0_15, bt753.1, bt753.2, s0_18, s0_19, s0_20))) = some (r1, r2, r3, r4, r5, r6, r7, r8, r9, r10, r11, r12, r13, r14, r15, r16, r17, r18, r19, r20, r21) := h
  clear h
  replace H := Option.bind_eq_some_iff.mp H
  obtain ⟨⟨t753, t754⟩, A20, H⟩ := H
  replace H : (some (s0_0, s0_1, s0_2, s0_3, s0_4, s0_5, s0_6, s0_7, s0_8, s0_9, s0_10, s0_11, s0_12, s0_13, s0_14, s0_15, t753, t754, s0_18, s0_19, s0_20)) = some (r1, r2, r3, r4, r5, r6, r7, r8, r9, r10, r11, r12, r13, r14, r15, r16, r17, r18, r19, r20, r21) := H
  have A2 := Aside0.mk A20
  clear A20
  simp only [Option.some.injEq, Prod.mk.injEq] at H
  obtain ⟨rfl, rfl, rfl, rfl, rfl, rfl, rfl, rfl, rfl, rfl, rfl, rfl, rfl, rfl, rfl, rfl, rfl, rfl, rfl, rfl, rfl⟩ := H
  have hnb3 := NB0_50.out
  have hnc3 := NB50_0.out
  obtain ⟨hcz4_0, hcz4_1, hcz4_2, hcz4_3, hcz4_4, hcz4_5, hcz4_6, hcz4_7, hcz4_8, hcz4_9, hcz4_10, hcz4_11, hcz4_12, hcz4_13, hcz4_14, hcz4_15, hcz4_16, hcz4_17, hcz4_18, hcz4_19⟩ := bc20q11 BK0.out
  have hfz4_0 := fun i_ => blk_frozen BK0.out i_
  go_enter Try.func14, Try.ntmps14
  go_wp2_with (first | ((with_reducible refine gate_dst (N := 3) rfl ?_); refine box_event ?hg (N := 3) ?hd (cs := #[.int .u32 0, .bool false, .int .u32 0, .bool false, .int .u32 0, .bool false, .int .u32 0, .bool false, .int .u32 0, .bool false, .int .u32 0, .bool false, .int .u32 0, .bool false, .int .u32 0, .bool false, .pointer none, .int .i64 0, .int .i64 0, .bool false]) (t := 54) ?hr ?_; (case hd => rfl); (case hg => rfl); (case hr => first | (go_simp; done) | (go_simp; rfl)); intro gb752 hg w5 hbox hb; have n0_ := Aside0.mk (blk_below (bpq11 BK0.out) hb); have n1_ := Aside0.mk (blk_below (bpq11 BK50.out) hb); have n2_ := Aside0.mk (below_step ((bbq11 HB.out)) hb); have n3_ := Aside0.mk (hbox); have n4_ := Aside0.mk ((by rw [hg]; exact (below_size ((bbq11 HB.out))) : w.heap.size ≤ gb752)); have n5_ := Aside0.mk ((by rw [hg]; exact (below_size ((bbq11 HB.out))) : w.heap.size ≤ gb752)); have n6_ := Aside0.mk ((by rw [hg]; exact Nat.ne_of_lt (blk_lt (bpq11 BK0.out)) : g ≠ gb752)); have n7_ := Aside0.mk ((by rw [hg]; exact Nat.ne_of_gt (blk_lt (bpq11 BK0.out)) : gb752 ≠ g)); have n8_ := Aside0.mk ((by rw [hg]; exact Nat.ne_of_lt (blk_lt (bpq11 BK50.out)) : gs0 ≠ gb752)); have n9_ := Aside0.mk ((by rw [hg]; exact Nat.ne_of_gt (blk_lt (bpq11 BK50.out)) : gb752 ≠ gs0)); clear BK0; clear BK50; clear HB; have BK0 := n0_; have BK50 := n1_; have HB := n2_; have BK752 := n3_; have GW752 := n4_; have GE752 := n5_; have NB0_752 := n6_; have NB752_0 := n7_; have NB50_752 := n8_; have NB752_50 := n9_; clear n0_ n1_ n2_ n3_ n4_ n5_ n6_ n7_ n8_ n9_; clear hb hbox hg; have hnb6 := NB752_0.out; have hnc6 := NB0_752.out; have hnb7 := NB752_50.out; have hnc7 := NB50_752.out; obtain ⟨hcz8_0, hcz8_1, hcz8_2, hcz8_3, hcz8_4, hcz8_5, hcz8_6, hcz8_7, hcz8_8, hcz8_9, hcz8_10, hcz8_11, hcz8_12, hcz8_13, hcz8_14, hcz8_15, hcz8_16, hcz8_17, hcz8_18, hcz8_19⟩ := bc20q11 BK752.out; have hfz8_0 := fun i_ => blk_frozen BK752.out i_; obtain ⟨hcz9_0, hcz9_1, hcz9_2, hcz9_3, hcz9_4, hcz9_5, hcz9_6, hcz9_7, hcz9_8, hcz9_9, hcz9_10, hcz9_11, hcz9_12, hcz9_13, hcz9_14, hcz9_15, hcz9_16, hcz9_17, hcz9_18, hcz9_19⟩ := bc20q11 BK0.out; have hfz9_0 := fun i_ => blk_frozen BK0.out i_) | ((with_reducible refine gate_dst (N := 6) rfl ?_); refine wpList_load_row rfl 54 _ rfl g rfl 54 #[.int .u32 s0_0, .bool s0_1, .int .u32 s0_2, .bool s0_3, .int .u32 s0_4, .bool s0_5, .int .u32 s0_6, .bool s0_7, .int .u32 s0_8, .bool s0_9, .int .u32 s0_10, .bool s0_11, .int .u32 s0_12, .bool s0_13, .int .u32 s0_14, .bool s0_15, .pointer (some ⟨gs0, 0, none⟩), .int .i64 s0_18, .int .i64 s0_19, .bool s0_20] (0, 0) _ (bpq11 BK0.out) Try.underlying54 rfl (by kernel_rfl) ?_) | ((with_reducible refine gate_store (t := 54) (p := 3) rfl ?_); refine wpList_plain rfl fun K hK => ?_; refine wp_store_row 54 _ _ rfl gb752 #[.int .u32 s0_0, .bool s0_1, .int .u32 s0_2, .bool s0_3, .int .u32 s0_4, .bool s0_5, .int .u32 s0_6, .bool s0_7, .int .u32 s0_8, .bool s0_9, .int .u32 s0_10, .bool s0_11, .int .u32 s0_12, .bool s0_13, .int .u32 s0_14, .bool s0_15, .pointer (some ⟨gs0, 0, none⟩), .int .i64 s0_18, .int .i64 s0_19, .bool s0_20] rfl rfl 54 #[.int .u32 0, .bool false, .int .u32 0, .bool false, .int .u32 0, .bool false, .int .u32 0, .bool false, .int .u32 0, .bool false, .int .u32 0, .bool false, .int .u32 0, .bool false, .int .u32 0, .bool false, .pointer none, .int .i64 0, .int .i64 0, .bool false] BK752.out (by kernel_rfl) rfl (by simp [Value.oneCell']) (hK _ _ ?_); clear hK K; refine letterq11 (fun W_ => W_.heap[g]? = some (.cells #[.int .u32 s0_0, .bool s0_1, .int .u32 s0_2, .bool s0_3, .int .u32 s0_4, .bool s0_5, .int .u32 s0_6, .bool s0_7, .int .u32 s0_8, .bool s0_9, .int .u32 s0_10, .bool s0_11, .int .u32 s0_12, .bool s0_13, .int .u32 s0_14, .bool s0_15, .pointer (some ⟨gs0, 0, none⟩), .int .i64 s0_18, .int .i64 s0_19, .bool s0_20] 54 (0, 0)) ∧ W_.heap[gs0]? = some (.cells #[.int .i64 s0_16, .slice A0_17 l0_17.length c0_17] 68 (0, 0)) ∧ W_.heap[gb752]? = some (.cells #[.int .u32 s0_0, .bool s0_1, .int .u32 s0_2, .bool s0_3, .int .u32 s0_4, .bool s0_5, .int .u32 s0_6, .bool s0_7, .int .u32 s0_8, .bool s0_9, .int .u32 s0_10, .bool s0_11, .int .u32 s0_12, .bool s0_13, .int .u32 s0_14, .bool s0_15, .pointer (some ⟨gs0, 0, none⟩), .int .i64 s0_18, .int .i64 s0_19, .bool s0_20] 54 (0, 0)) ∧ Below w.heap.size w W_) ⟨(setRow_other _ _ _ _ NB0_752.out).trans (bpq11 BK0.out), (setRow_other _ _ _ _ NB50_752.out).trans (bpq11 BK50.out), setRow_heap _ _ _ _ _ _ BK752.out, belowrowq11 HB.out GE752.out _⟩ ?_; intro wz ⟨z0, z1, z2, zb⟩; clear BK0 BK50 BK752 HB; have BK0 := Aside0.mk z0; have BK50 := Aside0.mk z1; have BK752 := Aside0.mk z2; have HB := Aside0.mk zb; clear z0 z1 z2 zb; obtain ⟨hczz_0, hczz_1, hczz_2, hczz_3, hczz_4, hczz_5, hczz_6, hczz_7, hczz_8, hczz_9, hczz_10, hczz_11, hczz_12, hczz_13, hczz_14, hczz_15, hczz_16, hczz_17, hczz_18, hczz_19⟩ := bc20q11 BK752.out; have hfzz := fun i_ => blk_frozen BK752.out i_; obtain ⟨hczy_0, hczy_1, hczy_2, hczy_3, hczy_4, hczy_5, hczy_6, hczy_7, hczy_8, hczy_9, hczy_10, hczy_11, hczy_12, hczy_13, hczy_14, hczy_15, hczy_16, hczy_17, hczy_18, hczy_19⟩ := bc20q11 BK0.out; have hfzy := fun i_ => blk_frozen BK0.out i_) | ((with_reducible refine gate_callee (f := 28) rfl ?_); refine goesL_ (some 11) rfl rfl Try.func28 (by kernel_rfl) rfl #[.pointer (some ⟨gs0, 0, none⟩)] rfl (by (try simp only [List.map_toArray, List.map_cons, List.map_nil]); first | done | rfl | (simp only [List.length_drop, List.length_take]; rfl)) ?_; (with_reducible refine (history_History_Copy.calls gs0 s0_16 A0_17 c0_17 l0_17 t753 t754 _ ?side1 ?side2 ?side3 A2.out).mono ?_); (case side1 => exact bpq11 BK50.out); (case side2 => exact Kd.C_below HR0_17.out ((bbq11 HB.out))); (case side3 => exact HC0_17.out); rintro e w10 ⟨v755, g757, rfl, ho0, hi0, hb2⟩; refine ⟨_, rfl, ?_⟩; have hge_ := Nat.le_trans (below_size ((bbq11 HB.out))) hi0.2; have hgw_ := Nat.le_trans (below_size ((bbq11 HB.out))) hi0.2; have hb := below_step ((bbq11 HB.out)) hb2; have n0_ := Aside0.mk (Kd.R_lower ho0 (below_size ((bbq11 HB.out)))); have n1_ := Aside0.mk (blk_below (bpq11 BK0.out) hb2); have n2_ := Aside0.mk (blk_below (bpq11 BK50.out) hb2); have n3_ := Aside0.mk (blk_below (bpq11 BK752.out) hb2); have n4_ := Aside0.mk (hb); have n5_ := Aside0.mk (hi0.1); have n6_ := Aside0.mk (hge_); have n7_ := Aside0.mk (hgw_); have n8_ := Aside0.mk ((Nat.ne_of_gt (Nat.lt_of_lt_of_le (blk_lt (bpq11 BK0.out)) hi0.2) : g757 ≠ g)); have n9_ := Aside0.mk ((Nat.ne_of_lt (Nat.lt_of_lt_of_le (blk_lt (bpq11 BK0.out)) hi0.2) : g ≠ g757)); have n10_ := Aside0.mk ((Nat.ne_of_gt (Nat.lt_of_lt_of_le (blk_lt (bpq11 BK50.out)) hi0.2) : g757 ≠ gs0)); have n11_ := Aside0.mk ((Nat.ne_of_lt (Nat.lt_of_lt_of_le (blk_lt (bpq11 BK50.out)) hi0.2) : gs0 ≠ g757)); have n12_ := Aside0.mk ((Nat.ne_of_gt (Nat.lt_of_lt_of_le (blk_lt (bpq11 BK752.out)) hi0.2) : g757 ≠ gb752)); have n13_ := Aside0.mk ((Nat.ne_of_lt (Nat.lt_of_lt_of_le (blk_lt (bpq11 BK752.out)) hi0.2) : gb752 ≠ g757)); clear BK0; clear BK50; clear BK752; clear HB; have HO756 := n0_; have BK0 := n1_; have BK50 := n2_; have BK752 := n3_; have HB := n4_; have BK757 := n5_; have GE757 := n6_; have GW757 := n7_; have NB757_0 := n8_; have NB0_757 := n9_; have NB757_50 := n10_; have NB50_757 := n11_; have NB757_752 := n12_; have NB752_757 := n13_; clear n0_ n1_ n2_ n3_ n4_ n5_ n6_ n7_ n8_ n9_ n10_ n11_ n12_ n13_; (try clear hb); (try clear hb2); (try clear hge_); (try clear hgw_); (try clear hi0); (try clear ho0); have hnb11 := NB752_757.out; have hnc11 := NB757_752.out; obtain ⟨hcz12_0, hcz12_1, hcz12_2, hcz12_3, hcz12_4, hcz12_5, hcz12_6, hcz12_7, hcz12_8, hcz12_9, hcz12_10, hcz12_11, hcz12_12, hcz12_13, hcz12_14, hcz12_15, hcz12_16, hcz12_17, hcz12_18, hcz12_19⟩ := bc20q11 BK752.out; have hfz12_0 := fun i_ => blk_frozen BK752.out i_))
  go_ret
  exact ⟨v755, gb752, g757, by first | rfl | (simp; done) | (simp [*]; done), by (with_reducible repeat (first | apply Kd.R_alloc | apply Kd.R_drewN | apply Kd.R_drew)); exact Kd.R_mono (Kd.R_far (Kd.R_types HO756.out BK752.out (by decide)) (fun _ hk => hk.2) _) (fun _ hk => trivial), ⟨(by refine bzq11 ?_; refine btq11 (i := 16) ?_; exact ⟨_, bpq11 BK752.out, rfl⟩), GE752.out⟩, ⟨(by refine bfq11 NB757_752.out ?_; exact bpq11 BK757.out), GE757.out⟩, (bbq11 HB.out)⟩

end Go.Proofs.Ytobipigioaoaiaa.PDetectCopies
