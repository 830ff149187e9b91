-- Written by ext.sh (the session's own program, over the kit's printer) out of the translation. Lean checks it.
import Derived.Test.YtobipigioaoaiaaPDetectCopiesx0
namespace Go.Proofs.Ytobipigioaoaiaa.PDetectCopies
open Go.RowKit Go.Proofs.YtobipigioaoaiaaW.PrintWords Go.Proofs.YtobipigioaoaiaaW.PrintLast Go.Proofs.YtobipigioaoaiaaW.PrintMore
attribute [local go_sem] max2_int min2_int max_two min_two max_three min_three max_four min_four   -- for this text's walks alone
set_option linter.unusedVariables false
set_option linter.unusedSimpArgs false
theorem bpq2 {W V : World} {g : Nat} {o : Obj} (h : V.heap[g]? = some o) (e : V.heap[g]? = some o → W.heap[g]? = some o := by (intro h_; (with_reducible repeat (first | exact h_ | refine blk_drewN ?_ _ | refine blk_drew ?_ | refine blk_alloc ?_ _)); first | done | exact h_)) : W.heap[g]? = some o := e h
theorem bzq2 {W : World} {g : Nat} {t : TypeId} {c : Array Value} (h : ∃ cs, W.heap[g]? = some (.cells cs t (0, 0)) ∧ cs = c) : W.heap[g]? = some (.cells c t (0, 0)) := by obtain ⟨_, h, rfl⟩ := h; exact h
theorem btq2 {W V : World} {g : Nat} {t : TypeId} {i : Nat} {u : Value} {P : Array Value → Prop} (h : ∃ cs, V.heap[g]? = some (.cells cs t (0, 0)) ∧ P (cs.setIfInBounds i u)) (e : ∀ cs, (V.setCell ⟨g, i, none⟩ u).heap[g]? = some (.cells cs t (0, 0)) → W.heap[g]? = some (.cells cs t (0, 0)) := by (intro cs_ h_; (with_reducible repeat (first | exact h_ | refine blk_drewN ?_ _ | refine blk_drew ?_ | refine blk_alloc ?_ _)); first | done | exact h_)) : ∃ cs, W.heap[g]? = some (.cells cs t (0, 0)) ∧ P cs := by obtain ⟨cs, h, hp⟩ := h; exact ⟨_, e _ (blk_put h i u rfl), hp⟩
theorem kkq2 {w W V : World} {S : Nat → Prop} (h : Kept w V S) (e : Kept w V S → Kept w W S := by (intro h_; (with_reducible repeat (first | exact h_ | apply Kept.alloc | apply Kept.drewN | apply Kept.drew | refine Kept.setCell ?_ (by first | exact .inl (.inr rfl) | exact .inl (.inl (.inr rfl)) | exact .inr (Aside0.out (by assumption))) _)); first | done | exact h_)) : Kept w W S := e h
theorem bbq2 {n : Nat} {w W V : World} (h : Below n w V) (e : Below n w V → Below n w W := by (intro h_; (with_reducible repeat (first | exact h_ | apply below_alloc | apply pw_below_drewN | apply below_drew1 | refine below_set ?_ (Aside0.out (by assumption)))); first | done | exact h_)) : Below n w W := e h
theorem bc2q2 {w : World} {g : Nat} {t : TypeId} {v0 v1 : Value} (h : w.heap[g]? = some (.cells #[v0, v1] t (0, 0))) : w.cell? ⟨g, 0, none⟩ = some v0 ∧ w.cell? ⟨g, 1, none⟩ = some v1 := ⟨(blk_cell h 0).trans rfl, (blk_cell h 1).trans rfl⟩

/-! ### history_New: function 15 -/
def history_New.f  : Option (Int × List Int) := some (0, ([] : List Int))
set_option maxHeartbeats 8000000 in
set_option maxRecDepth 100000 in
theorem history_New.calls  (r1 : Int) (r2 : List Int) (w : World) (h : history_New.f  = some (r1, r2)) :
    Calls Try.prog 15 #[] w fun e w' => ∃ v1_ : Value, ∃ g_ : Nat, e = .returned (.pointer (some ⟨g_, 0, none⟩)) ∧ Kd.R (Kd.int .i64) 3 w' w.heap.size (fun _ => True) v1_ r2 ∧ (w'.heap[g_]? = some (.cells #[.int .i64 r1, v1_] 68 (0, 0)) ∧ w.heap.size ≤ g_) ∧ Below w.heap.size w w' := by
  have hu68 := Try.underlying68
  have HB := Aside0.mk (Below.refl w.heap.size w)
  have H : (some (0, ([] : List Int))) = some (r1, r2) := h
  clear h
  simp only [Option.some.injEq, Prod.mk.injEq] at H
  obtain ⟨rfl, rfl⟩ := H
  go_enter Try.func15, Try.ntmps15
  go_wp2_with (first | ((with_reducible refine gate_dst (N := 2) rfl ?_); refine box_event ?hg (N := 2) ?hd (cs := #[.int .i64 0, .slice none 0 0]) (t := 68) ?hr ?_; (case hd => rfl); (case hg => rfl); (case hr => first | (go_simp; done) | (go_simp; rfl)); intro gb101 hg w1 hbox hb; have n0_ := Aside0.mk (below_step ((bbq2 HB.out)) hb); have n1_ := Aside0.mk (hbox); have n2_ := Aside0.mk ((by rw [hg]; exact (below_size ((bbq2 HB.out))) : w.heap.size ≤ gb101)); have n3_ := Aside0.mk ((by rw [hg]; exact (below_size ((bbq2 HB.out))) : w.heap.size ≤ gb101)); clear HB; have HB := n0_; have BK101 := n1_; have GW101 := n2_; have GE101 := n3_; clear n0_ n1_ n2_ n3_; clear hb hbox hg))
  go_ret
  exact ⟨.slice none 0 0, gb101, by first | rfl | (simp; done) | (simp [*]; done), by first | exact Kd.R_nil _ _ _ _ _ | exact Kd.N_nil _ _ _ _ _ | exact Kd.V_nil _ _ _ _ _ | exact Kd.Q_nil _ _ _ _ _ | exact Kd.S_nil _ _ _ _ _, ⟨(by exact bpq2 BK101.out), GE101.out⟩, (bbq2 HB.out)⟩

/-! ### detect_New: function 7 -/
def detect_New.f  : Option (Int × Bool × Int × Bool × Int × Bool × Int × Bool × Int × Bool × Int × Bool × Int × Bool × Int × Bool × Int × List Int × Int × Int × Bool) := (history_New.f).bind fun bt102 => (some (0, false, 0, false, 0, false, 0, false, 0, false, 0, false, 0, false, 0, false, bt102.1, bt102.2, 0, 0, false))
set_option maxHeartbeats 8000000 in
set_option maxRecDepth 100000 in
theorem detect_New.calls  (r1 : Int) (r2 : Bool) (r3 : Int) (r4 : Bool) (r5 : Int) (r6 : Bool) (r7 : Int) (r8 : Bool) (r9 : Int) (r10 : Bool) (r11 : Int) (r12 : Bool) (r13 : Int) (r14 : Bool) (r15 : Int) (r16 : Bool) (r17 : Int) (r18 : List Int) (r19 : Int) (r20 : Int) (r21 : Bool) (w : World) (h : detect_New.f  = some (r1, r2, r3, r4, r5, r6, r7, r8, r9, r10, r11, r12, r13, r14, r15, r16, r17, r18, r19, r20, r21)) :
    Calls Try.prog 7 #[] w fun e w' => ∃ v17_ : Value, ∃ g_ gs0_ : Nat, e = .returned (.pointer (some ⟨g_, 0, none⟩)) ∧ Kd.R (Kd.int .i64) 3 w' w.heap.size (fun _ => True) v17_ r18 ∧ (w'.heap[g_]? = some (.cells #[.int .u32 r1, .bool r2, .int .u32 r3, .bool r4, .int .u32 r5, .bool r6, .int .u32 r7, .bool r8, .int .u32 r9, .bool r10, .int .u32 r11, .bool r12, .int .u32 r13, .bool r14, .int .u32 r15, .bool r16, .pointer (some ⟨gs0_, 0, none⟩), .int .i64 r19, .int .i64 r20, .bool r21] 54 (0, 0)) ∧ w.heap.size ≤ g_) ∧ (w'.heap[gs0_]? = some (.cells #[.int .i64 r17, v17_] 68 (0, 0)) ∧ w.heap.size ≤ gs0_) ∧ Below w.heap.size w w' := by
  have hu54 := Try.underlying54
  have HB := Aside0.mk (Below.refl w.heap.size w)
  have H : ((history_New.f).bind fun bt102 => (some (0, false, 0, false, 0, false, 0, false, 0, false, 0, false, 0, false, 0, false, bt102.1, bt102.2, 0, 0, false))) = some (r1, r2, r3, r4, r5, r6, r7, r8, r9, r10, r11, r12, r13, r14, r15, r16, r17, r18, r19, r20, r21) := h
  clear h
  replace H := Option.bind_eq_some_iff.mp H
  obtain ⟨⟨t102, t103⟩, A10, H⟩ := H
  replace H : (some (0, false, 0, false, 0, false, 0, false, 0, false, 0, false, 0, false, 0, false, t102, t103, 0, 0, false)) = some (r1, r2, r3, r4, r5, r6, r7, r8, r9, r10, r11, r12, r13, r14, r15, r16, r17, r18, r19, r20, r21) := H
  have A1 := Aside0.mk A10
  clear A10
  simp only [Option.some.injEq, Prod.mk.injEq] at H
  obtain ⟨rfl, rfl, rfl, rfl, rfl, rfl, rfl, rfl, rfl, rfl, rfl, rfl, rfl, rfl, rfl, rfl, rfl, rfl, rfl, rfl, rfl⟩ := H
  go_enter Try.func7, Try.ntmps7
  go_wp2_with (first | ((with_reducible refine gate_callee (f := 15) rfl ?_); refine goesL_ (some 1) rfl rfl Try.func15 (by kernel_rfl) rfl #[] rfl (by (try simp only [List.map_toArray, List.map_cons, List.map_nil]); first | done | rfl | (simp only [List.length_drop, List.length_take]; rfl)) ?_; (with_reducible refine (history_New.calls  t102 t103 _ A1.out).mono ?_); rintro e w2 ⟨v104, g106, rfl, ho0, hi0, hb2⟩; refine ⟨_, rfl, ?_⟩; have hge_ := Nat.le_trans (below_size ((bbq2 HB.out))) hi0.2; have hgw_ := Nat.le_trans (below_size ((bbq2 HB.out))) hi0.2; have hb := below_step ((bbq2 HB.out)) hb2; have n0_ := Aside0.mk (Kd.R_lower ho0 (below_size ((bbq2 HB.out)))); have n1_ := Aside0.mk (hb); have n2_ := Aside0.mk (hi0.1); have n3_ := Aside0.mk (hge_); have n4_ := Aside0.mk (hgw_); clear HB; have HO105 := n0_; have HB := n1_; have BK106 := n2_; have GE106 := n3_; have GW106 := n4_; clear n0_ n1_ n2_ n3_ n4_; (try clear hb); (try clear hb2); (try clear hge_); (try clear hgw_); (try clear hi0); (try clear ho0)) | ((with_reducible refine gate_dst (N := 3) rfl ?_); refine box_event ?hg (N := 3) ?hd (cs := #[.int .u32 0, .bool false, .int .u32 0, .bool false, .int .u32 0, .bool false, .int .u32 0, .bool false, .int .u32 0, .bool false, .int .u32 0, .bool false, .int .u32 0, .bool false, .int .u32 0, .bool false, .pointer (some ⟨g106, 0, none⟩), .int .i64 0, .int .i64 0, .bool false]) (t := 54) ?hr ?_; (case hd => rfl); (case hg => rfl); (case hr => first | (go_simp; done) | (go_simp; rfl)); intro gb107 hg w3 hbox hb; have n0_ := Aside0.mk (Kd.R_below (by (with_reducible repeat (first | apply Kd.R_alloc | apply Kd.R_drewN | apply Kd.R_drew)); exact HO105.out) hb); have n1_ := Aside0.mk (blk_below (bpq2 BK106.out) hb); have n2_ := Aside0.mk (below_step ((bbq2 HB.out)) hb); have n3_ := Aside0.mk (hbox); have n4_ := Aside0.mk ((by rw [hg]; exact (below_size ((bbq2 HB.out))) : w.heap.size ≤ gb107)); have n5_ := Aside0.mk ((by rw [hg]; exact (below_size ((bbq2 HB.out))) : w.heap.size ≤ gb107)); have n6_ := Aside0.mk ((by rw [hg]; exact Nat.ne_of_lt (blk_lt (bpq2 BK106.out)) : g106 ≠ gb107)); have n7_ := Aside0.mk ((by rw [hg]; exact Nat.ne_of_gt (blk_lt (bpq2 BK106.out)) : gb107 ≠ g106)); clear HO105; clear BK106; clear HB; have HO105 := n0_; have BK106 := n1_; have HB := n2_; have BK107 := n3_; have GW107 := n4_; have GE107 := n5_; have NB106_107 := n6_; have NB107_106 := n7_; clear n0_ n1_ n2_ n3_ n4_ n5_ n6_ n7_; clear hb hbox hg))
  go_ret
  exact ⟨v104, gb107, g106, by first | rfl | (simp; done) | (simp [*]; done), by (with_reducible repeat (first | apply Kd.R_alloc | apply Kd.R_drewN | apply Kd.R_drew)); exact HO105.out, ⟨(by exact bpq2 BK107.out), GE107.out⟩, ⟨(by exact bpq2 BK106.out), GE106.out⟩, (bbq2 HB.out)⟩

/-! ### detect_has: function 19 -/
def detect_has.f (a0 : Int) : Option (Bool) := if a0 ≥ 0 then (some (decide (a0 < 8))) else (some false)
set_option maxHeartbeats 8000000 in
set_option maxRecDepth 100000 in
theorem detect_has.calls (a0 : Int) (r : Bool) (w : World) (h : detect_has.f a0 = some r) :
    Calls Try.prog 19 #[.int .i64 a0] w fun e w' => e = .returned (.bool r) ∧ Drawn0 w w' := by
  have H : (if a0 ≥ 0 then (some (decide (a0 < 8))) else (some false)) = some r := h
  clear h
  by_cases c2 : a0 ≥ 0
  · rw [if_pos c2] at H
    have c2b0 : decide (0 ≤ a0) = true := decide_eq_true c2
    clear c2
    obtain rfl := Option.some.inj H
    go_enter Try.func19, Try.ntmps19
    go_wp2
    go_ret
    exact ⟨by first | rfl | (simp; done) | (simp [*]; done), by repeat (first | exact Drawn0.refl _ | apply Drawn0.step)⟩
  · rw [if_neg c2] at H
    have c2b0 : decide (0 ≤ a0) = false := decide_eq_false c2
    clear c2
    obtain rfl := Option.some.inj H
    go_enter Try.func19, Try.ntmps19
    go_wp2
    go_ret
    exact ⟨by first | rfl | (simp; done) | (simp [*]; done), by repeat (first | exact Drawn0.refl _ | apply Drawn0.step)⟩

/-! ### detect_time: function 20 -/
def detect_time.f (a0 : Int) : Option (Bool) := if a0 ≥ 0 then (some (decide (a0 ≤ 1099511627776))) else (some false)
set_option maxHeartbeats 8000000 in
set_option maxRecDepth 100000 in
theorem detect_time.calls (a0 : Int) (r : Bool) (w : World) (h : detect_time.f a0 = some r) :
    Calls Try.prog 20 #[.int .i64 a0] w fun e w' => e = .returned (.bool r) ∧ Drawn0 w w' := by
  have H : (if a0 ≥ 0 then (some (decide (a0 ≤ 1099511627776))) else (some false)) = some r := h
  clear h
  by_cases c2 : a0 ≥ 0
  · rw [if_pos c2] at H
    have c2b0 : decide (0 ≤ a0) = true := decide_eq_true c2
    clear c2
    obtain rfl := Option.some.inj H
    go_enter Try.func20, Try.ntmps20
    go_wp2
    go_ret
    exact ⟨by first | rfl | (simp; done) | (simp [*]; done), by repeat (first | exact Drawn0.refl _ | apply Drawn0.step)⟩
  · rw [if_neg c2] at H
    have c2b0 : decide (0 ≤ a0) = false := decide_eq_false c2
    clear c2
    obtain rfl := Option.some.inj H
    go_enter Try.func20, Try.ntmps20
    go_wp2
    go_ret
    exact ⟨by first | rfl | (simp; done) | (simp [*]; done), by repeat (first | exact Drawn0.refl _ | apply Drawn0.step)⟩

/-! ### serial_Gap: function 21 -/
def serial_Gap.f (a0 : Int) (a1 : Int) : Option (Int) := if ((a1 - a0) % 4294967296) = 2147483648 then (some 0) else (some (wrap64 (wrap32 ((a1 - a0) % 4294967296))))
set_option maxHeartbeats 8000000 in
set_option maxRecDepth 100000 in
theorem serial_Gap.calls (a0 : Int) (a1 : Int) (r : Int) (w : World) (h : serial_Gap.f a0 a1 = some r) :
    Calls Try.prog 21 #[.int .u32 a0, .int .u32 a1] w fun e w' => e = .returned (.int .i64 r) ∧ Drawn0 w w' := by
  have H : (if ((a1 - a0) % 4294967296) = 2147483648 then (some 0) else (some (wrap64 (wrap32 ((a1 - a0) % 4294967296))))) = some r := h
  clear h
  by_cases c3 : ((a1 - a0) % 4294967296) = 2147483648
  · rw [if_pos c3] at H
    have c3b0 : (((a1 - a0) % 4294967296) == 2147483648) = true := beq_iff_eq.mpr c3
    have c3b1 : (((a1 - a0) % 4294967296) != 2147483648) = false := bne_eq_false_iff_eq.mpr c3
    clear c3
    obtain rfl := Option.some.inj H
    go_enter Try.func21, Try.ntmps21
    go_wp2
    go_ret
    exact ⟨by first | rfl | (simp; done) | (simp [*]; done), by repeat (first | exact Drawn0.refl _ | apply Drawn0.step)⟩
  · rw [if_neg c3] at H
    have c3b0 : (((a1 - a0) % 4294967296) == 2147483648) = false := beq_eq_false_iff_ne.mpr c3
    have c3b1 : (((a1 - a0) % 4294967296) != 2147483648) = true := bne_iff_ne.mpr c3
    obtain rfl := Option.some.inj H
    go_enter Try.func21, Try.ntmps21
    go_wp2
    go_ret
    exact ⟨by first | rfl | (simp; done) | (simp [*]; done), by repeat (first | exact Drawn0.refl _ | apply Drawn0.step)⟩

/-! ### serial_Next: function 29 -/
def serial_Next.f (a0 : Int) (a1 : Int) : Option (Int) := some ((a0 + ((a1) % 4294967296)) % 4294967296)
set_option maxHeartbeats 8000000 in
set_option maxRecDepth 100000 in
theorem serial_Next.calls (a0 : Int) (a1 : Int) (r : Int) (w : World) (h : serial_Next.f a0 a1 = some r) :
    Calls Try.prog 29 #[.int .u32 a0, .int .i64 a1] w fun e w' => e = .returned (.int .u32 r) ∧ Drawn0 w w' := by
  have H : (some ((a0 + ((a1) % 4294967296)) % 4294967296)) = some r := h
  clear h
  obtain rfl := Option.some.inj H
  go_enter Try.func29, Try.ntmps29
  go_wp2
  go_ret
  exact ⟨by first | rfl | (simp; done) | (simp [*]; done), by repeat (first | exact Drawn0.refl _ | apply Drawn0.step)⟩

/-! ### history_History_Packet: function 30 -/
def history_History_Packet.f (s0_0 : Int) (l0_1 : List Int) (a1 : Int) : Option (Int × Int × List Int) := if a1 < 0 then (some (11, s0_0, l0_1)) else (if a1 > 65536 then (some (11, s0_0, l0_1)) else (if (wrap64 (s0_0 + a1)) > 1048576 then (some (11, s0_0, l0_1)) else (some (0, wrap64 (s0_0 + a1), l0_1))))
set_option maxHeartbeats 8000000 in
set_option maxRecDepth 100000 in
theorem history_History_Packet.calls (g : Nat) (s0_0 : Int) (P0_1_ : Nat → Prop) (u9000_ : Value) (l0_1 : List Int) (a1 : Int) (r1 : Int) (r2 : Int) (r3 : List Int) (w0 w : World) (hI : w.heap[g]? = some (.cells #[.int .i64 s0_0, u9000_] 68 (0, 0))) (hG : w0.heap.size ≤ g) (hB : Below w0.heap.size w0 w) (ho0_1 : Kd.R (Kd.int .i64) 3 w w0.heap.size P0_1_ u9000_ l0_1) (h : history_History_Packet.f s0_0 l0_1 a1 = some (r1, r2, r3)) :
    Calls Try.prog 30 #[.pointer (some ⟨g, 0, none⟩), .int .i64 a1] w fun e w' => ∃ v2_ : Value, e = .returned (.int .i64 r1) ∧ Kd.R (Kd.int .i64) 3 w' w0.heap.size (fun k_ => (P0_1_ k_ ∨ w.heap.size ≤ k_)) v2_ r3 ∧ w'.heap[g]? = some (.cells #[.int .i64 r2, v2_] 68 (0, 0)) ∧ Below w0.heap.size w0 w' ∧ Kept w w' (fun k_ => (P0_1_ k_) ∨ k_ = g) := by
  have HO0_1 := Aside0.mk (show Kd.R (Kd.int .i64) 3 w w0.heap.size (fun k_ => (P0_1_ k_ ∨ w.heap.size ≤ k_)) u9000_ l0_1 from Kd.R_mono ho0_1 (fun k_ hk => (.inl hk)))
  have BK0 := Aside0.mk hI
  have GE0 := Aside0.mk hG
  clear hI hG
  have HK := Aside0.mk (Kept.refl w (fun k_ => (P0_1_ k_) ∨ k_ = g))
  have HW0 := Aside0.mk hB.size
  have HB := Aside0.mk hB
  clear hB
  have H : (if a1 < 0 then (some (11, s0_0, l0_1)) else (if a1 > 65536 then (some (11, s0_0, l0_1)) else (if (wrap64 (s0_0 + a1)) > 1048576 then (some (11, s0_0, l0_1)) else (some (0, wrap64 (s0_0 + a1), l0_1))))) = some (r1, r2, r3) := h
  clear h
  by_cases c3 : a1 < 0
  · rw [if_pos c3] at H
    have c3b0 : decide (a1 < 0) = true := decide_eq_true c3
    clear c3
    simp only [Option.some.injEq, Prod.mk.injEq] at H
    obtain ⟨rfl, rfl, rfl⟩ := H
    go_enter Try.func30, Try.ntmps30
    go_wp2
    go_ret
    exact ⟨_, by first | rfl | (simp [errW_none, errW_some] <;> rfl) | (simp [*, errW_none, errW_some] <;> rfl), by (with_reducible repeat (first | apply Kd.R_alloc | apply Kd.R_drewN | apply Kd.R_drew)); exact HO0_1.out, (by exact bpq2 BK0.out), (bbq2 HB.out), (kkq2 HK.out)⟩
  · rw [if_neg c3] at H
    have c3b0 : decide (a1 < 0) = false := decide_eq_false c3
    clear c3
    by_cases c4 : a1 > 65536
    · rw [if_pos c4] at H
      have c4b0 : decide (65536 < a1) = true := decide_eq_true c4
      clear c4
      simp only [Option.some.injEq, Prod.mk.injEq] at H
      obtain ⟨rfl, rfl, rfl⟩ := H
      go_enter Try.func30, Try.ntmps30
      go_wp2
      go_ret
      exact ⟨_, by first | rfl | (simp [errW_none, errW_some] <;> rfl) | (simp [*, errW_none, errW_some] <;> rfl), by (with_reducible repeat (first | apply Kd.R_alloc | apply Kd.R_drewN | apply Kd.R_drew)); exact HO0_1.out, (by exact bpq2 BK0.out), (bbq2 HB.out), (kkq2 HK.out)⟩
    · rw [if_neg c4] at H
      have c4b0 : decide (65536 < a1) = false := decide_eq_false c4
      clear c4
      by_cases c5 : (wrap64 (s0_0 + a1)) > 1048576
      · rw [if_pos c5] at H
        have c5b0 : decide (1048576 < (wrap64 (s0_0 + a1))) = true := decide_eq_true c5
        clear c5
        simp only [Option.some.injEq, Prod.mk.injEq] at H
        obtain ⟨rfl, rfl, rfl⟩ := H
        obtain ⟨hcz6_0, hcz6_1⟩ := bc2q2 BK0.out
        have hfz6_0 := fun i_ => blk_frozen BK0.out i_
        go_enter Try.func30, Try.ntmps30
        go_wp2
        go_ret
        exact ⟨_, by first | rfl | (simp [errW_none, errW_some] <;> rfl) | (simp [*, errW_none, errW_some] <;> rfl), by (with_reducible repeat (first | apply Kd.R_alloc | apply Kd.R_drewN | apply Kd.R_drew)); exact HO0_1.out, (by exact bpq2 BK0.out), (bbq2 HB.out), (kkq2 HK.out)⟩
      · rw [if_neg c5] at H
        have c5b0 : decide (1048576 < (wrap64 (s0_0 + a1))) = false := decide_eq_false c5
        clear c5
        simp only [Option.some.injEq, Prod.mk.injEq] at H
        obtain ⟨rfl, rfl, rfl⟩ := H
        obtain ⟨hcz7_0, hcz7_1⟩ := bc2q2 BK0.out
        have hfz7_0 := fun i_ => blk_frozen BK0.out i_
        go_enter Try.func30, Try.ntmps30
        go_wp2
        go_ret
        exact ⟨_, by first | rfl | (simp [errW_none, errW_some] <;> rfl) | (simp [*, errW_none, errW_some] <;> rfl), by (with_reducible repeat (first | apply Kd.R_alloc | apply Kd.R_drewN | apply Kd.R_drew)); exact Kd.R_mono (Kd.R_far (Kd.R_types HO0_1.out BK0.out (by decide)) (fun _ hk => hk.2) _) (fun _ hk => hk.1), (by refine bzq2 ?_; refine btq2 (i := 0) ?_; exact ⟨_, bpq2 BK0.out, rfl⟩), (bbq2 HB.out), (kkq2 HK.out)⟩

end Go.Proofs.Ytobipigioaoaiaa.PDetectCopies
