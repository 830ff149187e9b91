-- Written by ext.sh (the session's own program, over the kit's printer) out of the translation. Lean checks it.
import Derived.Test.YtobipigioaoaiaaPDetectCopiesx0
import Derived.Test.YtobipigioaoaiaaPDetectCopiesx2
namespace Go.Proofs.Ytobipigioaoaiaa.PDetectCopies
open Go.RowKit Go.Proofs.YtobipigioaoaiaaW.PrintWords Go.Proofs.YtobipigioaoaiaaW.PrintLast Go.Proofs.YtobipigioaoaiaaW.PrintMore
attribute [local go_sem] max2_int min2_int max_two min_two max_three min_three max_four min_four   -- for this text's walks alone
set_option linter.unusedVariables false
set_option linter.unusedSimpArgs false
theorem bpq3 {W V : World} {g : Nat} {o : Obj} (h : V.heap[g]? = some o) (e : V.heap[g]? = some o → W.heap[g]? = some o := by (intro h_; (with_reducible repeat (first | exact h_ | refine blk_drewN ?_ _ | refine blk_drew ?_ | refine blk_alloc ?_ _)); first | done | exact h_)) : W.heap[g]? = some o := e h
theorem bfq3 {W V : World} {g b : Nat} {t : TypeId} {cs : Array Value} {i : Nat} {u : Value} (hn : g ≠ b) (h : V.heap[g]? = some (.cells cs t (0, 0))) (e : (V.setCell ⟨b, i, none⟩ u).heap[g]? = some (.cells cs t (0, 0)) → W.heap[g]? = some (.cells cs t (0, 0)) := by (intro h_; (with_reducible repeat (first | exact h_ | refine blk_drewN ?_ _ | refine blk_drew ?_ | refine blk_alloc ?_ _)); first | done | exact h_)) : W.heap[g]? = some (.cells cs t (0, 0)) := e (blk_far h hn u)
theorem bzq3 {W : World} {g : Nat} {t : TypeId} {c : Array Value} (h : ∃ cs, W.heap[g]? = some (.cells cs t (0, 0)) ∧ cs = c) : W.heap[g]? = some (.cells c t (0, 0)) := by obtain ⟨_, h, rfl⟩ := h; exact h
theorem btq3 {W V : World} {g : Nat} {t : TypeId} {i : Nat} {u : Value} {P : Array Value → Prop} (h : ∃ cs, V.heap[g]? = some (.cells cs t (0, 0)) ∧ P (cs.setIfInBounds i u)) (e : ∀ cs, (V.setCell ⟨g, i, none⟩ u).heap[g]? = some (.cells cs t (0, 0)) → W.heap[g]? = some (.cells cs t (0, 0)) := by (intro cs_ h_; (with_reducible repeat (first | exact h_ | refine blk_drewN ?_ _ | refine blk_drew ?_ | refine blk_alloc ?_ _)); first | done | exact h_)) : ∃ cs, W.heap[g]? = some (.cells cs t (0, 0)) ∧ P cs := by obtain ⟨cs, h, hp⟩ := h; exact ⟨_, e _ (blk_put h i u rfl), hp⟩
theorem kkq3 {w W V : World} {S : Nat → Prop} (h : Kept w V S) (e : Kept w V S → Kept w W S := by (intro h_; (with_reducible repeat (first | exact h_ | apply Kept.alloc | apply Kept.drewN | apply Kept.drew | refine Kept.setCell ?_ (by first | exact .inl (.inr rfl) | exact .inl (.inl (.inr rfl)) | exact .inr (Aside0.out (by assumption))) _)); first | done | exact h_)) : Kept w W S := e h
theorem bbq3 {n : Nat} {w W V : World} (h : Below n w V) (e : Below n w V → Below n w W := by (intro h_; (with_reducible repeat (first | exact h_ | apply below_alloc | apply pw_below_drewN | apply below_drew1 | refine below_set ?_ (Aside0.out (by assumption)))); first | done | exact h_)) : Below n w W := e h
theorem bc20q3 {w : World} {g : Nat} {t : TypeId} {v0 v1 v2 v3 v4 v5 v6 v7 v8 v9 v10 v11 v12 v13 v14 v15 v16 v17 v18 v19 : Value} (h : w.heap[g]? = some (.cells #[v0, v1, v2, v3, v4, v5, v6, v7, v8, v9, v10, v11, v12, v13, v14, v15, v16, v17, v18, v19] t (0, 0))) : w.cell? ⟨g, 0, none⟩ = some v0 ∧ w.cell? ⟨g, 1, none⟩ = some v1 ∧ w.cell? ⟨g, 2, none⟩ = some v2 ∧ w.cell? ⟨g, 3, none⟩ = some v3 ∧ w.cell? ⟨g, 4, none⟩ = some v4 ∧ w.cell? ⟨g, 5, none⟩ = some v5 ∧ w.cell? ⟨g, 6, none⟩ = some v6 ∧ w.cell? ⟨g, 7, none⟩ = some v7 ∧ w.cell? ⟨g, 8, none⟩ = some v8 ∧ w.cell? ⟨g, 9, none⟩ = some v9 ∧ w.cell? ⟨g, 10, none⟩ = some v10 ∧ w.cell? ⟨g, 11, none⟩ = some v11 ∧ w.cell? ⟨g, 12, none⟩ = some v12 ∧ w.cell? ⟨g, 13, none⟩ = some v13 ∧ w.cell? ⟨g, 14, none⟩ = some v14 ∧ w.cell? ⟨g, 15, none⟩ = some v15 ∧ w.cell? ⟨g, 16, none⟩ = some v16 ∧ w.cell? ⟨g, 17, none⟩ = some v17 ∧ w.cell? ⟨g, 18, none⟩ = some v18 ∧ w.cell? ⟨g, 19, none⟩ = some v19 := ⟨(blk_cell h 0).trans rfl, (blk_cell h 1).trans rfl, (blk_cell h 2).trans rfl, (blk_cell h 3).trans rfl, (blk_cell h 4).trans rfl, (blk_cell h 5).trans rfl, (blk_cell h 6).trans rfl, (blk_cell h 7).trans rfl, (blk_cell h 8).trans rfl, (blk_cell h 9).trans rfl, (blk_cell h 10).trans rfl, (blk_cell h 11).trans rfl, (blk_cell h 12).trans rfl, (blk_cell h 13).trans rfl, (blk_cell h 14).trans rfl, (blk_cell h 15).trans rfl, (blk_cell h 16).trans rfl, (blk_cell h 17).trans rfl, (blk_cell h 18).trans rfl, (blk_cell h 19).trans rfl⟩

/-! ### detect_Detect_took: function 22 -/
def detect_Detect_took.f (s0_0 : Int) (s0_1 : Bool) (s0_2 : Int) (s0_3 : Bool) (s0_4 : Int) (s0_5 : Bool) (s0_6 : Int) (s0_7 : Bool) (s0_8 : Int) (s0_9 : Bool) (s0_10 : Int) (s0_11 : Bool) (s0_12 : Int) (s0_13 : Bool) (s0_14 : Int) (s0_15 : Bool) (s0_16 : Int) (l0_17 : List Int) (s0_18 : Int) (s0_19 : Int) (s0_20 : Bool) (a1 : Int) (a2 : Int) (a3 : Int) : Option (Int × Bool × Int × Bool × Int × Bool × Int × Bool × Int × Bool × Int × Bool × Int × Bool × Int × Bool × Int × List Int × Int × Int × Bool) := (serial_Next.f a2 1).bind fun t108 => (if a1 = 0 then ((history_History_Packet.f s0_16 l0_17 a3).bind fun bt110 => ((history_History_Packet.f bt110.2.1 bt110.2.2 1).bind fun bt115 => (some (t108, true, s0_2, s0_3, s0_4, s0_5, s0_6, s0_7, s0_8, s0_9, s0_10, s0_11, s0_12, s0_13, s0_14, s0_15, bt115.2.1, bt115.2.2, s0_18, s0_19, s0_20)))) else (if a1 = 1 then ((history_History_Packet.f s0_16 l0_17 a3).bind fun bt121 => ((history_History_Packet.f bt121.2.1 bt121.2.2 1).bind fun bt126 => (some (s0_0, s0_1, t108, true, s0_4, s0_5, s0_6, s0_7, s0_8, s0_9, s0_10, s0_11, s0_12, s0_13, s0_14, s0_15, bt126.2.1, bt126.2.2, s0_18, s0_19, s0_20)))) else (if a1 = 2 then ((history_History_Packet.f s0_16 l0_17 a3).bind fun bt132 => ((history_History_Packet.f bt132.2.1 bt132.2.2 1).bind fun bt137 => (some (s0_0, s0_1, s0_2, s0_3, t108, true, s0_6, s0_7, s0_8, s0_9, s0_10, s0_11, s0_12, s0_13, s0_14, s0_15, bt137.2.1, bt137.2.2, s0_18, s0_19, s0_20)))) else (if a1 = 3 then ((history_History_Packet.f s0_16 l0_17 a3).bind fun bt143 => ((history_History_Packet.f bt143.2.1 bt143.2.2 1).bind fun bt148 => (some (s0_0, s0_1, s0_2, s0_3, s0_4, s0_5, t108, true, s0_8, s0_9, s0_10, s0_11, s0_12, s0_13, s0_14, s0_15, bt148.2.1, bt148.2.2, s0_18, s0_19, s0_20)))) else (if a1 = 4 then ((history_History_Packet.f s0_16 l0_17 a3).bind fun bt154 => ((history_History_Packet.f bt154.2.1 bt154.2.2 1).bind fun bt159 => (some (s0_0, s0_1, s0_2, s0_3, s0_4, s0_5, s0_6, s0_7, t108, true, s0_10, s0_11, s0_12, s0_13, s0_14, s0_15, bt159.2.1, bt159.2.2, s0_18, s0_19, s0_20)))) else (if a1 = 5 then ((history_History_Packet.f s0_16 l0_17 a3).bind fun bt165 => ((history_History_Packet.f bt165.2.1 bt165.2.2 1).bind fun bt170 => (some (s0_0, s0_1, s0_2, s0_3, s0_4, s0_5, s0_6, s0_7, s0_8, s0_9, t108, true, s0_12, s0_13, s0_14, s0_15, bt170.2.1, bt170.2.2, s0_18, s0_19, s0_20)))) else (if a1 = 6 then ((history_History_Packet.f s0_16 l0_17 a3).bind fun bt176 => ((history_History_Packet.f bt176.2.1 bt176.2.2 1).bind fun bt181 => (some (s0_0, s0_1, s0_2, s0_3, s0_4, s0_5, s0_6, s0_7, s0_8, s0_9, s0_10, s0_11, t108, true, s0_14, s0_15, bt181.2.1, bt181.2.2, s0_18, s0_19, s0_20)))) else (if a1 = 7 then ((history_History_Packet.f s0_16 l0_17 a3).bind fun bt187 => ((history_History_Packet.f bt187.2.1 bt187.2.2 1).bind fun bt192 => (some (s0_0, s0_1, s0_2, s0_3, s0_4, s0_5, s0_6, s0_7, s0_8, s0_9, s0_10, s0_11, s0_12, s0_13, t108, true, bt192.2.1, bt192.2.2, s0_18, s0_19, s0_20)))) else (none)))))))))
def detect_Detect_took.T0 : Bool × List (List Nat × List Nat) := (true, [([], []), ([], []), ([], []), ([2], [2]), ([3], [3]), ([0], [0]), ([5], [5]), ([6, 1, 0, 1, 2, 3, 4], [1, 6]), ([7, 4, 3, 0, 1, 2, 3, 4], [4, 7])])
def detect_Detect_took.B0 : List Nat := [0, 0, 0, 4, 12, 1, 33, 127, 255]
theorem detect_Detect_took.tab0 : rtab .any (opsOf Try.f22 0) = detect_Detect_took.T0 := by kernel_rfl
theorem detect_Detect_took.bits0 : waitsOk detect_Detect_took.T0.2 detect_Detect_took.B0 = true := by kernel_rfl
set_option maxHeartbeats 8000000 in
set_option maxRecDepth 100000 in
theorem detect_Detect_took.calls (g : Nat) (gs0 : Nat) (s0_0 : Int) (s0_1 : Bool) (s0_2 : Int) (s0_3 : Bool) (s0_4 : Int) (s0_5 : Bool) (s0_6 : Int) (s0_7 : Bool) (s0_8 : Int) (s0_9 : Bool) (s0_10 : Int) (s0_11 : Bool) (s0_12 : Int) (s0_13 : Bool) (s0_14 : Int) (s0_15 : Bool) (s0_16 : Int) (P0_17_ : Nat → Prop) (u9000_ : Value) (l0_17 : List Int) (s0_18 : Int) (s0_19 : Int) (s0_20 : Bool) (a1 : Int) (a2 : Int) (a3 : Int) (r1 : Int) (r2 : Bool) (r3 : Int) (r4 : Bool) (r5 : Int) (r6 : Bool) (r7 : Int) (r8 : Bool) (r9 : Int) (r10 : Bool) (r11 : Int) (r12 : Bool) (r13 : Int) (r14 : Bool) (r15 : Int) (r16 : Bool) (r17 : Int) (r18 : List Int) (r19 : Int) (r20 : Int) (r21 : Bool) (w0 w : World) (hI : w.heap[g]? = some (.cells #[.int .u32 s0_0, .bool s0_1, .int .u32 s0_2, .bool s0_3, .int .u32 s0_4, .bool s0_5, .int .u32 s0_6, .bool s0_7, .int .u32 s0_8, .bool s0_9, .int .u32 s0_10, .bool s0_11, .int .u32 s0_12, .bool s0_13, .int .u32 s0_14, .bool s0_15, .pointer (some ⟨gs0, 0, none⟩), .int .i64 s0_18, .int .i64 s0_19, .bool s0_20] 54 (0, 0))) (hG : w0.heap.size ≤ g) (hI1 : w.heap[gs0]? = some (.cells #[.int .i64 s0_16, u9000_] 68 (0, 0))) (hG1 : w0.heap.size ≤ gs0) (hB : Below w0.heap.size w0 w) (ho0_17 : Kd.R (Kd.int .i64) 3 w w0.heap.size P0_17_ u9000_ l0_17) (h : detect_Detect_took.f s0_0 s0_1 s0_2 s0_3 s0_4 s0_5 s0_6 s0_7 s0_8 s0_9 s0_10 s0_11 s0_12 s0_13 s0_14 s0_15 s0_16 l0_17 s0_18 s0_19 s0_20 a1 a2 a3 = some (r1, r2, r3, r4, r5, r6, r7, r8, r9, r10, r11, r12, r13, r14, r15, r16, r17, r18, r19, r20, r21)) :
    Calls Try.prog 22 #[.pointer (some ⟨g, 0, none⟩), .int .i64 a1, .int .u32 a2, .int .i64 a3] w fun e w' => ∃ v17_ : Value, e = .returned (.tuple #[]) ∧ Kd.R (Kd.int .i64) 3 w' w0.heap.size (fun k_ => (P0_17_ k_ ∨ w.heap.size ≤ k_)) v17_ r18 ∧ w'.heap[g]? = some (.cells #[.int .u32 r1, .bool r2, .int .u32 r3, .bool r4, .int .u32 r5, .bool r6, .int .u32 r7, .bool r8, .int .u32 r9, .bool r10, .int .u32 r11, .bool r12, .int .u32 r13, .bool r14, .int .u32 r15, .bool r16, .pointer (some ⟨gs0, 0, none⟩), .int .i64 r19, .int .i64 r20, .bool r21] 54 (0, 0)) ∧ w'.heap[gs0]? = some (.cells #[.int .i64 r17, v17_] 68 (0, 0)) ∧ Below w0.heap.size w0 w' ∧ Kept w w' (fun k_ => ((P0_17_ k_) ∨ k_ = g) ∨ k_ = gs0) := by
  have hu51 := Try.underlying51
  have HO0_17 := Aside0.mk (show Kd.R (Kd.int .i64) 3 w w0.heap.size (fun k_ => (P0_17_ k_ ∨ w.heap.size ≤ k_)) u9000_ l0_17 from Kd.R_mono ho0_17 (fun k_ hk => (.inl hk)))
  have NB0_50 := Aside0.mk (show g ≠ gs0 from fun e_ => by have h1_ := hI; have h2_ := hI1; rw [e_] at h1_; have h_ := h1_.symm.trans h2_; simp at h_)
  have NB50_0 := Aside0.mk (show gs0 ≠ g from fun e_ => by have h1_ := hI1; have h2_ := hI; rw [e_] at h1_; have h_ := h1_.symm.trans h2_; simp at h_)
  have BK0 := Aside0.mk hI
  have GE0 := Aside0.mk hG
  have BK50 := Aside0.mk hI1
  have GE50 := Aside0.mk hG1
  clear hI hG hI1 hG1
  have HK := Aside0.mk (Kept.refl w (fun k_ => ((P0_17_ k_) ∨ k_ = g) ∨ k_ = gs0))
  have HW0 := Aside0.mk hB.size
  have HB := Aside0.mk hB
  clear hB
  have H : ((serial_Next.f a2 1).bind fun t108 => (if a1 = 0 then ((history_History_Packet.f s0_16 l0_17 a3).bind fun bt110 => ((history_History_Packet.f bt110.2.1 bt110.2.2 1).bind fun bt115 => (some (t108, true, s0_2, s0_3, s0_4, s0_5, s0_6, s0_7, s0_8, s0_9, s0_10, s0_11, s0_12, s0_13, s0_14, s0_15, bt115.2.1, bt115.2.2, s0_18, s0_19, s0_20)))) else (if a1 = 1 then ((history_History_Packet.f s0_16 l0_17 a3).bind fun bt121 => ((history_History_Packet.f bt121.2.1 bt121.2.2 1).bind fun bt126 => (some (s0_0, s0_1, t108, true, s0_4, s0_5, s0_6, s0_7, s0_8, s0_9, s0_10, s0_11, s0_12, s0_13, s0_14, s0_15, bt126.2.1, bt126.2.2, s0_18, s0_19, s0_20)))) else (if a1 = 2 then ((history_History_Packet.f s0_16 l0_17 a3).bind fun bt132 => ((history_History_Packet.f bt132.2.1 bt132.2.2 1).bind fun bt137 => (some (s0_0, s0_1, s0_2, s0_3, t108, true, s0_6, s0_7, s0_8, s0_9, s0_10, s0_11, s0_12, s0_13, s0_14, s0_15, bt137.2.1, bt137.2.2, s0_18, s0_19, s0_20)))) else (if a1 = 3 then ((history_History_Packet.f s0_16 l0_17 a3).bind fun bt143 => ((history_History_Packet.f bt143.2.1 bt143.2.2 1).bind fun bt148 => (some (s0_0, s0_1, s0_2, s0_3, s0_4, s0_5, t108, true, s0_8, s0_9, s0_10, s0_11, s0_12, s0_13, s0_14, s0_15, bt148.2.1, bt148.2.2, s0_18, s0_19, s0_20)))) else (if a1 = 4 then ((history_History_Packet.f s0_16 l0_17 a3).bind fun bt154 => ((history_History_Packet.f bt154.2.1 bt154.2.2 1).bind fun bt159 => (some (s0_0, s0_1, s0_2, s0_3, s0_4, s0_5, s0_6, s0_7, t108, true, s0_10, s0_11, s0_12, s0_13, s0_14, s0_15, bt159.2.1, bt159.2.2, s0_18, s0_19, s0_20)))) else (if a1 = 5 then ((history_History_Packet.f s0_16 l0_17 a3).bind fun bt165 => ((history_History_Packet.f bt165.2.1 bt165.2.2 1).bind fun bt170 => (some (s0_0, s0_1, s0_2, s0_3, s0_4, s0_5, s0_6, s0_7, s0_8, s0_9, t108, true, s0_12, s0_13, s0_14, s0_15, bt170.2.1, bt170.2.2, s0_18, s0_19, s0_20)))) else (if a1 = 6 then ((history_History_Packet.f s0_16 l0_17 a3).bind fun bt176 => ((history_History_Packet.f bt176.2.1 bt176.2.2 1).bind fun bt181 => (some (s0_0, s0_1, s0_2, s0_3, s0_4, s0_5, s0_6, s0_7, s0_8, s0_9, s0_10, s0_11, t108, true, s0_14, s0_15, bt181.2.1, bt181.2.2, s0_18, s0_19, s0_20)))) else (if a1 = 7 then ((history_History_Packet.f s0_16 l0_17 a3).bind fun bt187 => ((history_History_Packet.f bt187.2.1 bt187.2.2 1).bind fun bt192 => (some (s0_0, s0_1, s0_2, s0_3, s0_4, s0_5, s0_6, s0_7, s0_8, s0_9, s0_10, s0_11, s0_12, s0_13, t108, true, bt192.2.1, bt192.2.2, s0_18, s0_19, s0_20)))) else (none)))))))))) = some (r1, r2, r3, r4, r5, r6, r7, r8, r9, r10, r11, r12, r13, r14, r15, r16, r17, r18, r19, r20, r21) := h
  clear h
  replace H := Option.bind_eq_some_iff.mp H
  obtain ⟨t108, A50, H⟩ := H
  replace H : (if a1 = 0 then ((history_History_Packet.f s0_16 l0_17 a3).bind fun bt110 => ((history_History_Packet.f bt110.2.1 bt110.2.2 1).bind fun bt115 => (some (t108, true, s0_2, s0_3, s0_4, s0_5, s0_6, s0_7, s0_8, s0_9, s0_10, s0_11, s0_12, s0_13, s0_14, s0_15, bt115.2.1, bt115.2.2, s0_18, s0_19, s0_20)))) else (if a1 = 1 then ((history_History_Packet.f s0_16 l0_17 a3).bind fun bt121 => ((history_History_Packet.f bt121.2.1 bt121.2.2 1).bind fun bt126 => (some (s0_0, s0_1, t108, true, s0_4, s0_5, s0_6, s0_7, s0_8, s0_9, s0_10, s0_11, s0_12, s0_13, s0_14, s0_15, bt126.2.1, bt126.2.2, s0_18, s0_19, s0_20)))) else (if a1 = 2 then ((history_History_Packet.f s0_16 l0_17 a3).bind fun bt132 => ((history_History_Packet.f bt132.2.1 bt132.2.2 1).bind fun bt137 => (some (s0_0, s0_1, s0_2, s0_3, t108, true, s0_6, s0_7, s0_8, s0_9, s0_10, s0_11, s0_12, s0_13, s0_14, s0_15, bt137.2.1, bt137.2.2, s0_18, s0_19, s0_20)))) else (if a1 = 3 then ((history_History_Packet.f s0_16 l0_17 a3).bind fun bt143 => ((history_History_Packet.f bt143.2.1 bt143.2.2 1).bind fun bt148 => (some (s0_0, s0_1, s0_2, s0_3, s0_4, s0_5, t108, true, s0_8, s0_9, s0_10, s0_11, s0_12, s0_13, s0_14, s0_15, bt148.2.1, bt148.2.2, s0_18, s0_19, s0_20)))) else (if a1 = 4 then ((history_History_Packet.f s0_16 l0_17 a3).bind fun bt154 => ((history_History_Packet.f bt154.2.1 bt154.2.2 1).bind fun bt159 => (some (s0_0, s0_1, s0_2, s0_3, s0_4, s0_5, s0_6, s0_7, t108, true, s0_10, s0_11, s0_12, s0_13, s0_14, s0_15, bt159.2.1, bt159.2.2, s0_18, s0_19, s0_20)))) else (if a1 = 5 then ((history_History_Packet.f s0_16 l0_17 a3).bind fun bt165 => ((history_History_Packet.f bt165.2.1 bt165.2.2 1).bind fun bt170 => (some (s0_0, s0_1, s0_2, s0_3, s0_4, s0_5, s0_6, s0_7, s0_8, s0_9, t108, true, s0_12, s0_13, s0_14, s0_15, bt170.2.1, bt170.2.2, s0_18, s0_19, s0_20)))) else (if a1 = 6 then ((history_History_Packet.f s0_16 l0_17 a3).bind fun bt176 => ((history_History_Packet.f bt176.2.1 bt176.2.2 1).bind fun bt181 => (some (s0_0, s0_1, s0_2, s0_3, s0_4, s0_5, s0_6, s0_7, s0_8, s0_9, s0_10, s0_11, t108, true, s0_14, s0_15, bt181.2.1, bt181.2.2, s0_18, s0_19, s0_20)))) else (if a1 = 7 then ((history_History_Packet.f s0_16 l0_17 a3).bind fun bt187 => ((history_History_Packet.f bt187.2.1 bt187.2.2 1).bind fun bt192 => (some (s0_0, s0_1, s0_2, s0_3, s0_4, s0_5, s0_6, s0_7, s0_8, s0_9, s0_10, s0_11, s0_12, s0_13, t108, true, bt192.2.1, bt192.2.2, s0_18, s0_19, s0_20)))) else (none))))))))) = some (r1, r2, r3, r4, r5, r6, r7, r8, r9, r10, r11, r12, r13, r14, r15, r16, r17, r18, r19, r20, r21) := H
  have A5 := Aside0.mk A50
  clear A50
  by_cases c6 : a1 = 0
  · rw [if_pos c6] at H
    have c6b0 : (a1 == 0) = true := beq_iff_eq.mpr c6
    have c6b1 : (a1 != 0) = false := bne_eq_false_iff_eq.mpr c6
    clear c6
    have hq109 : a1 = 0 := beq_iff_eq.mp (by assumption)
    have hua109 := Try.underlying52
    have hia109 : ∀ W : World, (Instr.indexAt 52 (.pointer (some ⟨g, 0, none⟩)) (.int .i64 a1)).run Try.prog W = .ok (.pointer (some ⟨g, 0, none⟩)) W := by intro W; rw [hq109]; first | (go_simp; done) | (go_simp; rfl) | rfl
    clear hq109
    replace H := Option.bind_eq_some_iff.mp H
    obtain ⟨⟨t110, t111, t112⟩, A70, H⟩ := H
    replace H : ((history_History_Packet.f t111 t112 1).bind fun bt115 => (some (t108, true, s0_2, s0_3, s0_4, s0_5, s0_6, s0_7, s0_8, s0_9, s0_10, s0_11, s0_12, s0_13, s0_14, s0_15, bt115.2.1, bt115.2.2, s0_18, s0_19, s0_20))) = some (r1, r2, r3, r4, r5, r6, r7, r8, r9, r10, r11, r12, r13, r14, r15, r16, r17, r18, r19, r20, r21) := H
    have A7 := Aside0.mk A70
    clear A70
    replace H := Option.bind_eq_some_iff.mp H
    obtain ⟨⟨t115, t116, t117⟩, A80, H⟩ := H
    replace H : (some (t108, true, s0_2, s0_3, s0_4, s0_5, s0_6, s0_7, s0_8, s0_9, s0_10, s0_11, s0_12, s0_13, s0_14, s0_15, t116, t117, s0_18, s0_19, s0_20)) = some (r1, r2, r3, r4, r5, r6, r7, r8, r9, r10, r11, r12, r13, r14, r15, r16, r17, r18, r19, r20, r21) := H
    have A8 := Aside0.mk A80
    clear A80
    simp only [Option.some.injEq, Prod.mk.injEq] at H
    obtain ⟨rfl, rfl, rfl, rfl, rfl, rfl, rfl, rfl, rfl, rfl, rfl, rfl, rfl, rfl, rfl, rfl, rfl, rfl, rfl, rfl, rfl⟩ := H
    go_enter Try.func22, Try.ntmps22
    try go_wp2
    have n0_ := Aside0.mk (Kd.R_drew HO0_17.out)
    have n1_ := Aside0.mk (blk_drew BK0.out)
    have n2_ := Aside0.mk (blk_drew BK50.out)
    have n3_ := Aside0.mk (Kept.drew HK.out)
    have n4_ := Aside0.mk (below_drew1 HB.out)
    clear HO0_17
    clear BK0
    clear BK50
    clear HK
    clear HB
    have HO0_17 := n0_
    have BK0 := n1_
    have BK50 := n2_
    have HK := n3_
    have HB := n4_
    clear n0_ n1_ n2_ n3_ n4_
    refine start_ (n := 9) (S := fun w' => True) (ds := []) #[false, false, false, false, false, false, false, false, false] (by kernel_rfl) rfl rfl trivial (fun hHeld => ?_); refine with_tabW detect_Detect_took.tab0 detect_Detect_took.bits0 (fun HT_ HW_ => ?_)
    generalize w.drew = w9 at HO0_17 BK0 BK50 HK HB hHeld ⊢
    refine pure_ (i := 0) (N := some 8) (v := ?_) (a' := ?_) #[true, false, false, false, false, false, false, false, false] rfl rfl (any_of HT_.out (by kernel_rfl)) (fun _ _ _ h => h) (Or.inl ⟨by rfl, ?_⟩) ?_ ?_
    rotate_left
    · intro w'
      go_simp
      with_reducible rfl
    rotate_left
    · simp only [Act.put, List.setIfInBounds_toArray, List.set_cons_zero, List.set_cons_succ, i64_w, i32_w]
      rfl
    refine pure_ (i := 1) (N := some 9) (v := ?_) (a' := ?_) #[true, true, false, false, false, false, false, false, false] rfl rfl (any_of HT_.out (by kernel_rfl)) (fun _ _ _ h => h) (Or.inl ⟨by rfl, ?_⟩) ?_ ?_
    rotate_left
    · intro w'
      go_simp
      with_reducible rfl
    rotate_left
    · simp only [Act.put, List.setIfInBounds_toArray, List.set_cons_zero, List.set_cons_succ, i64_w, i32_w]
      rfl
    refine pure_ (i := 2) (N := some 10) (v := ?_) (a' := ?_) #[true, true, true, false, false, false, false, false, false] rfl rfl (any_of HT_.out (by kernel_rfl)) (fun _ _ _ h => h) (Or.inl ⟨by rfl, ?_⟩) ?_ ?_
    rotate_left
    · intro w'
      go_simp
      with_reducible rfl
    rotate_left
    · simp only [Act.put, List.setIfInBounds_toArray, List.set_cons_zero, List.set_cons_succ, i64_w, i32_w]
      rfl
    refine pure_ (i := 5) (N := some 13) (v := ?_) (a' := ?_) #[true, true, true, false, false, true, false, false, false] rfl rfl (any_of HT_.out (by kernel_rfl)) (fun _ _ _ h => h) (Or.inl ⟨by rfl, ?_⟩) ?_ ?_
    rotate_left
    · intro w'
      go_simp
      with_reducible rfl
    rotate_left
    · simp only [Act.put, List.setIfInBounds_toArray, List.set_cons_zero, List.set_cons_succ, i64_w, i32_w]
      rfl
    refine pure_ (i := 6) (N := some 14) (v := ?_) (a' := ?_) #[true, true, true, false, false, true, true, false, false] rfl rfl (any_of HT_.out (by kernel_rfl)) (fun _ _ _ h => h) (Or.inl ⟨by rfl, ?_⟩) ?_ ?_
    rotate_left
    · intro w'
      go_simp
      with_reducible rfl
    rotate_left
    · simp only [Act.put, List.setIfInBounds_toArray, List.set_cons_zero, List.set_cons_succ, i64_w, i32_w]
      rfl
    refine one_ (i := 3) (N := some 11) #[true, true, true, true, false, true, true, false, false] rfl rfl (one_of HT_.out (by kernel_rfl)) (by decide) (fun K hK => ?_)
    refine goes_ Try.func29 (by kernel_rfl) rfl #[.int .u32 a2, .int .i64 1] (by rfl) rfl rfl (by (try simp only [List.map_toArray, List.map_cons, List.map_nil]); first | done | rfl | (simp only [List.length_drop, List.length_take]; rfl)) ?_
    with_reducible refine (serial_Next.calls a2 1 t108 _ A5.out).mono ?_
    rintro e w' ⟨rfl, ⟨nd, rfl⟩⟩
    refine ⟨_, rfl, ?_⟩
    (try (rw [drewN_self w9]; generalize hq_ : World.drewN w9 _ = w9; have n0_ : Aside0 (Kd.R (Kd.int .i64) 3 w9 w0.heap.size (fun k_ => (P0_17_ k_ ∨ w.heap.size ≤ k_)) u9000_ l0_17) := ⟨by rw [← hq_]; exact (by (with_reducible repeat (first | apply Kd.R_alloc | apply Kd.R_drewN | apply Kd.R_drew)); exact HO0_17.out)⟩; have n1_ : Aside0 (w9.heap[g]? = some (.cells #[.int .u32 s0_0, .bool s0_1, .int .u32 s0_2, .bool s0_3, .int .u32 s0_4, .bool s0_5, .int .u32 s0_6, .bool s0_7, .int .u32 s0_8, .bool s0_9, .int .u32 s0_10, .bool s0_11, .int .u32 s0_12, .bool s0_13, .int .u32 s0_14, .bool s0_15, .pointer (some ⟨gs0, 0, none⟩), .int .i64 s0_18, .int .i64 s0_19, .bool s0_20] 54 (0, 0))) := ⟨by rw [← hq_]; exact (by exact bpq3 BK0.out)⟩; have n2_ : Aside0 (w9.heap[gs0]? = some (.cells #[.int .i64 s0_16, u9000_] 68 (0, 0))) := ⟨by rw [← hq_]; exact (by exact bpq3 BK50.out)⟩; have n3_ : Aside0 (Kept w w9 (fun k_ => ((P0_17_ k_) ∨ k_ = g) ∨ k_ = gs0)) := ⟨by rw [← hq_]; exact ((kkq3 HK.out))⟩; have n4_ : Aside0 (Below w0.heap.size w0 w9) := ⟨by rw [← hq_]; exact ((bbq3 HB.out))⟩; clear HO0_17 BK0 BK50 HK HB hq_; have HO0_17 := n0_; have BK0 := n1_; have BK50 := n2_; have HK := n3_; have HB := n4_; clear n0_ n1_ n2_ n3_ n4_))
    refine hK.out _ _ trivial (fun hHeld => ?_)
    clear hK K
    refine norm_ (a' := ?_) ?_ ?_
    rotate_left
    · show Act.put _ (some 11) _ = _
      simp only [Act.put, List.setIfInBounds_toArray, List.set_cons_zero, List.set_cons_succ, i64_w, i32_w]
      rfl
    refine pure_ (i := 4) (N := some 12) (v := ?_) (a' := ?_) #[true, true, true, true, true, true, true, false, false] rfl rfl (any_of HT_.out (by kernel_rfl)) (fun _ _ _ h => h) (Or.inl ⟨by rfl, ?_⟩) ?_ ?_
    rotate_left
    · intro w'
      go_simp
      with_reducible rfl
    rotate_left
    · simp only [Act.put, List.setIfInBounds_toArray, List.set_cons_zero, List.set_cons_succ, i64_w, i32_w]
      rfl
    refine pure_ (i := 7) (N := some 15) (v := ?_) (a' := ?_) #[true, true, true, true, true, true, true, true, false] rfl rfl (any_of HT_.out (by kernel_rfl)) (fun _ _ _ h => h) (Or.inl ⟨by rfl, ?_⟩) ?_ ?_
    rotate_left
    · intro w'
      go_simp
      with_reducible rfl
    rotate_left
    · simp only [Act.put, List.setIfInBounds_toArray, List.set_cons_zero, List.set_cons_succ, i64_w, i32_w]
      rfl
    refine one_ (i := 8) (N := none) #[true, true, true, true, true, true, true, true, true] rfl rfl (one_of HT_.out (by kernel_rfl)) (by decide) (fun K hK => ?_)
    have hs10 : w9.cell? ⟨g, 0, none⟩ = some (.int .u32 s0_0) := (blk_cell BK0.out 0).trans rfl
    have hfs10 := blk_frozen BK0.out 0
    have hns10_1 := NB50_0.out
    have hms10_1 := NB0_50.out
    have hs11 : w9.cell? ⟨g, 1, none⟩ = some (.bool s0_1) := (blk_cell BK0.out 1).trans rfl
    have hfs11 := blk_frozen BK0.out 1
    refine skip_ (w1 := ?_) (by rfl) rfl ?_ ?_
    rotate_left
    · go_simp
      rfl
    refine hK.out _ _ trivial (fun hHeld => ?_)
    clear hK K
    refine done_ (done_of HT_.out (by kernel_rfl)) ?_
    have n0_ : Aside0 (Kd.R (Kd.int .i64) 3 ((w9.setCell ⟨g, 0, none⟩ (.int .u32 t108)).setCell ⟨g, 1, none⟩ (.bool true)) w0.heap.size (fun k_ => (P0_17_ k_ ∨ w.heap.size ≤ k_)) u9000_ l0_17) := ⟨by (with_reducible repeat (first | apply Kd.R_alloc | apply Kd.R_drewN | apply Kd.R_drew)); exact Kd.R_mono (Kd.R_far (Kd.R_far (Kd.R_types HO0_17.out BK0.out (by decide)) (fun _ hk => hk.2) _) (fun _ hk => hk.2) _) (fun _ hk => hk.1)⟩
    have n1_ : Aside0 (((w9.setCell ⟨g, 0, none⟩ (.int .u32 t108)).setCell ⟨g, 1, none⟩ (.bool true)).heap[g]? = some (.cells #[.int .u32 t108, .bool true, .int .u32 s0_2, .bool s0_3, .int .u32 s0_4, .bool s0_5, .int .u32 s0_6, .bool s0_7, .int .u32 s0_8, .bool s0_9, .int .u32 s0_10, .bool s0_11, .int .u32 s0_12, .bool s0_13, .int .u32 s0_14, .bool s0_15, .pointer (some ⟨gs0, 0, none⟩), .int .i64 s0_18, .int .i64 s0_19, .bool s0_20] 54 (0, 0))) := ⟨by refine bzq3 ?_; refine btq3 (i := 1) ?_; refine btq3 (i := 0) ?_; exact ⟨_, bpq3 BK0.out, rfl⟩⟩
    have n2_ : Aside0 (((w9.setCell ⟨g, 0, none⟩ (.int .u32 t108)).setCell ⟨g, 1, none⟩ (.bool true)).heap[gs0]? = some (.cells #[.int .i64 s0_16, u9000_] 68 (0, 0))) := ⟨by refine bfq3 NB50_0.out ?_; refine bfq3 NB50_0.out ?_; exact bpq3 BK50.out⟩
    have n3_ : Aside0 (Kept w ((w9.setCell ⟨g, 0, none⟩ (.int .u32 t108)).setCell ⟨g, 1, none⟩ (.bool true)) (fun k_ => ((P0_17_ k_) ∨ k_ = g) ∨ k_ = gs0)) := ⟨(kkq3 HK.out)⟩
    have n4_ : Aside0 (Below w0.heap.size w0 ((w9.setCell ⟨g, 0, none⟩ (.int .u32 t108)).setCell ⟨g, 1, none⟩ (.bool true))) := ⟨(bbq3 HB.out)⟩
    (try clear HO0_17)
    (try clear BK0)
    (try clear BK50)
    (try clear HK)
    (try clear HB)
    generalize ((w9.setCell ⟨g, 0, none⟩ (.int .u32 t108)).setCell ⟨g, 1, none⟩ (.bool true)) = w12 at n0_ n1_ n2_ n3_ n4_ ⊢
    have HO0_17 := n0_
    have BK0 := n1_
    have BK50 := n2_
    have HK := n3_
    have HB := n4_
    clear n0_ n1_ n2_ n3_ n4_
    have hnb13 := NB0_50.out
    have hnc13 := NB50_0.out
    obtain ⟨hcz14_0, hcz14_1, hcz14_2, hcz14_3, hcz14_4, hcz14_5, hcz14_6, hcz14_7, hcz14_8, hcz14_9, hcz14_10, hcz14_11, hcz14_12, hcz14_13, hcz14_14, hcz14_15, hcz14_16, hcz14_17, hcz14_18, hcz14_19⟩ := bc20q3 BK0.out
    have hfz14_0 := fun i_ => blk_frozen BK0.out i_
    try go_wp2_with (first | ((with_reducible refine gate_callee (f := 30) rfl ?_); refine goesL_ (some 21) rfl rfl Try.func30 (by kernel_rfl) rfl #[.pointer (some ⟨gs0, 0, none⟩), .int .i64 a3] rfl (by (try simp only [List.map_toArray, List.map_cons, List.map_nil]); first | done | rfl | (simp only [List.length_drop, List.length_take]; rfl)) ?_; (with_reducible refine (history_History_Packet.calls gs0 s0_16 (fun k_ => some k_ = (u9000_ : Value).ownBlock) u9000_ l0_17 a3 t110 t111 t112 w0 _ ?side1 ?side2 ?side3 ?side4 A7.out).mono ?_); (case side1 => exact bpq3 BK50.out); (case side2 => exact GE50.out); (case side3 => repeat (first | (with_reducible first | exact HB.out | apply below_alloc | apply pw_below_drewN | apply below_drew1 | refine below_set ?_ GE0.out | refine below_set ?_ GE50.out) | exact HB.out)); (case side4 => exact Kd.R_tight rfl HO0_17.out); rintro e w15 ⟨v113, rfl, ho0, hi, hb, hkp⟩; refine ⟨_, rfl, ?_⟩; have n0_ := Aside0.mk (blk_kept (by exact bpq3 BK0.out) hkp (fun hs_ => Or.elim hs_ (fun hs_ => (fun e_ => (Kd.R_ne HO0_17.out BK0.out (by decide)) e_) hs_) (fun e_ => NB0_50.out e_))); have n1_ := Aside0.mk (hi); have n2_ := Aside0.mk (Kd.R_mono (ok' := fun k_ => (P0_17_ k_ ∨ w.heap.size ≤ k_)) ho0 (fun k_ hk_ => Or.elim hk_ (fun hs_ => (HO0_17.out.1 k_ (hs_).symm)) (fun hn_ => (.inr (Nat.le_trans (by first | exact HK.out.1 | exact (show Kept w _ (fun k_ => ((P0_17_ k_) ∨ k_ = g) ∨ k_ = gs0) from (kkq3 HK.out)).1) hn_))))); have n3_ := Aside0.mk (Kept.then_ (S := (fun k_ => ((P0_17_ k_) ∨ k_ = g) ∨ k_ = gs0)) ((kkq3 HK.out)) hkp (fun k_ hs_ => Or.elim hs_ (fun hs_ => (fun e_ => Or.imp_left (fun h_ => .inl (.inl (h_))) ((HO0_17.out.1 k_ e_.symm))) hs_) (fun e_ => .inl (.inr e_)))); have n4_ := Aside0.mk (hb); clear BK0; clear BK50; clear HK; clear HB; clear HO0_17; have BK0 := n0_; have BK50 := n1_; have HO114 := n2_; have HK := n3_; have HB := n4_; clear n0_ n1_ n2_ n3_ n4_; (try clear hb); (try clear hkp); (try clear ho0); obtain ⟨hcz16_0, hcz16_1, hcz16_2, hcz16_3, hcz16_4, hcz16_5, hcz16_6, hcz16_7, hcz16_8, hcz16_9, hcz16_10, hcz16_11, hcz16_12, hcz16_13, hcz16_14, hcz16_15, hcz16_16, hcz16_17, hcz16_18, hcz16_19⟩ := bc20q3 BK0.out; have hfz16_0 := fun i_ => blk_frozen BK0.out i_) | ((with_reducible refine gate_callee (f := 30) rfl ?_); refine goesL_ (some 26) rfl rfl Try.func30 (by kernel_rfl) rfl #[.pointer (some ⟨gs0, 0, none⟩), .int .i64 1] rfl (by (try simp only [List.map_toArray, List.map_cons, List.map_nil]); first | done | rfl | (simp only [List.length_drop, List.length_take]; rfl)) ?_; (with_reducible refine (history_History_Packet.calls gs0 t111 (fun k_ => some k_ = (v113 : Value).ownBlock) v113 t112 1 t115 t116 t117 w0 _ ?side1 ?side2 ?side3 ?side4 A8.out).mono ?_); (case side1 => exact bpq3 BK50.out); (case side2 => exact GE50.out); (case side3 => repeat (first | (with_reducible first | exact HB.out | apply below_alloc | apply pw_below_drewN | apply below_drew1 | refine below_set ?_ GE0.out | refine below_set ?_ GE50.out) | exact HB.out)); (case side4 => exact Kd.R_tight rfl HO114.out); rintro e w17 ⟨v118, rfl, ho0, hi, hb, hkp⟩; refine ⟨_, rfl, ?_⟩; have n0_ := Aside0.mk (blk_kept (by exact bpq3 BK0.out) hkp (fun hs_ => Or.elim hs_ (fun hs_ => (fun e_ => (Kd.R_ne HO114.out BK0.out (by decide)) e_) hs_) (fun e_ => NB0_50.out e_))); have n1_ := Aside0.mk (hi); have n2_ := Aside0.mk (Kd.R_mono (ok' := fun k_ => (P0_17_ k_ ∨ w.heap.size ≤ k_)) ho0 (fun k_ hk_ => Or.elim hk_ (fun hs_ => (HO114.out.1 k_ (hs_).symm)) (fun hn_ => (.inr (Nat.le_trans (by first | exact HK.out.1 | exact (show Kept w _ (fun k_ => ((P0_17_ k_) ∨ k_ = g) ∨ k_ = gs0) from (kkq3 HK.out)).1) hn_))))); have n3_ := Aside0.mk (Kept.then_ (S := (fun k_ => ((P0_17_ k_) ∨ k_ = g) ∨ k_ = gs0)) ((kkq3 HK.out)) hkp (fun k_ hs_ => Or.elim hs_ (fun hs_ => (fun e_ => Or.imp_left (fun h_ => .inl (.inl (h_))) ((HO114.out.1 k_ e_.symm))) hs_) (fun e_ => .inl (.inr e_)))); have n4_ := Aside0.mk (hb); clear BK0; clear BK50; clear HK; clear HB; clear HO114; have BK0 := n0_; have BK50 := n1_; have HO119 := n2_; have HK := n3_; have HB := n4_; clear n0_ n1_ n2_ n3_ n4_; (try clear hb); (try clear hkp); (try clear ho0)))
    first | go_end0 | ((try simp only [Exit.inBlock, Exit.then]); refine bodyPost_ret (results_none rfl _ _ _) rfl ?_)
    exact ⟨_, by first | rfl | (simp [errW_none, errW_some] <;> rfl) | (simp [*, errW_none, errW_some] <;> rfl), by (with_reducible repeat (first | apply Kd.R_alloc | apply Kd.R_drewN | apply Kd.R_drew)); exact HO119.out, (by exact bpq3 BK0.out), (by exact bpq3 BK50.out), (bbq3 HB.out), (kkq3 HK.out)⟩
  · rw [if_neg c6] at H
    have c6b0 : (a1 == 0) = false := beq_eq_false_iff_ne.mpr c6
    have c6b1 : (a1 != 0) = true := bne_iff_ne.mpr c6
    by_cases c18 : a1 = 1
    · rw [if_pos c18] at H
      have c18b0 : (a1 == 1) = true := beq_iff_eq.mpr c18
      have c18b1 : (a1 != 1) = false := bne_eq_false_iff_eq.mpr c18
      clear c18
      have hq120 : a1 = 1 := beq_iff_eq.mp (by assumption)
      have hua120 := Try.underlying52
      have hia120 : ∀ W : World, (Instr.indexAt 52 (.pointer (some ⟨g, 0, none⟩)) (.int .i64 a1)).run Try.prog W = .ok (.pointer (some ⟨g, 2, none⟩)) W := by intro W; rw [hq120]; first | (go_simp; done) | (go_simp; rfl) | rfl
      clear hq120
      replace H := Option.bind_eq_some_iff.mp H
      obtain ⟨⟨t121, t122, t123⟩, A190, H⟩ := H
      replace H : ((history_History_Packet.f t122 t123 1).bind fun bt126 => (some (s0_0, s0_1, t108, true, s0_4, s0_5, s0_6, s0_7, s0_8, s0_9, s0_10, s0_11, s0_12, s0_13, s0_14, s0_15, bt126.2.1, bt126.2.2, s0_18, s0_19, s0_20))) = some (r1, r2, r3, r4, r5, r6, r7, r8, r9, r10, r11, r12, r13, r14, r15, r16, r17, r18, r19, r20, r21) := H
      have A19 := Aside0.mk A190
      clear A190
      replace H := Option.bind_eq_some_iff.mp H
      obtain ⟨⟨t126, t127, t128⟩, A200, H⟩ := H
      replace H : (some (s0_0, s0_1, t108, true, s0_4, s0_5, s0_6, s0_7, s0_8, s0_9, s0_10, s0_11, s0_12, s0_13, s0_14, s0_15, t127, t128, s0_18, s0_19, s0_20)) = some (r1, r2, r3, r4, r5, r6, r7, r8, r9, r10, r11, r12, r13, r14, r15, r16, r17, r18, r19, r20, r21) := H
      have A20 := Aside0.mk A200
      clear A200
      simp only [Option.some.injEq, Prod.mk.injEq] at H
      obtain ⟨rfl, rfl, rfl, rfl, rfl, rfl, rfl, rfl, rfl, rfl, rfl, rfl, rfl, rfl, rfl, rfl, rfl, rfl, rfl, rfl, rfl⟩ := H
      go_enter Try.func22, Try.ntmps22
      try go_wp2
      have n0_ := Aside0.mk (Kd.R_drew HO0_17.out)
      have n1_ := Aside0.mk (blk_drew BK0.out)
      have n2_ := Aside0.mk (blk_drew BK50.out)
      have n3_ := Aside0.mk (Kept.drew HK.out)
      have n4_ := Aside0.mk (below_drew1 HB.out)
      clear HO0_17
      clear BK0
      clear BK50
      clear HK
      clear HB
      have HO0_17 := n0_
      have BK0 := n1_
      have BK50 := n2_
      have HK := n3_
      have HB := n4_
      clear n0_ n1_ n2_ n3_ n4_
      refine start_ (n := 9) (S := fun w' => True) (ds := []) #[false, false, false, false, false, false, false, false, false] (by kernel_rfl) rfl rfl trivial (fun hHeld => ?_); refine with_tabW detect_Detect_took.tab0 detect_Detect_took.bits0 (fun HT_ HW_ => ?_)
      generalize w.drew = w21 at HO0_17 BK0 BK50 HK HB hHeld ⊢
      refine pure_ (i := 0) (N := some 8) (v := ?_) (a' := ?_) #[true, false, false, false, false, false, false, false, false] rfl rfl (any_of HT_.out (by kernel_rfl)) (fun _ _ _ h => h) (Or.inl ⟨by rfl, ?_⟩) ?_ ?_
      rotate_left
      · intro w'
        go_simp
        with_reducible rfl
      rotate_left
      · simp only [Act.put, List.setIfInBounds_toArray, List.set_cons_zero, List.set_cons_succ, i64_w, i32_w]
        rfl
      refine pure_ (i := 1) (N := some 9) (v := ?_) (a' := ?_) #[true, true, false, false, false, false, false, false, false] rfl rfl (any_of HT_.out (by kernel_rfl)) (fun _ _ _ h => h) (Or.inl ⟨by rfl, ?_⟩) ?_ ?_
      rotate_left
      · intro w'
        go_simp
        with_reducible rfl
      rotate_left
      · simp only [Act.put, List.setIfInBounds_toArray, List.set_cons_zero, List.set_cons_succ, i64_w, i32_w]
        rfl
      refine pure_ (i := 2) (N := some 10) (v := ?_) (a' := ?_) #[true, true, true, false, false, false, false, false, false] rfl rfl (any_of HT_.out (by kernel_rfl)) (fun _ _ _ h => h) (Or.inl ⟨by rfl, ?_⟩) ?_ ?_
      rotate_left
      · intro w'
        go_simp
        with_reducible rfl
      rotate_left
      · simp only [Act.put, List.setIfInBounds_toArray, List.set_cons_zero, List.set_cons_succ, i64_w, i32_w]
        rfl
      refine pure_ (i := 5) (N := some 13) (v := ?_) (a' := ?_) #[true, true, true, false, false, true, false, false, false] rfl rfl (any_of HT_.out (by kernel_rfl)) (fun _ _ _ h => h) (Or.inl ⟨by rfl, ?_⟩) ?_ ?_
      rotate_left
      · intro w'
        go_simp
        with_reducible rfl
      rotate_left
      · simp only [Act.put, List.setIfInBounds_toArray, List.set_cons_zero, List.set_cons_succ, i64_w, i32_w]
        rfl
      refine pure_ (i := 6) (N := some 14) (v := ?_) (a' := ?_) #[true, true, true, false, false, true, true, false, false] rfl rfl (any_of HT_.out (by kernel_rfl)) (fun _ _ _ h => h) (Or.inl ⟨by rfl, ?_⟩) ?_ ?_
      rotate_left
      · intro w'
        go_simp
        with_reducible rfl
      rotate_left
      · simp only [Act.put, List.setIfInBounds_toArray, List.set_cons_zero, List.set_cons_succ, i64_w, i32_w]
        rfl
      refine one_ (i := 3) (N := some 11) #[true, true, true, true, false, true, true, false, false] rfl rfl (one_of HT_.out (by kernel_rfl)) (by decide) (fun K hK => ?_)
      refine goes_ Try.func29 (by kernel_rfl) rfl #[.int .u32 a2, .int .i64 1] (by rfl) rfl rfl (by (try simp only [List.map_toArray, List.map_cons, List.map_nil]); first | done | rfl | (simp only [List.length_drop, List.length_take]; rfl)) ?_
      with_reducible refine (serial_Next.calls a2 1 t108 _ A5.out).mono ?_
      rintro e w' ⟨rfl, ⟨nd, rfl⟩⟩
      refine ⟨_, rfl, ?_⟩
      (try (rw [drewN_self w21]; generalize hq_ : World.drewN w21 _ = w21; have n0_ : Aside0 (Kd.R (Kd.int .i64) 3 w21 w0.heap.size (fun k_ => (P0_17_ k_ ∨ w.heap.size ≤ k_)) u9000_ l0_17) := ⟨by rw [← hq_]; exact (by (with_reducible repeat (first | apply Kd.R_alloc | apply Kd.R_drewN | apply Kd.R_drew)); exact HO0_17.out)⟩; have n1_ : Aside0 (w21.heap[g]? = some (.cells #[.int .u32 s0_0, .bool s0_1, .int .u32 s0_2, .bool s0_3, .int .u32 s0_4, .bool s0_5, .int .u32 s0_6, .bool s0_7, .int .u32 s0_8, .bool s0_9, .int .u32 s0_10, .bool s0_11, .int .u32 s0_12, .bool s0_13, .int .u32 s0_14, .bool s0_15, .pointer (some ⟨gs0, 0, none⟩), .int .i64 s0_18, .int .i64 s0_19, .bool s0_20] 54 (0, 0))) := ⟨by rw [← hq_]; exact (by exact bpq3 BK0.out)⟩; have n2_ : Aside0 (w21.heap[gs0]? = some (.cells #[.int .i64 s0_16, u9000_] 68 (0, 0))) := ⟨by rw [← hq_]; exact (by exact bpq3 BK50.out)⟩; have n3_ : Aside0 (Kept w w21 (fun k_ => ((P0_17_ k_) ∨ k_ = g) ∨ k_ = gs0)) := ⟨by rw [← hq_]; exact ((kkq3 HK.out))⟩; have n4_ : Aside0 (Below w0.heap.size w0 w21) := ⟨by rw [← hq_]; exact ((bbq3 HB.out))⟩; clear HO0_17 BK0 BK50 HK HB hq_; have HO0_17 := n0_; have BK0 := n1_; have BK50 := n2_; have HK := n3_; have HB := n4_; clear n0_ n1_ n2_ n3_ n4_))
      refine hK.out _ _ trivial (fun hHeld => ?_)
      clear hK K
      refine norm_ (a' := ?_) ?_ ?_
      rotate_left
      · show Act.put _ (some 11) _ = _
        simp only [Act.put, List.setIfInBounds_toArray, List.set_cons_zero, List.set_cons_succ, i64_w, i32_w]
        rfl
      refine pure_ (i := 4) (N := some 12) (v := ?_) (a' := ?_) #[true, true, true, true, true, true, true, false, false] rfl rfl (any_of HT_.out (by kernel_rfl)) (fun _ _ _ h => h) (Or.inl ⟨by rfl, ?_⟩) ?_ ?_
      rotate_left
      · intro w'
        go_simp
        with_reducible rfl
      rotate_left
      · simp only [Act.put, List.setIfInBounds_toArray, List.set_cons_zero, List.set_cons_succ, i64_w, i32_w]
        rfl
      refine pure_ (i := 7) (N := some 15) (v := ?_) (a' := ?_) #[true, true, true, true, true, true, true, true, false] rfl rfl (any_of HT_.out (by kernel_rfl)) (fun _ _ _ h => h) (Or.inl ⟨by rfl, ?_⟩) ?_ ?_
      rotate_left
      · intro w'
        go_simp
        with_reducible rfl
      rotate_left
      · simp only [Act.put, List.setIfInBounds_toArray, List.set_cons_zero, List.set_cons_succ, i64_w, i32_w]
        rfl
      refine one_ (i := 8) (N := none) #[true, true, true, true, true, true, true, true, true] rfl rfl (one_of HT_.out (by kernel_rfl)) (by decide) (fun K hK => ?_)
      have hs22 : w21.cell? ⟨g, 2, none⟩ = some (.int .u32 s0_2) := (blk_cell BK0.out 2).trans rfl
      have hfs22 := blk_frozen BK0.out 2
      have hns22_1 := NB50_0.out
      have hms22_1 := NB0_50.out
      have hs23 : w21.cell? ⟨g, 3, none⟩ = some (.bool s0_3) := (blk_cell BK0.out 3).trans rfl
      have hfs23 := blk_frozen BK0.out 3
      refine skip_ (w1 := ?_) (by rfl) rfl ?_ ?_
      rotate_left
      · go_simp
        rfl
      refine hK.out _ _ trivial (fun hHeld => ?_)
      clear hK K
      refine done_ (done_of HT_.out (by kernel_rfl)) ?_
      have n0_ : Aside0 (Kd.R (Kd.int .i64) 3 ((w21.setCell ⟨g, 2, none⟩ (.int .u32 t108)).setCell ⟨g, 3, none⟩ (.bool true)) w0.heap.size (fun k_ => (P0_17_ k_ ∨ w.heap.size ≤ k_)) u9000_ l0_17) := ⟨by (with_reducible repeat (first | apply Kd.R_alloc | apply Kd.R_drewN | apply Kd.R_drew)); exact Kd.R_mono (Kd.R_far (Kd.R_far (Kd.R_types HO0_17.out BK0.out (by decide)) (fun _ hk => hk.2) _) (fun _ hk => hk.2) _) (fun _ hk => hk.1)⟩
      have n1_ : Aside0 (((w21.setCell ⟨g, 2, none⟩ (.int .u32 t108)).setCell ⟨g, 3, none⟩ (.bool true)).heap[g]? = some (.cells #[.int .u32 s0_0, .bool s0_1, .int .u32 t108, .bool true, .int .u32 s0_4, .bool s0_5, .int .u32 s0_6, .bool s0_7, .int .u32 s0_8, .bool s0_9, .int .u32 s0_10, .bool s0_11, .int .u32 s0_12, .bool s0_13, .int .u32 s0_14, .bool s0_15, .pointer (some ⟨gs0, 0, none⟩), .int .i64 s0_18, .int .i64 s0_19, .bool s0_20] 54 (0, 0))) := ⟨by refine bzq3 ?_; refine btq3 (i := 3) ?_; refine btq3 (i := 2) ?_; exact ⟨_, bpq3 BK0.out, rfl⟩⟩
      have n2_ : Aside0 (((w21.setCell ⟨g, 2, none⟩ (.int .u32 t108)).setCell ⟨g, 3, none⟩ (.bool true)).heap[gs0]? = some (.cells #[.int .i64 s0_16, u9000_] 68 (0, 0))) := ⟨by refine bfq3 NB50_0.out ?_; refine bfq3 NB50_0.out ?_; exact bpq3 BK50.out⟩
      have n3_ : Aside0 (Kept w ((w21.setCell ⟨g, 2, none⟩ (.int .u32 t108)).setCell ⟨g, 3, none⟩ (.bool true)) (fun k_ => ((P0_17_ k_) ∨ k_ = g) ∨ k_ = gs0)) := ⟨(kkq3 HK.out)⟩
      have n4_ : Aside0 (Below w0.heap.size w0 ((w21.setCell ⟨g, 2, none⟩ (.int .u32 t108)).setCell ⟨g, 3, none⟩ (.bool true))) := ⟨(bbq3 HB.out)⟩
      (try clear HO0_17)
      (try clear BK0)
      (try clear BK50)
      (try clear HK)
      (try clear HB)
      generalize ((w21.setCell ⟨g, 2, none⟩ (.int .u32 t108)).setCell ⟨g, 3, none⟩ (.bool true)) = w24 at n0_ n1_ n2_ n3_ n4_ ⊢
      have HO0_17 := n0_
      have BK0 := n1_
      have BK50 := n2_
      have HK := n3_
      have HB := n4_
      clear n0_ n1_ n2_ n3_ n4_
      have hnb25 := NB0_50.out
      have hnc25 := NB50_0.out
      obtain ⟨hcz26_0, hcz26_1, hcz26_2, hcz26_3, hcz26_4, hcz26_5, hcz26_6, hcz26_7, hcz26_8, hcz26_9, hcz26_10, hcz26_11, hcz26_12, hcz26_13, hcz26_14, hcz26_15, hcz26_16, hcz26_17, hcz26_18, hcz26_19⟩ := bc20q3 BK0.out
      have hfz26_0 := fun i_ => blk_frozen BK0.out i_
      try go_wp2_with (first | ((with_reducible refine gate_callee (f := 30) rfl ?_); refine goesL_ (some 21) rfl rfl Try.func30 (by kernel_rfl) rfl #[.pointer (some ⟨gs0, 0, none⟩), .int .i64 a3] rfl (by (try simp only [List.map_toArray, List.map_cons, List.map_nil]); first | done | rfl | (simp only [List.length_drop, List.length_take]; rfl)) ?_; (with_reducible refine (history_History_Packet.calls gs0 s0_16 (fun k_ => some k_ = (u9000_ : Value).ownBlock) u9000_ l0_17 a3 t121 t122 t123 w0 _ ?side1 ?side2 ?side3 ?side4 A19.out).mono ?_); (case side1 => exact bpq3 BK50.out); (case side2 => exact GE50.out); (case side3 => repeat (first | (with_reducible first | exact HB.out | apply below_alloc | apply pw_below_drewN | apply below_drew1 | refine below_set ?_ GE0.out | refine below_set ?_ GE50.out) | exact HB.out)); (case side4 => exact Kd.R_tight rfl HO0_17.out); rintro e w27 ⟨v124, rfl, ho0, hi, hb, hkp⟩; refine ⟨_, rfl, ?_⟩; have n0_ := Aside0.mk (blk_kept (by exact bpq3 BK0.out) hkp (fun hs_ => Or.elim hs_ (fun hs_ => (fun e_ => (Kd.R_ne HO0_17.out BK0.out (by decide)) e_) hs_) (fun e_ => NB0_50.out e_))); have n1_ := Aside0.mk (hi); have n2_ := Aside0.mk (Kd.R_mono (ok' := fun k_ => (P0_17_ k_ ∨ w.heap.size ≤ k_)) ho0 (fun k_ hk_ => Or.elim hk_ (fun hs_ => (HO0_17.out.1 k_ (hs_).symm)) (fun hn_ => (.inr (Nat.le_trans (by first | exact HK.out.1 | exact (show Kept w _ (fun k_ => ((P0_17_ k_) ∨ k_ = g) ∨ k_ = gs0) from (kkq3 HK.out)).1) hn_))))); have n3_ := Aside0.mk (Kept.then_ (S := (fun k_ => ((P0_17_ k_) ∨ k_ = g) ∨ k_ = gs0)) ((kkq3 HK.out)) hkp (fun k_ hs_ => Or.elim hs_ (fun hs_ => (fun e_ => Or.imp_left (fun h_ => .inl (.inl (h_))) ((HO0_17.out.1 k_ e_.symm))) hs_) (fun e_ => .inl (.inr e_)))); have n4_ := Aside0.mk (hb); clear BK0; clear BK50; clear HK; clear HB; clear HO0_17; have BK0 := n0_; have BK50 := n1_; have HO125 := n2_; have HK := n3_; have HB := n4_; clear n0_ n1_ n2_ n3_ n4_; (try clear hb); (try clear hkp); (try clear ho0); obtain ⟨hcz28_0, hcz28_1, hcz28_2, hcz28_3, hcz28_4, hcz28_5, hcz28_6, hcz28_7, hcz28_8, hcz28_9, hcz28_10, hcz28_11, hcz28_12, hcz28_13, hcz28_14, hcz28_15, hcz28_16, hcz28_17, hcz28_18, hcz28_19⟩ := bc20q3 BK0.out; have hfz28_0 := fun i_ => blk_frozen BK0.out i_) | ((with_reducible refine gate_callee (f := 30) rfl ?_); refine goesL_ (some 26) rfl rfl Try.func30 (by kernel_rfl) rfl #[.pointer (some ⟨gs0, 0, none⟩), .int .i64 1] rfl (by (try simp only [List.map_toArray, List.map_cons, List.map_nil]); first | done | rfl | (simp only [List.length_drop, List.length_take]; rfl)) ?_; (with_reducible refine (history_History_Packet.calls gs0 t122 (fun k_ => some k_ = (v124 : Value).ownBlock) v124 t123 1 t126 t127 t128 w0 _ ?side1 ?side2 ?side3 ?side4 A20.out).mono ?_); (case side1 => exact bpq3 BK50.out); (case side2 => exact GE50.out); (case side3 => repeat (first | (with_reducible first | exact HB.out | apply below_alloc | apply pw_below_drewN | apply below_drew1 | refine below_set ?_ GE0.out | refine below_set ?_ GE50.out) | exact HB.out)); (case side4 => exact Kd.R_tight rfl HO125.out); rintro e w29 ⟨v129, rfl, ho0, hi, hb, hkp⟩; refine ⟨_, rfl, ?_⟩; have n0_ := Aside0.mk (blk_kept (by exact bpq3 BK0.out) hkp (fun hs_ => Or.elim hs_ (fun hs_ => (fun e_ => (Kd.R_ne HO125.out BK0.out (by decide)) e_) hs_) (fun e_ => NB0_50.out e_))); have n1_ := Aside0.mk (hi); have n2_ := Aside0.mk (Kd.R_mono (ok' := fun k_ => (P0_17_ k_ ∨ w.heap.size ≤ k_)) ho0 (fun k_ hk_ => Or.elim hk_ (fun hs_ => (HO125.out.1 k_ (hs_).symm)) (fun hn_ => (.inr (Nat.le_trans (by first | exact HK.out.1 | exact (show Kept w _ (fun k_ => ((P0_17_ k_) ∨ k_ = g) ∨ k_ = gs0) from (kkq3 HK.out)).1) hn_))))); have n3_ := Aside0.mk (Kept.then_ (S := (fun k_ => ((P0_17_ k_) ∨ k_ = g) ∨ k_ = gs0)) ((kkq3 HK.out)) hkp (fun k_ hs_ => Or.elim hs_ (fun hs_ => (fun e_ => Or.imp_left (fun h_ => .inl (.inl (h_))) ((HO125.out.1 k_ e_.symm))) hs_) (fun e_ => .inl (.inr e_)))); have n4_ := Aside0.mk (hb); clear BK0; clear BK50; clear HK; clear HB; clear HO125; have BK0 := n0_; have BK50 := n1_; have HO130 := n2_; have HK := n3_; have HB := n4_; clear n0_ n1_ n2_ n3_ n4_; (try clear hb); (try clear hkp); (try clear ho0)))
      first | go_end0 | ((try simp only [Exit.inBlock, Exit.then]); refine bodyPost_ret (results_none rfl _ _ _) rfl ?_)
      exact ⟨_, by first | rfl | (simp [errW_none, errW_some] <;> rfl) | (simp [*, errW_none, errW_some] <;> rfl), by (with_reducible repeat (first | apply Kd.R_alloc | apply Kd.R_drewN | apply Kd.R_drew)); exact HO130.out, (by exact bpq3 BK0.out), (by exact bpq3 BK50.out), (bbq3 HB.out), (kkq3 HK.out)⟩
    · rw [if_neg c18] at H
      have c18b0 : (a1 == 1) = false := beq_eq_false_iff_ne.mpr c18
      have c18b1 : (a1 != 1) = true := bne_iff_ne.mpr c18
      by_cases c30 : a1 = 2
      · rw [if_pos c30] at H
        have c30b0 : (a1 == 2) = true := beq_iff_eq.mpr c30
        have c30b1 : (a1 != 2) = false := bne_eq_false_iff_eq.mpr c30
        clear c30
        have hq131 : a1 = 2 := beq_iff_eq.mp (by assumption)
        have hua131 := Try.underlying52
        have hia131 : ∀ W : World, (Instr.indexAt 52 (.pointer (some ⟨g, 0, none⟩)) (.int .i64 a1)).run Try.prog W = .ok (.pointer (some ⟨g, 4, none⟩)) W := by intro W; rw [hq131]; first | (go_simp; done) | (go_simp; rfl) | rfl
        clear hq131
        replace H := Option.bind_eq_some_iff.mp H
        obtain ⟨⟨t132, t133, t134⟩, A310, H⟩ := H
        replace H : ((history_History_Packet.f t133 t134 1).bind fun bt137 => (some (s0_0, s0_1, s0_2, s0_3, t108, true, s0_6, s0_7, s0_8, s0_9, s0_10, s0_11, s0_12, s0_13, s0_14, s0_15, bt137.2.1, bt137.2.2, s0_18, s0_19, s0_20))) = some (r1, r2, r3, r4, r5, r6, r7, r8, r9, r10, r11, r12, r13, r14, r15, r16, r17, r18, r19, r20, r21) := H
        have A31 := Aside0.mk A310
        clear A310
        replace H := Option.bind_eq_some_iff.mp H
        obtain ⟨⟨t137, t138, t139⟩, A320, H⟩ := H
        replace H : (some (s0_0, s0_1, s0_2, s0_3, t108, true, s0_6, s0_7, s0_8, s0_9, s0_10, s0_11, s0_12, s0_13, s0_14, s0_15, t138, t139, s0_18, s0_19, s0_20)) = some (r1, r2, r3, r4, r5, r6, r7, r8, r9, r10, r11, r12, r13, r14, r15, r16, r17, r18, r19, r20, r21) := H
        have A32 := Aside0.mk A320
        clear A320
        simp only [Option.some.injEq, Prod.mk.injEq] at H
        obtain ⟨rfl, rfl, rfl, rfl, rfl, rfl, rfl, rfl, rfl, rfl, rfl, rfl, rfl, rfl, rfl, rfl, rfl, rfl, rfl, rfl, rfl⟩ := H
        go_enter Try.func22, Try.ntmps22
        try go_wp2
        have n0_ := Aside0.mk (Kd.R_drew HO0_17.out)
        have n1_ := Aside0.mk (blk_drew BK0.out)
        have n2_ := Aside0.mk (blk_drew BK50.out)
        have n3_ := Aside0.mk (Kept.drew HK.out)
        have n4_ := Aside0.mk (below_drew1 HB.out)
        clear HO0_17
        clear BK0
        clear BK50
        clear HK
        clear HB
        have HO0_17 := n0_
        have BK0 := n1_
        have BK50 := n2_
        have HK := n3_
        have HB := n4_
        clear n0_ n1_ n2_ n3_ n4_
        refine start_ (n := 9) (S := fun w' => True) (ds := []) #[false, false, false, false, false, false, false, false, false] (by kernel_rfl) rfl rfl trivial (fun hHeld => ?_); refine with_tabW detect_Detect_took.tab0 detect_Detect_took.bits0 (fun HT_ HW_ => ?_)
        generalize w.drew = w33 at HO0_17 BK0 BK50 HK HB hHeld ⊢
        refine pure_ (i := 0) (N := some 8) (v := ?_) (a' := ?_) #[true, false, false, false, false, false, false, false, false] rfl rfl (any_of HT_.out (by kernel_rfl)) (fun _ _ _ h => h) (Or.inl ⟨by rfl, ?_⟩) ?_ ?_
        rotate_left
        · intro w'
          go_simp
          with_reducible rfl
        rotate_left
        · simp only [Act.put, List.setIfInBounds_toArray, List.set_cons_zero, List.set_cons_succ, i64_w, i32_w]
          rfl
        refine pure_ (i := 1) (N := some 9) (v := ?_) (a' := ?_) #[true, true, false, false, false, false, false, false, false] rfl rfl (any_of HT_.out (by kernel_rfl)) (fun _ _ _ h => h) (Or.inl ⟨by rfl, ?_⟩) ?_ ?_
        rotate_left
        · intro w'
          go_simp
          with_reducible rfl
        rotate_left
        · simp only [Act.put, List.setIfInBounds_toArray, List.set_cons_zero, List.set_cons_succ, i64_w, i32_w]
          rfl
        refine pure_ (i := 2) (N := some 10) (v := ?_) (a' := ?_) #[true, true, true, false, false, false, false, false, false] rfl rfl (any_of HT_.out (by kernel_rfl)) (fun _ _ _ h => h) (Or.inl ⟨by rfl, ?_⟩) ?_ ?_
        rotate_left
        · intro w'
          go_simp
          with_reducible rfl
        rotate_left
        · simp only [Act.put, List.setIfInBounds_toArray, List.set_cons_zero, List.set_cons_succ, i64_w, i32_w]
          rfl
        refine pure_ (i := 5) (N := some 13) (v := ?_) (a' := ?_) #[true, true, true, false, false, true, false, false, false] rfl rfl (any_of HT_.out (by kernel_rfl)) (fun _ _ _ h => h) (Or.inl ⟨by rfl, ?_⟩) ?_ ?_
        rotate_left
        · intro w'
          go_simp
          with_reducible rfl
        rotate_left
        · simp only [Act.put, List.setIfInBounds_toArray, List.set_cons_zero, List.set_cons_succ, i64_w, i32_w]
          rfl
        refine pure_ (i := 6) (N := some 14) (v := ?_) (a' := ?_) #[true, true, true, false, false, true, true, false, false] rfl rfl (any_of HT_.out (by kernel_rfl)) (fun _ _ _ h => h) (Or.inl ⟨by rfl, ?_⟩) ?_ ?_
        rotate_left
        · intro w'
          go_simp
          with_reducible rfl
        rotate_left
        · simp only [Act.put, List.setIfInBounds_toArray, List.set_cons_zero, List.set_cons_succ, i64_w, i32_w]
          rfl
        refine one_ (i := 3) (N := some 11) #[true, true, true, true, false, true, true, false, false] rfl rfl (one_of HT_.out (by kernel_rfl)) (by decide) (fun K hK => ?_)
        refine goes_ Try.func29 (by kernel_rfl) rfl #[.int .u32 a2, .int .i64 1] (by rfl) rfl rfl (by (try simp only [List.map_toArray, List.map_cons, List.map_nil]); first | done | rfl | (simp only [List.length_drop, List.length_take]; rfl)) ?_
        with_reducible refine (serial_Next.calls a2 1 t108 _ A5.out).mono ?_
        rintro e w' ⟨rfl, ⟨nd, rfl⟩⟩
        refine ⟨_, rfl, ?_⟩
        (try (rw [drewN_self w33]; generalize hq_ : World.drewN w33 _ = w33; have n0_ : Aside0 (Kd.R (Kd.int .i64) 3 w33 w0.heap.size (fun k_ => (P0_17_ k_ ∨ w.heap.size ≤ k_)) u9000_ l0_17) := ⟨by rw [← hq_]; exact (by (with_reducible repeat (first | apply Kd.R_alloc | apply Kd.R_drewN | apply Kd.R_drew)); exact HO0_17.out)⟩; have n1_ : Aside0 (w33.heap[g]? = some (.cells #[.int .u32 s0_0, .bool s0_1, .int .u32 s0_2, .bool s0_3, .int .u32 s0_4, .bool s0_5, .int .u32 s0_6, .bool s0_7, .int .u32 s0_8, .bool s0_9, .int .u32 s0_10, .bool s0_11, .int .u32 s0_12, .bool s0_13, .int .u32 s0_14, .bool s0_15, .pointer (some ⟨gs0, 0, none⟩), .int .i64 s0_18, .int .i64 s0_19, .bool s0_20] 54 (0, 0))) := ⟨by rw [← hq_]; exact (by exact bpq3 BK0.out)⟩; have n2_ : Aside0 (w33.heap[gs0]? = some (.cells #[.int .i64 s0_16, u9000_] 68 (0, 0))) := ⟨by rw [← hq_]; exact (by exact bpq3 BK50.out)⟩; have n3_ : Aside0 (Kept w w33 (fun k_ => ((P0_17_ k_) ∨ k_ = g) ∨ k_ = gs0)) := ⟨by rw [← hq_]; exact ((kkq3 HK.out))⟩; have n4_ : Aside0 (Below w0.heap.size w0 w33) := ⟨by rw [← hq_]; exact ((bbq3 HB.out))⟩; clear HO0_17 BK0 BK50 HK HB hq_; have HO0_17 := n0_; have BK0 := n1_; have BK50 := n2_; have HK := n3_; have HB := n4_; clear n0_ n1_ n2_ n3_ n4_))
        refine hK.out _ _ trivial (fun hHeld => ?_)
        clear hK K
        refine norm_ (a' := ?_) ?_ ?_
        rotate_left
        · show Act.put _ (some 11) _ = _
          simp only [Act.put, List.setIfInBounds_toArray, List.set_cons_zero, List.set_cons_succ, i64_w, i32_w]
          rfl
        refine pure_ (i := 4) (N := some 12) (v := ?_) (a' := ?_) #[true, true, true, true, true, true, true, false, false] rfl rfl (any_of HT_.out (by kernel_rfl)) (fun _ _ _ h => h) (Or.inl ⟨by rfl, ?_⟩) ?_ ?_
        rotate_left
        · intro w'
          go_simp
          with_reducible rfl
        rotate_left
        · simp only [Act.put, List.setIfInBounds_toArray, List.set_cons_zero, List.set_cons_succ, i64_w, i32_w]
          rfl
        refine pure_ (i := 7) (N := some 15) (v := ?_) (a' := ?_) #[true, true, true, true, true, true, true, true, false] rfl rfl (any_of HT_.out (by kernel_rfl)) (fun _ _ _ h => h) (Or.inl ⟨by rfl, ?_⟩) ?_ ?_
        rotate_left
        · intro w'
          go_simp
          with_reducible rfl
        rotate_left
        · simp only [Act.put, List.setIfInBounds_toArray, List.set_cons_zero, List.set_cons_succ, i64_w, i32_w]
          rfl
        refine one_ (i := 8) (N := none) #[true, true, true, true, true, true, true, true, true] rfl rfl (one_of HT_.out (by kernel_rfl)) (by decide) (fun K hK => ?_)
        have hs34 : w33.cell? ⟨g, 4, none⟩ = some (.int .u32 s0_4) := (blk_cell BK0.out 4).trans rfl
        have hfs34 := blk_frozen BK0.out 4
        have hns34_1 := NB50_0.out
        have hms34_1 := NB0_50.out
        have hs35 : w33.cell? ⟨g, 5, none⟩ = some (.bool s0_5) := (blk_cell BK0.out 5).trans rfl
        have hfs35 := blk_frozen BK0.out 5
        refine skip_ (w1 := ?_) (by rfl) rfl ?_ ?_
        rotate_left
        · go_simp
          rfl
        refine hK.out _ _ trivial (fun hHeld => ?_)
        clear hK K
        refine done_ (done_of HT_.out (by kernel_rfl)) ?_
        have n0_ : Aside0 (Kd.R (Kd.int .i64) 3 ((w33.setCell ⟨g, 4, none⟩ (.int .u32 t108)).setCell ⟨g, 5, none⟩ (.bool true)) w0.heap.size (fun k_ => (P0_17_ k_ ∨ w.heap.size ≤ k_)) u9000_ l0_17) := ⟨by (with_reducible repeat (first | apply Kd.R_alloc | apply Kd.R_drewN | apply Kd.R_drew)); exact Kd.R_mono (Kd.R_far (Kd.R_far (Kd.R_types HO0_17.out BK0.out (by decide)) (fun _ hk => hk.2) _) (fun _ hk => hk.2) _) (fun _ hk => hk.1)⟩
        have n1_ : Aside0 (((w33.setCell ⟨g, 4, none⟩ (.int .u32 t108)).setCell ⟨g, 5, none⟩ (.bool true)).heap[g]? = some (.cells #[.int .u32 s0_0, .bool s0_1, .int .u32 s0_2, .bool s0_3, .int .u32 t108, .bool true, .int .u32 s0_6, .bool s0_7, .int .u32 s0_8, .bool s0_9, .int .u32 s0_10, .bool s0_11, .int .u32 s0_12, .bool s0_13, .int .u32 s0_14, .bool s0_15, .pointer (some ⟨gs0, 0, none⟩), .int .i64 s0_18, .int .i64 s0_19, .bool s0_20] 54 (0, 0))) := ⟨by refine bzq3 ?_; refine btq3 (i := 5) ?_; refine btq3 (i := 4) ?_; exact ⟨_, bpq3 BK0.out, rfl⟩⟩
        have n2_ : Aside0 (((w33.setCell ⟨g, 4, none⟩ (.int .u32 t108)).setCell ⟨g, 5, none⟩ (.bool true)).heap[gs0]? = some (.cells #[.int .i64 s0_16, u9000_] 68 (0, 0))) := ⟨by refine bfq3 NB50_0.out ?_; refine bfq3 NB50_0.out ?_; exact bpq3 BK50.out⟩
        have n3_ : Aside0 (Kept w ((w33.setCell ⟨g, 4, none⟩ (.int .u32 t108)).setCell ⟨g, 5, none⟩ (.bool true)) (fun k_ => ((P0_17_ k_) ∨ k_ = g) ∨ k_ = gs0)) := ⟨(kkq3 HK.out)⟩
        have n4_ : Aside0 (Below w0.heap.size w0 ((w33.setCell ⟨g, 4, none⟩ (.int .u32 t108)).setCell ⟨g, 5, none⟩ (.bool true))) := ⟨(bbq3 HB.out)⟩
        (try clear HO0_17)
        (try clear BK0)
        (try clear BK50)
        (try clear HK)
        (try clear HB)
        generalize ((w33.setCell ⟨g, 4, none⟩ (.int .u32 t108)).setCell ⟨g, 5, none⟩ (.bool true)) = w36 at n0_ n1_ n2_ n3_ n4_ ⊢
        have HO0_17 := n0_
        have BK0 := n1_
        have BK50 := n2_
        have HK := n3_
        have HB := n4_
        clear n0_ n1_ n2_ n3_ n4_
        have hnb37 := NB0_50.out
        have hnc37 := NB50_0.out
        obtain ⟨hcz38_0, hcz38_1, hcz38_2, hcz38_3, hcz38_4, hcz38_5, hcz38_6, hcz38_7, hcz38_8, hcz38_9, hcz38_10, hcz38_11, hcz38_12, hcz38_13, hcz38_14, hcz38_15, hcz38_16, hcz38_17, hcz38_18, hcz38_19⟩ := bc20q3 BK0.out
        have hfz38_0 := fun i_ => blk_frozen BK0.out i_
        try go_wp2_with (first | ((with_reducible refine gate_callee (f := 30) rfl ?_); refine goesL_ (some 21) rfl rfl Try.func30 (by kernel_rfl) rfl #[.pointer (some ⟨gs0, 0, none⟩), .int .i64 a3] rfl (by (try simp only [List.map_toArray, List.map_cons, List.map_nil]); first | done | rfl | (simp only [List.length_drop, List.length_take]; rfl)) ?_; (with_reducible refine (history_History_Packet.calls gs0 s0_16 (fun k_ => some k_ = (u9000_ : Value).ownBlock) u9000_ l0_17 a3 t132 t133 t134 w0 _ ?side1 ?side2 ?side3 ?side4 A31.out).mono ?_); (case side1 => exact bpq3 BK50.out); (case side2 => exact GE50.out); (case side3 => repeat (first | (with_reducible first | exact HB.out | apply below_alloc | apply pw_below_drewN | apply below_drew1 | refine below_set ?_ GE0.out | refine below_set ?_ GE50.out) | exact HB.out)); (case side4 => exact Kd.R_tight rfl HO0_17.out); rintro e w39 ⟨v135, rfl, ho0, hi, hb, hkp⟩; refine ⟨_, rfl, ?_⟩; have n0_ := Aside0.mk (blk_kept (by exact bpq3 BK0.out) hkp (fun hs_ => Or.elim hs_ (fun hs_ => (fun e_ => (Kd.R_ne HO0_17.out BK0.out (by decide)) e_) hs_) (fun e_ => NB0_50.out e_))); have n1_ := Aside0.mk (hi); have n2_ := Aside0.mk (Kd.R_mono (ok' := fun k_ => (P0_17_ k_ ∨ w.heap.size ≤ k_)) ho0 (fun k_ hk_ => Or.elim hk_ (fun hs_ => (HO0_17.out.1 k_ (hs_).symm)) (fun hn_ => (.inr (Nat.le_trans (by first | exact HK.out.1 | exact (show Kept w _ (fun k_ => ((P0_17_ k_) ∨ k_ = g) ∨ k_ = gs0) from (kkq3 HK.out)).1) hn_))))); have n3_ := Aside0.mk (Kept.then_ (S := (fun k_ => ((P0_17_ k_) ∨ k_ = g) ∨ k_ = gs0)) ((kkq3 HK.out)) hkp (fun k_ hs_ => Or.elim hs_ (fun hs_ => (fun e_ => Or.imp_left (fun h_ => .inl (.inl (h_))) ((HO0_17.out.1 k_ e_.symm))) hs_) (fun e_ => .inl (.inr e_)))); have n4_ := Aside0.mk (hb); clear BK0; clear BK50; clear HK; clear HB; clear HO0_17; have BK0 := n0_; have BK50 := n1_; have HO136 := n2_; have HK := n3_; have HB := n4_; clear n0_ n1_ n2_ n3_ n4_; (try clear hb); (try clear hkp); (try clear ho0); obtain ⟨hcz40_0, hcz40_1, hcz40_2, hcz40_3, hcz40_4, hcz40_5, hcz40_6, hcz40_7, hcz40_8, hcz40_9, hcz40_10, hcz40_11, hcz40_12, hcz40_13, hcz40_14, hcz40_15, hcz40_16, hcz40_17, hcz40_18, hcz40_19⟩ := bc20q3 BK0.out; have hfz40_0 := fun i_ => blk_frozen BK0.out i_) | ((with_reducible refine gate_callee (f := 30) rfl ?_); refine goesL_ (some 26) rfl rfl Try.func30 (by kernel_rfl) rfl #[.pointer (some ⟨gs0, 0, none⟩), .int .i64 1] rfl (by (try simp only [List.map_toArray, List.map_cons, List.map_nil]); first | done | rfl | (simp only [List.length_drop, List.length_take]; rfl)) ?_; (with_reducible refine (history_History_Packet.calls gs0 t133 (fun k_ => some k_ = (v135 : Value).ownBlock) v135 t134 1 t137 t138 t139 w0 _ ?side1 ?side2 ?side3 ?side4 A32.out).mono ?_); (case side1 => exact bpq3 BK50.out); (case side2 => exact GE50.out); (case side3 => repeat (first | (with_reducible first | exact HB.out | apply below_alloc | apply pw_below_drewN | apply below_drew1 | refine below_set ?_ GE0.out | refine below_set ?_ GE50.out) | exact HB.out)); (case side4 => exact Kd.R_tight rfl HO136.out); rintro e w41 ⟨v140, rfl, ho0, hi, hb, hkp⟩; refine ⟨_, rfl, ?_⟩; have n0_ := Aside0.mk (blk_kept (by exact bpq3 BK0.out) hkp (fun hs_ => Or.elim hs_ (fun hs_ => (fun e_ => (Kd.R_ne HO136.out BK0.out (by decide)) e_) hs_) (fun e_ => NB0_50.out e_))); have n1_ := Aside0.mk (hi); have n2_ := Aside0.mk (Kd.R_mono (ok' := fun k_ => (P0_17_ k_ ∨ w.heap.size ≤ k_)) ho0 (fun k_ hk_ => Or.elim hk_ (fun hs_ => (HO136.out.1 k_ (hs_).symm)) (fun hn_ => (.inr (Nat.le_trans (by first | exact HK.out.1 | exact (show Kept w _ (fun k_ => ((P0_17_ k_) ∨ k_ = g) ∨ k_ = gs0) from (kkq3 HK.out)).1) hn_))))); have n3_ := Aside0.mk (Kept.then_ (S := (fun k_ => ((P0_17_ k_) ∨ k_ = g) ∨ k_ = gs0)) ((kkq3 HK.out)) hkp (fun k_ hs_ => Or.elim hs_ (fun hs_ => (fun e_ => Or.imp_left (fun h_ => .inl (.inl (h_))) ((HO136.out.1 k_ e_.symm))) hs_) (fun e_ => .inl (.inr e_)))); have n4_ := Aside0.mk (hb); clear BK0; clear BK50; clear HK; clear HB; clear HO136; have BK0 := n0_; have BK50 := n1_; have HO141 := n2_; have HK := n3_; have HB := n4_; clear n0_ n1_ n2_ n3_ n4_; (try clear hb); (try clear hkp); (try clear ho0)))
        first | go_end0 | ((try simp only [Exit.inBlock, Exit.then]); refine bodyPost_ret (results_none rfl _ _ _) rfl ?_)
        exact ⟨_, by first | rfl | (simp [errW_none, errW_some] <;> rfl) | (simp [*, errW_none, errW_some] <;> rfl), by (with_reducible repeat (first | apply Kd.R_alloc | apply Kd.R_drewN | apply Kd.R_drew)); exact HO141.out, (by exact bpq3 BK0.out), (by exact bpq3 BK50.out), (bbq3 HB.out), (kkq3 HK.out)⟩
      · rw [if_neg c30] at H
        have c30b0 : (a1 == 2) = false := beq_eq_false_iff_ne.mpr c30
        have c30b1 : (a1 != 2) = true := bne_iff_ne.mpr c30
        by_cases c42 : a1 = 3
        · rw [if_pos c42] at H
          have c42b0 : (a1 == 3) = true := beq_iff_eq.mpr c42
          have c42b1 : (a1 != 3) = false := bne_eq_false_iff_eq.mpr c42
          clear c42
          have hq142 : a1 = 3 := beq_iff_eq.mp (by assumption)
          have hua142 := Try.underlying52
          have hia142 : ∀ W : World, (Instr.indexAt 52 (.pointer (some ⟨g, 0, none⟩)) (.int .i64 a1)).run Try.prog W = .ok (.pointer (some ⟨g, 6, none⟩)) W := by intro W; rw [hq142]; first | (go_simp; done) | (go_simp; rfl) | rfl
          clear hq142
          replace H := Option.bind_eq_some_iff.mp H
          obtain ⟨⟨t143, t144, t145⟩, A430, H⟩ := H
          replace H : ((history_History_Packet.f t144 t145 1).bind fun bt148 => (some (s0_0, s0_1, s0_2, s0_3, s0_4, s0_5, t108, true, s0_8, s0_9, s0_10, s0_11, s0_12, s0_13, s0_14, s0_15, bt148.2.1, bt148.2.2, s0_18, s0_19, s0_20))) = some (r1, r2, r3, r4, r5, r6, r7, r8, r9, r10, r11, r12, r13, r14, r15, r16, r17, r18, r19, r20, r21) := H
          have A43 := Aside0.mk A430
          clear A430
          replace H := Option.bind_eq_some_iff.mp H
          obtain ⟨⟨t148, t149, t150⟩, A440, H⟩ := H
          replace H : (some (s0_0, s0_1, s0_2, s0_3, s0_4, s0_5, t108, true, s0_8, s0_9, s0_10, s0_11, s0_12, s0_13, s0_14, s0_15, t149, t150, s0_18, s0_19, s0_20)) = some (r1, r2, r3, r4, r5, r6, r7, r8, r9, r10, r11, r12, r13, r14, r15, r16, r17, r18, r19, r20, r21) := H
          have A44 := Aside0.mk A440
          clear A440
          simp only [Option.some.injEq, Prod.mk.injEq] at H
          obtain ⟨rfl, rfl, rfl, rfl, rfl, rfl, rfl, rfl, rfl, rfl, rfl, rfl, rfl, rfl, rfl, rfl, rfl, rfl, rfl, rfl, rfl⟩ := H
          go_enter Try.func22, Try.ntmps22
          try go_wp2
          have n0_ := Aside0.mk (Kd.R_drew HO0_17.out)
          have n1_ := Aside0.mk (blk_drew BK0.out)
          have n2_ := Aside0.mk (blk_drew BK50.out)
          have n3_ := Aside0.mk (Kept.drew HK.out)
          have n4_ := Aside0.mk (below_drew1 HB.out)
          clear HO0_17
          clear BK0
          clear BK50
          clear HK
          clear HB
          have HO0_17 := n0_
          have BK0 := n1_
          have BK50 := n2_
          have HK := n3_
          have HB := n4_
          clear n0_ n1_ n2_ n3_ n4_
          refine start_ (n := 9) (S := fun w' => True) (ds := []) #[false, false, false, false, false, false, false, false, false] (by kernel_rfl) rfl rfl trivial (fun hHeld => ?_); refine with_tabW detect_Detect_took.tab0 detect_Detect_took.bits0 (fun HT_ HW_ => ?_)
          generalize w.drew = w45 at HO0_17 BK0 BK50 HK HB hHeld ⊢
          refine pure_ (i := 0) (N := some 8) (v := ?_) (a' := ?_) #[true, false, false, false, false, false, false, false, false] rfl rfl (any_of HT_.out (by kernel_rfl)) (fun _ _ _ h => h) (Or.inl ⟨by rfl, ?_⟩) ?_ ?_
          rotate_left
          · intro w'
            go_simp
            with_reducible rfl
          rotate_left
          · simp only [Act.put, List.setIfInBounds_toArray, List.set_cons_zero, List.set_cons_succ, i64_w, i32_w]
            rfl
          refine pure_ (i := 1) (N := some 9) (v := ?_) (a' := ?_) #[true, true, false, false, false, false, false, false, false] rfl rfl (any_of HT_.out (by kernel_rfl)) (fun _ _ _ h => h) (Or.inl ⟨by rfl, ?_⟩) ?_ ?_
          rotate_left
          · intro w'
            go_simp
            with_reducible rfl
          rotate_left
          · simp only [Act.put, List.setIfInBounds_toArray, List.set_cons_zero, List.set_cons_succ, i64_w, i32_w]
            rfl
          refine pure_ (i := 2) (N := some 10) (v := ?_) (a' := ?_) #[true, true, true, false, false, false, false, false, false] rfl rfl (any_of HT_.out (by kernel_rfl)) (fun _ _ _ h => h) (Or.inl ⟨by rfl, ?_⟩) ?_ ?_
          rotate_left
          · intro w'
            go_simp
            with_reducible rfl
          rotate_left
          · simp only [Act.put, List.setIfInBounds_toArray, List.set_cons_zero, List.set_cons_succ, i64_w, i32_w]
            rfl
          refine pure_ (i := 5) (N := some 13) (v := ?_) (a' := ?_) #[true, true, true, false, false, true, false, false, false] rfl rfl (any_of HT_.out (by kernel_rfl)) (fun _ _ _ h => h) (Or.inl ⟨by rfl, ?_⟩) ?_ ?_
          rotate_left
          · intro w'
            go_simp
            with_reducible rfl
          rotate_left
          · simp only [Act.put, List.setIfInBounds_toArray, List.set_cons_zero, List.set_cons_succ, i64_w, i32_w]
            rfl
          refine pure_ (i := 6) (N := some 14) (v := ?_) (a' := ?_) #[true, true, true, false, false, true, true, false, false] rfl rfl (any_of HT_.out (by kernel_rfl)) (fun _ _ _ h => h) (Or.inl ⟨by rfl, ?_⟩) ?_ ?_
          rotate_left
          · intro w'
            go_simp
            with_reducible rfl
          rotate_left
          · simp only [Act.put, List.setIfInBounds_toArray, List.set_cons_zero, List.set_cons_succ, i64_w, i32_w]
            rfl
          refine one_ (i := 3) (N := some 11) #[true, true, true, true, false, true, true, false, false] rfl rfl (one_of HT_.out (by kernel_rfl)) (by decide) (fun K hK => ?_)
          refine goes_ Try.func29 (by kernel_rfl) rfl #[.int .u32 a2, .int .i64 1] (by rfl) rfl rfl (by (try simp only [List.map_toArray, List.map_cons, List.map_nil]); first | done | rfl | (simp only [List.length_drop, List.length_take]; rfl)) ?_
          with_reducible refine (serial_Next.calls a2 1 t108 _ A5.out).mono ?_
          rintro e w' ⟨rfl, ⟨nd, rfl⟩⟩
          refine ⟨_, rfl, ?_⟩
          (try (rw [drewN_self w45]; generalize hq_ : World.drewN w45 _ = w45; have n0_ : Aside0 (Kd.R (Kd.int .i64) 3 w45 w0.heap.size (fun k_ => (P0_17_ k_ ∨ w.heap.size ≤ k_)) u9000_ l0_17) := ⟨by rw [← hq_]; exact (by (with_reducible repeat (first | apply Kd.R_alloc | apply Kd.R_drewN | apply Kd.R_drew)); exact HO0_17.out)⟩; have n1_ : Aside0 (w45.heap[g]? = some (.cells #[.int .u32 s0_0, .bool s0_1, .int .u32 s0_2, .bool s0_3, .int .u32 s0_4, .bool s0_5, .int .u32 s0_6, .bool s0_7, .int .u32 s0_8, .bool s0_9, .int .u32 s0_10, .bool s0_11, .int .u32 s0_12, .bool s0_13, .int .u32 s0_14, .bool s0_15, .pointer (some ⟨gs0, 0, none⟩), .int .i64 s0_18, .int .i64 s0_19, .bool s0_20] 54 (0, 0))) := ⟨by rw [← hq_]; exact (by exact bpq3 BK0.out)⟩; have n2_ : Aside0 (w45.heap[gs0]? = some (.cells #[.int .i64 s0_16, u9000_] 68 (0, 0))) := ⟨by rw [← hq_]; exact (by exact bpq3 BK50.out)⟩; have n3_ : Aside0 (Kept w w45 (fun k_ => ((P0_17_ k_) ∨ k_ = g) ∨ k_ = gs0)) := ⟨by rw [← hq_]; exact ((kkq3 HK.out))⟩; have n4_ : Aside0 (Below w0.heap.size w0 w45) := ⟨by rw [← hq_]; exact ((bbq3 HB.out))⟩; clear HO0_17 BK0 BK50 HK HB hq_; have HO0_17 := n0_; have BK0 := n1_; have BK50 := n2_; have HK := n3_; have HB := n4_; clear n0_ n1_ n2_ n3_ n4_))
          refine hK.out _ _ trivial (fun hHeld => ?_)
          clear hK K
          refine norm_ (a' := ?_) ?_ ?_
          rotate_left
          · show Act.put _ (some 11) _ = _
            simp only [Act.put, List.setIfInBounds_toArray, List.set_cons_zero, List.set_cons_succ, i64_w, i32_w]
            rfl
          refine pure_ (i := 4) (N := some 12) (v := ?_) (a' := ?_) #[true, true, true, true, true, true, true, false, false] rfl rfl (any_of HT_.out (by kernel_rfl)) (fun _ _ _ h => h) (Or.inl ⟨by rfl, ?_⟩) ?_ ?_
          rotate_left
          · intro w'
            go_simp
            with_reducible rfl
          rotate_left
          · simp only [Act.put, List.setIfInBounds_toArray, List.set_cons_zero, List.set_cons_succ, i64_w, i32_w]
            rfl
          refine pure_ (i := 7) (N := some 15) (v := ?_) (a' := ?_) #[true, true, true, true, true, true, true, true, false] rfl rfl (any_of HT_.out (by kernel_rfl)) (fun _ _ _ h => h) (Or.inl ⟨by rfl, ?_⟩) ?_ ?_
          rotate_left
          · intro w'
            go_simp
            with_reducible rfl
          rotate_left
          · simp only [Act.put, List.setIfInBounds_toArray, List.set_cons_zero, List.set_cons_succ, i64_w, i32_w]
            rfl
          refine one_ (i := 8) (N := none) #[true, true, true, true, true, true, true, true, true] rfl rfl (one_of HT_.out (by kernel_rfl)) (by decide) (fun K hK => ?_)
          have hs46 : w45.cell? ⟨g, 6, none⟩ = some (.int .u32 s0_6) := (blk_cell BK0.out 6).trans rfl
          have hfs46 := blk_frozen BK0.out 6
          have hns46_1 := NB50_0.out
          have hms46_1 := NB0_50.out
          have hs47 : w45.cell? ⟨g, 7, none⟩ = some (.bool s0_7) := (blk_cell BK0.out 7).trans rfl
          have hfs47 := blk_frozen BK0.out 7
          refine skip_ (w1 := ?_) (by rfl) rfl ?_ ?_
          rotate_left
          · go_simp
            rfl
          refine hK.out _ _ trivial (fun hHeld => ?_)
          clear hK K
          refine done_ (done_of HT_.out (by kernel_rfl)) ?_
          have n0_ : Aside0 (Kd.R (Kd.int .i64) 3 ((w45.setCell ⟨g, 6, none⟩ (.int .u32 t108)).setCell ⟨g, 7, none⟩ (.bool true)) w0.heap.size (fun k_ => (P0_17_ k_ ∨ w.heap.size ≤ k_)) u9000_ l0_17) := ⟨by (with_reducible repeat (first | apply Kd.R_alloc | apply Kd.R_drewN | apply Kd.R_drew)); exact Kd.R_mono (Kd.R_far (Kd.R_far (Kd.R_types HO0_17.out BK0.out (by decide)) (fun _ hk => hk.2) _) (fun _ hk => hk.2) _) (fun _ hk => hk.1)⟩
          have n1_ : Aside0 (((w45.setCell ⟨g, 6, none⟩ (.int .u32 t108)).setCell ⟨g, 7, none⟩ (.bool true)).heap[g]? = some (.cells #[.int .u32 s0_0, .bool s0_1, .int .u32 s0_2, .bool s0_3, .int .u32 s0_4, .bool s0_5, .int .u32 t108, .bool true, .int .u32 s0_8, .bool s0_9, .int .u32 s0_10, .bool s0_11, .int .u32 s0_12, .bool s0_13, .int .u32 s0_14, .bool s0_15, .pointer (some ⟨gs0, 0, none⟩), .int .i64 s0_18, .int .i64 s0_19, .bool s0_20] 54 (0, 0))) := ⟨by refine bzq3 ?_; refine btq3 (i := 7) ?_; refine btq3 (i := 6) ?_; exact ⟨_, bpq3 BK0.out, rfl⟩⟩
          have n2_ : Aside0 (((w45.setCell ⟨g, 6, none⟩ (.int .u32 t108)).setCell ⟨g, 7, none⟩ (.bool true)).heap[gs0]? = some (.cells #[.int .i64 s0_16, u9000_] 68 (0, 0))) := ⟨by refine bfq3 NB50_0.out ?_; refine bfq3 NB50_0.out ?_; exact bpq3 BK50.out⟩
          have n3_ : Aside0 (Kept w ((w45.setCell ⟨g, 6, none⟩ (.int .u32 t108)).setCell ⟨g, 7, none⟩ (.bool true)) (fun k_ => ((P0_17_ k_) ∨ k_ = g) ∨ k_ = gs0)) := ⟨(kkq3 HK.out)⟩
          have n4_ : Aside0 (Below w0.heap.size w0 ((w45.setCell ⟨g, 6, none⟩ (.int .u32 t108)).setCell ⟨g, 7, none⟩ (.bool true))) := ⟨(bbq3 HB.out)⟩
          (try clear HO0_17)
          (try clear BK0)
          (try clear BK50)
          (try clear HK)
          (try clear HB)
          generalize ((w45.setCell ⟨g, 6, none⟩ (.int .u32 t108)).setCell ⟨g, 7, none⟩ (.bool true)) = w48 at n0_ n1_ n2_ n3_ n4_ ⊢
          have HO0_17 := n0_
          have BK0 := n1_
          have BK50 := n2_
          have HK := n3_
          have HB := n4_
          clear n0_ n1_ n2_ n3_ n4_
          have hnb49 := NB0_50.out
          have hnc49 := NB50_0.out
          obtain ⟨hcz50_0, hcz50_1, hcz50_2, hcz50_3, hcz50_4, hcz50_5, hcz50_6, hcz50_7, hcz50_8, hcz50_9, hcz50_10, hcz50_11, hcz50_12, hcz50_13, hcz50_14, hcz50_15, hcz50_16, hcz50_17, hcz50_18, hcz50_19⟩ := bc20q3 BK0.out
          have hfz50_0 := fun i_ => blk_frozen BK0.out i_
          try go_wp2_with (first | ((with_reducible refine gate_callee (f := 30) rfl ?_); refine goesL_ (some 21) rfl rfl Try.func30 (by kernel_rfl) rfl #[.pointer (some ⟨gs0, 0, none⟩), .int .i64 a3] rfl (by (try simp only [List.map_toArray, List.map_cons, List.map_nil]); first | done | rfl | (simp only [List.length_drop, List.length_take]; rfl)) ?_; (with_reducible refine (history_History_Packet.calls gs0 s0_16 (fun k_ => some k_ = (u9000_ : Value).ownBlock) u9000_ l0_17 a3 t143 t144 t145 w0 _ ?side1 ?side2 ?side3 ?side4 A43.out).mono ?_); (case side1 => exact bpq3 BK50.out); (case side2 => exact GE50.out); (case side3 => repeat (first | (with_reducible first | exact HB.out | apply below_alloc | apply pw_below_drewN | apply below_drew1 | refine below_set ?_ GE0.out | refine below_set ?_ GE50.out) | exact HB.out)); (case side4 => exact Kd.R_tight rfl HO0_17.out); rintro e w51 ⟨v146, rfl, ho0, hi, hb, hkp⟩; refine ⟨_, rfl, ?_⟩; have n0_ := Aside0.mk (blk_kept (by exact bpq3 BK0.out) hkp (fun hs_ => Or.elim hs_ (fun hs_ => (fun e_ => (Kd.R_ne HO0_17.out BK0.out (by decide)) e_) hs_) (fun e_ => NB0_50.out e_))); have n1_ := Aside0.mk (hi); have n2_ := Aside0.mk (Kd.R_mono (ok' := fun k_ => (P0_17_ k_ ∨ w.heap.size ≤ k_)) ho0 (fun k_ hk_ => Or.elim hk_ (fun hs_ => (HO0_17.out.1 k_ (hs_).symm)) (fun hn_ => (.inr (Nat.le_trans (by first | exact HK.out.1 | exact (show Kept w _ (fun k_ => ((P0_17_ k_) ∨ k_ = g) ∨ k_ = gs0) from (kkq3 HK.out)).1) hn_))))); have n3_ := Aside0.mk (Kept.then_ (S := (fun k_ => ((P0_17_ k_) ∨ k_ = g) ∨ k_ = gs0)) ((kkq3 HK.out)) hkp (fun k_ hs_ => Or.elim hs_ (fun hs_ => (fun e_ => Or.imp_left (fun h_ => .inl (.inl (h_))) ((HO0_17.out.1 k_ e_.symm))) hs_) (fun e_ => .inl (.inr e_)))); have n4_ := Aside0.mk (hb); clear BK0; clear BK50; clear HK; clear HB; clear HO0_17; have BK0 := n0_; have BK50 := n1_; have HO147 := n2_; have HK := n3_; have HB := n4_; clear n0_ n1_ n2_ n3_ n4_; (try clear hb); (try clear hkp); (try clear ho0); obtain ⟨hcz52_0, hcz52_1, hcz52_2, hcz52_3, hcz52_4, hcz52_5, hcz52_6, hcz52_7, hcz52_8, hcz52_9, hcz52_10, hcz52_11, hcz52_12, hcz52_13, hcz52_14, hcz52_15, hcz52_16, hcz52_17, hcz52_18, hcz52_19⟩ := bc20q3 BK0.out; have hfz52_0 := fun i_ => blk_frozen BK0.out i_) | ((with_reducible refine gate_callee (f := 30) rfl ?_); refine goesL_ (some 26) rfl rfl Try.func30 (by kernel_rfl) rfl #[.pointer (some ⟨gs0, 0, none⟩), .int .i64 1] rfl (by (try simp only [List.map_toArray, List.map_cons, List.map_nil]); first | done | rfl | (simp only [List.length_drop, List.length_take]; rfl)) ?_; (with_reducible refine (history_History_Packet.calls gs0 t144 (fun k_ => some k_ = (v146 : Value).ownBlock) v146 t145 1 t148 t149 t150 w0 _ ?side1 ?side2 ?side3 ?side4 A44.out).mono ?_); (case side1 => exact bpq3 BK50.out); (case side2 => exact GE50.out); (case side3 => repeat (first | (with_reducible first | exact HB.out | apply below_alloc | apply pw_below_drewN | apply below_drew1 | refine below_set ?_ GE0.out | refine below_set ?_ GE50.out) | exact HB.out)); (case side4 => exact Kd.R_tight rfl HO147.out); rintro e w53 ⟨v151, rfl, ho0, hi, hb, hkp⟩; refine ⟨_, rfl, ?_⟩; have n0_ := Aside0.mk (blk_kept (by exact bpq3 BK0.out) hkp (fun hs_ => Or.elim hs_ (fun hs_ => (fun e_ => (Kd.R_ne HO147.out BK0.out (by decide)) e_) hs_) (fun e_ => NB0_50.out e_))); have n1_ := Aside0.mk (hi); have n2_ := Aside0.mk (Kd.R_mono (ok' := fun k_ => (P0_17_ k_ ∨ w.heap.size ≤ k_)) ho0 (fun k_ hk_ => Or.elim hk_ (fun hs_ => (HO147.out.1 k_ (hs_).symm)) (fun hn_ => (.inr (Nat.le_trans (by first | exact HK.out.1 | exact (show Kept w _ (fun k_ => ((P0_17_ k_) ∨ k_ = g) ∨ k_ = gs0) from (kkq3 HK.out)).1) hn_))))); have n3_ := Aside0.mk (Kept.then_ (S := (fun k_ => ((P0_17_ k_) ∨ k_ = g) ∨ k_ = gs0)) ((kkq3 HK.out)) hkp (fun k_ hs_ => Or.elim hs_ (fun hs_ => (fun e_ => Or.imp_left (fun h_ => .inl (.inl (h_))) ((HO147.out.1 k_ e_.symm))) hs_) (fun e_ => .inl (.inr e_)))); have n4_ := Aside0.mk (hb); clear BK0; clear BK50; clear HK; clear HB; clear HO147; have BK0 := n0_; have BK50 := n1_; have HO152 := n2_; have HK := n3_; have HB := n4_; clear n0_ n1_ n2_ n3_ n4_; (try clear hb); (try clear hkp); (try clear ho0)))
          first | go_end0 | ((try simp only [Exit.inBlock, Exit.then]); refine bodyPost_ret (results_none rfl _ _ _) rfl ?_)
          exact ⟨_, by first | rfl | (simp [errW_none, errW_some] <;> rfl) | (simp [*, errW_none, errW_some] <;> rfl), by (with_reducible repeat (first | apply Kd.R_alloc | apply Kd.R_drewN | apply Kd.R_drew)); exact HO152.out, (by exact bpq3 BK0.out), (by exact bpq3 BK50.out), (bbq3 HB.out), (kkq3 HK.out)⟩
        · rw [if_neg c42] at H
          have c42b0 : (a1 == 3) = false := beq_eq_false_iff_ne.mpr c42
          have c42b1 : (a1 != 3) = true := bne_iff_ne.mpr c42
          by_cases c54 : a1 = 4
          · rw [if_pos c54] at H
            have c54b0 : (a1 == 4) = true := beq_iff_eq.mpr c54
            have c54b1 : (a1 != 4) = false := bne_eq_false_iff_eq.mpr c54
            clear c54
            have hq153 : a1 = 4 := beq_iff_eq.mp (by assumption)
            have hua153 := Try.underlying52
            have hia153 : ∀ W : World, (Instr.indexAt 52 (.pointer (some ⟨g, 0, none⟩)) (.int .i64 a1)).run Try.prog W = .ok (.pointer (some ⟨g, 8, none⟩)) W := by intro W; rw [hq153]; first | (go_simp; done) | (go_simp; rfl) | rfl
            clear hq153
            replace H := Option.bind_eq_some_iff.mp H
            obtain ⟨⟨t154, t155, t156⟩, A550, H⟩ := H
            replace H : ((history_History_Packet.f t155 t156 1).bind fun bt159 => (some (s0_0, s0_1, s0_2, s0_3, s0_4, s0_5, s0_6, s0_7, t108, true, s0_10, s0_11, s0_12, s0_13, s0_14, s0_15, bt159.2.1, bt159.2.2, s0_18, s0_19, s0_20))) = some (r1, r2, r3, r4, r5, r6, r7, r8, r9, r10, r11, r12, r13, r14, r15, r16, r17, r18, r19, r20, r21) := H
            have A55 := Aside0.mk A550
            clear A550
            replace H := Option.bind_eq_some_iff.mp H
            obtain ⟨⟨t159, t160, t161⟩, A560, H⟩ := H
            replace H : (some (s0_0, s0_1, s0_2, s0_3, s0_4, s0_5, s0_6, s0_7, t108, true, s0_10, s0_11, s0_12, s0_13, s0_14, s0_15, t160, t161, s0_18, s0_19, s0_20)) = some (r1, r2, r3, r4, r5, r6, r7, r8, r9, r10, r11, r12, r13, r14, r15, r16, r17, r18, r19, r20, r21) := H
            have A56 := Aside0.mk A560
            clear A560
            simp only [Option.some.injEq, Prod.mk.injEq] at H
            obtain ⟨rfl, rfl, rfl, rfl, rfl, rfl, rfl, rfl, rfl, rfl, rfl, rfl, rfl, rfl, rfl, rfl, rfl, rfl, rfl, rfl, rfl⟩ := H
            go_enter Try.func22, Try.ntmps22
            try go_wp2
            have n0_ := Aside0.mk (Kd.R_drew HO0_17.out)
            have n1_ := Aside0.mk (blk_drew BK0.out)
            have n2_ := Aside0.mk (blk_drew BK50.out)
            have n3_ := Aside0.mk (Kept.drew HK.out)
            have n4_ := Aside0.mk (below_drew1 HB.out)
            clear HO0_17
            clear BK0
            clear BK50
            clear HK
            clear HB
            have HO0_17 := n0_
            have BK0 := n1_
            have BK50 := n2_
            have HK := n3_
            have HB := n4_
            clear n0_ n1_ n2_ n3_ n4_
            refine start_ (n := 9) (S := fun w' => True) (ds := []) #[false, false, false, false, false, false, false, false, false] (by kernel_rfl) rfl rfl trivial (fun hHeld => ?_); refine with_tabW detect_Detect_took.tab0 detect_Detect_took.bits0 (fun HT_ HW_ => ?_)
            generalize w.drew = w57 at HO0_17 BK0 BK50 HK HB hHeld ⊢
            refine pure_ (i := 0) (N := some 8) (v := ?_) (a' := ?_) #[true, false, false, false, false, false, false, false, false] rfl rfl (any_of HT_.out (by kernel_rfl)) (fun _ _ _ h => h) (Or.inl ⟨by rfl, ?_⟩) ?_ ?_
            rotate_left
            · intro w'
              go_simp
              with_reducible rfl
            rotate_left
            · simp only [Act.put, List.setIfInBounds_toArray, List.set_cons_zero, List.set_cons_succ, i64_w, i32_w]
              rfl
            refine pure_ (i := 1) (N := some 9) (v := ?_) (a' := ?_) #[true, true, false, false, false, false, false, false, false] rfl rfl (any_of HT_.out (by kernel_rfl)) (fun _ _ _ h => h) (Or.inl ⟨by rfl, ?_⟩) ?_ ?_
            rotate_left
            · intro w'
              go_simp
              with_reducible rfl
            rotate_left
            · simp only [Act.put, List.setIfInBounds_toArray, List.set_cons_zero, List.set_cons_succ, i64_w, i32_w]
              rfl
            refine pure_ (i := 2) (N := some 10) (v := ?_) (a' := ?_) #[true, true, true, false, false, false, false, false, false] rfl rfl (any_of HT_.out (by kernel_rfl)) (fun _ _ _ h => h) (Or.inl ⟨by rfl, ?_⟩) ?_ ?_
            rotate_left
            · intro w'
              go_simp
              with_reducible rfl
            rotate_left
            · simp only [Act.put, List.setIfInBounds_toArray, List.set_cons_zero, List.set_cons_succ, i64_w, i32_w]
              rfl
            refine pure_ (i := 5) (N := some 13) (v := ?_) (a' := ?_) #[true, true, true, false, false, true, false, false, false] rfl rfl (any_of HT_.out (by kernel_rfl)) (fun _ _ _ h => h) (Or.inl ⟨by rfl, ?_⟩) ?_ ?_
            rotate_left
            · intro w'
              go_simp
              with_reducible rfl
            rotate_left
            · simp only [Act.put, List.setIfInBounds_toArray, List.set_cons_zero, List.set_cons_succ, i64_w, i32_w]
              rfl
            refine pure_ (i := 6) (N := some 14) (v := ?_) (a' := ?_) #[true, true, true, false, false, true, true, false, false] rfl rfl (any_of HT_.out (by kernel_rfl)) (fun _ _ _ h => h) (Or.inl ⟨by rfl, ?_⟩) ?_ ?_
            rotate_left
            · intro w'
              go_simp
              with_reducible rfl
            rotate_left
            · simp only [Act.put, List.setIfInBounds_toArray, List.set_cons_zero, List.set_cons_succ, i64_w, i32_w]
              rfl
            refine one_ (i := 3) (N := some 11) #[true, true, true, true, false, true, true, false, false] rfl rfl (one_of HT_.out (by kernel_rfl)) (by decide) (fun K hK => ?_)
            refine goes_ Try.func29 (by kernel_rfl) rfl #[.int .u32 a2, .int .i64 1] (by rfl) rfl rfl (by (try simp only [List.map_toArray, List.map_cons, List.map_nil]); first | done | rfl | (simp only [List.length_drop, List.length_take]; rfl)) ?_
            with_reducible refine (serial_Next.calls a2 1 t108 _ A5.out).mono ?_
            rintro e w' ⟨rfl, ⟨nd, rfl⟩⟩
            refine ⟨_, rfl, ?_⟩
            (try (rw [drewN_self w57]; generalize hq_ : World.drewN w57 _ = w57; have n0_ : Aside0 (Kd.R (Kd.int .i64) 3 w57 w0.heap.size (fun k_ => (P0_17_ k_ ∨ w.heap.size ≤ k_)) u9000_ l0_17) := ⟨by rw [← hq_]; exact (by (with_reducible repeat (first | apply Kd.R_alloc | apply Kd.R_drewN | apply Kd.R_drew)); exact HO0_17.out)⟩; have n1_ : Aside0 (w57.heap[g]? = some (.cells #[.int .u32 s0_0, .bool s0_1, .int .u32 s0_2, .bool s0_3, .int .u32 s0_4, .bool s0_5, .int .u32 s0_6, .bool s0_7, .int .u32 s0_8, .bool s0_9, .int .u32 s0_10, .bool s0_11, .int .u32 s0_12, .bool s0_13, .int .u32 s0_14, .bool s0_15, .pointer (some ⟨gs0, 0, none⟩), .int .i64 s0_18, .int .i64 s0_19, .bool s0_20] 54 (0, 0))) := ⟨by rw [← hq_]; exact (by exact bpq3 BK0.out)⟩; have n2_ : Aside0 (w57.heap[gs0]? = some (.cells #[.int .i64 s0_16, u9000_] 68 (0, 0))) := ⟨by rw [← hq_]; exact (by exact bpq3 BK50.out)⟩; have n3_ : Aside0 (Kept w w57 (fun k_ => ((P0_17_ k_) ∨ k_ = g) ∨ k_ = gs0)) := ⟨by rw [← hq_]; exact ((kkq3 HK.out))⟩; have n4_ : Aside0 (Below w0.heap.size w0 w57) := ⟨by rw [← hq_]; exact ((bbq3 HB.out))⟩; clear HO0_17 BK0 BK50 HK HB hq_; have HO0_17 := n0_; have BK0 := n1_; have BK50 := n2_; have HK := n3_; have HB := n4_; clear n0_ n1_ n2_ n3_ n4_))
            refine hK.out _ _ trivial (fun hHeld => ?_)
            clear hK K
            refine norm_ (a' := ?_) ?_ ?_
            rotate_left
            · show Act.put _ (some 11) _ = _
              simp only [Act.put, List.setIfInBounds_toArray, List.set_cons_zero, List.set_cons_succ, i64_w, i32_w]
              rfl
            refine pure_ (i := 4) (N := some 12) (v := ?_) (a' := ?_) #[true, true, true, true, true, true, true, false, false] rfl rfl (any_of HT_.out (by kernel_rfl)) (fun _ _ _ h => h) (Or.inl ⟨by rfl, ?_⟩) ?_ ?_
            rotate_left
            · intro w'
              go_simp
              with_reducible rfl
            rotate_left
            · simp only [Act.put, List.setIfInBounds_toArray, List.set_cons_zero, List.set_cons_succ, i64_w, i32_w]
              rfl
            refine pure_ (i := 7) (N := some 15) (v := ?_) (a' := ?_) #[true, true, true, true, true, true, true, true, false] rfl rfl (any_of HT_.out (by kernel_rfl)) (fun _ _ _ h => h) (Or.inl ⟨by rfl, ?_⟩) ?_ ?_
            rotate_left
            · intro w'
              go_simp
              with_reducible rfl
            rotate_left
            · simp only [Act.put, List.setIfInBounds_toArray, List.set_cons_zero, List.set_cons_succ, i64_w, i32_w]
              rfl
            refine one_ (i := 8) (N := none) #[true, true, true, true, true, true, true, true, true] rfl rfl (one_of HT_.out (by kernel_rfl)) (by decide) (fun K hK => ?_)
            have hs58 : w57.cell? ⟨g, 8, none⟩ = some (.int .u32 s0_8) := (blk_cell BK0.out 8).trans rfl
            have hfs58 := blk_frozen BK0.out 8
            have hns58_1 := NB50_0.out
            have hms58_1 := NB0_50.out
            have hs59 : w57.cell? ⟨g, 9, none⟩ = some (.bool s0_9) := (blk_cell BK0.out 9).trans rfl
            have hfs59 := blk_frozen BK0.out 9
            refine skip_ (w1 := ?_) (by rfl) rfl ?_ ?_
            rotate_left
            · go_simp
              rfl
            refine hK.out _ _ trivial (fun hHeld => ?_)
            clear hK K
            refine done_ (done_of HT_.out (by kernel_rfl)) ?_
            have n0_ : Aside0 (Kd.R (Kd.int .i64) 3 ((w57.setCell ⟨g, 8, none⟩ (.int .u32 t108)).setCell ⟨g, 9, none⟩ (.bool true)) w0.heap.size (fun k_ => (P0_17_ k_ ∨ w.heap.size ≤ k_)) u9000_ l0_17) := ⟨by (with_reducible repeat (first | apply Kd.R_alloc | apply Kd.R_drewN | apply Kd.R_drew)); exact Kd.R_mono (Kd.R_far (Kd.R_far (Kd.R_types HO0_17.out BK0.out (by decide)) (fun _ hk => hk.2) _) (fun _ hk => hk.2) _) (fun _ hk => hk.1)⟩
            have n1_ : Aside0 (((w57.setCell ⟨g, 8, none⟩ (.int .u32 t108)).setCell ⟨g, 9, none⟩ (.bool true)).heap[g]? = some (.cells #[.int .u32 s0_0, .bool s0_1, .int .u32 s0_2, .bool s0_3, .int .u32 s0_4, .bool s0_5, .int .u32 s0_6, .bool s0_7, .int .u32 t108, .bool true, .int .u32 s0_10, .bool s0_11, .int .u32 s0_12, .bool s0_13, .int .u32 s0_14, .bool s0_15, .pointer (some ⟨gs0, 0, none⟩), .int .i64 s0_18, .int .i64 s0_19, .bool s0_20] 54 (0, 0))) := ⟨by refine bzq3 ?_; refine btq3 (i := 9) ?_; refine btq3 (i := 8) ?_; exact ⟨_, bpq3 BK0.out, rfl⟩⟩
            have n2_ : Aside0 (((w57.setCell ⟨g, 8, none⟩ (.int .u32 t108)).setCell ⟨g, 9, none⟩ (.bool true)).heap[gs0]? = some (.cells #[.int .i64 s0_16, u9000_] 68 (0, 0))) := ⟨by refine bfq3 NB50_0.out ?_; refine bfq3 NB50_0.out ?_; exact bpq3 BK50.out⟩
            have n3_ : Aside0 (Kept w ((w57.setCell ⟨g, 8, none⟩ (.int .u32 t108)).setCell ⟨g, 9, none⟩ (.bool true)) (fun k_ => ((P0_17_ k_) ∨ k_ = g) ∨ k_ = gs0)) := ⟨(kkq3 HK.out)⟩
            have n4_ : Aside0 (Below w0.heap.size w0 ((w57.setCell ⟨g, 8, none⟩ (.int .u32 t108)).setCell ⟨g, 9, none⟩ (.bool true))) := ⟨(bbq3 HB.out)⟩
            (try clear HO0_17)
            (try clear BK0)
            (try clear BK50)
            (try clear HK)
            (try clear HB)
            generalize ((w57.setCell ⟨g, 8, none⟩ (.int .u32 t108)).setCell ⟨g, 9, none⟩ (.bool true)) = w60 at n0_ n1_ n2_ n3_ n4_ ⊢
            have HO0_17 := n0_
            have BK0 := n1_
            have BK50 := n2_
            have HK := n3_
            have HB := n4_
            clear n0_ n1_ n2_ n3_ n4_
            have hnb61 := NB0_50.out
            have hnc61 := NB50_0.out
            obtain ⟨hcz62_0, hcz62_1, hcz62_2, hcz62_3, hcz62_4, hcz62_5, hcz62_6, hcz62_7, hcz62_8, hcz62_9, hcz62_10, hcz62_11, hcz62_12, hcz62_13, hcz62_14, hcz62_15, hcz62_16, hcz62_17, hcz62_18, hcz62_19⟩ := bc20q3 BK0.out
            have hfz62_0 := fun i_ => blk_frozen BK0.out i_
            try go_wp2_with (first | ((with_reducible refine gate_callee (f := 30) rfl ?_); refine goesL_ (some 21) rfl rfl Try.func30 (by kernel_rfl) rfl #[.pointer (some ⟨gs0, 0, none⟩), .int .i64 a3] rfl (by (try simp only [List.map_toArray, List.map_cons, List.map_nil]); first | done | rfl | (simp only [List.length_drop, List.length_take]; rfl)) ?_; (with_reducible refine (history_History_Packet.calls gs0 s0_16 (fun k_ => some k_ = (u9000_ : Value).ownBlock) u9000_ l0_17 a3 t154 t155 t156 w0 _ ?side1 ?side2 ?side3 ?side4 A55.out).mono ?_); (case side1 => exact bpq3 BK50.out); (case side2 => exact GE50.out); (case side3 => repeat (first | (with_reducible first | exact HB.out | apply below_alloc | apply pw_below_drewN | apply below_drew1 | refine below_set ?_ GE0.out | refine below_set ?_ GE50.out) | exact HB.out)); (case side4 => exact Kd.R_tight rfl HO0_17.out); rintro e w63 ⟨v157, rfl, ho0, hi, hb, hkp⟩; refine ⟨_, rfl, ?_⟩; have n0_ := Aside0.mk (blk_kept (by exact bpq3 BK0.out) hkp (fun hs_ => Or.elim hs_ (fun hs_ => (fun e_ => (Kd.R_ne HO0_17.out BK0.out (by decide)) e_) hs_) (fun e_ => NB0_50.out e_))); have n1_ := Aside0.mk (hi); have n2_ := Aside0.mk (Kd.R_mono (ok' := fun k_ => (P0_17_ k_ ∨ w.heap.size ≤ k_)) ho0 (fun k_ hk_ => Or.elim hk_ (fun hs_ => (HO0_17.out.1 k_ (hs_).symm)) (fun hn_ => (.inr (Nat.le_trans (by first | exact HK.out.1 | exact (show Kept w _ (fun k_ => ((P0_17_ k_) ∨ k_ = g) ∨ k_ = gs0) from (kkq3 HK.out)).1) hn_))))); have n3_ := Aside0.mk (Kept.then_ (S := (fun k_ => ((P0_17_ k_) ∨ k_ = g) ∨ k_ = gs0)) ((kkq3 HK.out)) hkp (fun k_ hs_ => Or.elim hs_ (fun hs_ => (fun e_ => Or.imp_left (fun h_ => .inl (.inl (h_))) ((HO0_17.out.1 k_ e_.symm))) hs_) (fun e_ => .inl (.inr e_)))); have n4_ := Aside0.mk (hb); clear BK0; clear BK50; clear HK; clear HB; clear HO0_17; have BK0 := n0_; have BK50 := n1_; have HO158 := n2_; have HK := n3_; have HB := n4_; clear n0_ n1_ n2_ n3_ n4_; (try clear hb); (try clear hkp); (try clear ho0); obtain ⟨hcz64_0, hcz64_1, hcz64_2, hcz64_3, hcz64_4, hcz64_5, hcz64_6, hcz64_7, hcz64_8, hcz64_9, hcz64_10, hcz64_11, hcz64_12, hcz64_13, hcz64_14, hcz64_15, hcz64_16, hcz64_17, hcz64_18, hcz64_19⟩ := bc20q3 BK0.out; have hfz64_0 := fun i_ => blk_frozen BK0.out i_) | ((with_reducible refine gate_callee (f := 30) rfl ?_); refine goesL_ (some 26) rfl rfl Try.func30 (by kernel_rfl) rfl #[.pointer (some ⟨gs0, 0, none⟩), .int .i64 1] rfl (by (try simp only [List.map_toArray, List.map_cons, List.map_nil]); first | done | rfl | (simp only [List.length_drop, List.length_take]; rfl)) ?_; (with_reducible refine (history_History_Packet.calls gs0 t155 (fun k_ => some k_ = (v157 : Value).ownBlock) v157 t156 1 t159 t160 t161 w0 _ ?side1 ?side2 ?side3 ?side4 A56.out).mono ?_); (case side1 => exact bpq3 BK50.out); (case side2 => exact GE50.out); (case side3 => repeat (first | (with_reducible first | exact HB.out | apply below_alloc | apply pw_below_drewN | apply below_drew1 | refine below_set ?_ GE0.out | refine below_set ?_ GE50.out) | exact HB.out)); (case side4 => exact Kd.R_tight rfl HO158.out); rintro e w65 ⟨v162, rfl, ho0, hi, hb, hkp⟩; refine ⟨_, rfl, ?_⟩; have n0_ := Aside0.mk (blk_kept (by exact bpq3 BK0.out) hkp (fun hs_ => Or.elim hs_ (fun hs_ => (fun e_ => (Kd.R_ne HO158.out BK0.out (by decide)) e_) hs_) (fun e_ => NB0_50.out e_))); have n1_ := Aside0.mk (hi); have n2_ := Aside0.mk (Kd.R_mono (ok' := fun k_ => (P0_17_ k_ ∨ w.heap.size ≤ k_)) ho0 (fun k_ hk_ => Or.elim hk_ (fun hs_ => (HO158.out.1 k_ (hs_).symm)) (fun hn_ => (.inr (Nat.le_trans (by first | exact HK.out.1 | exact (show Kept w _ (fun k_ => ((P0_17_ k_) ∨ k_ = g) ∨ k_ = gs0) from (kkq3 HK.out)).1) hn_))))); have n3_ := Aside0.mk (Kept.then_ (S := (fun k_ => ((P0_17_ k_) ∨ k_ = g) ∨ k_ = gs0)) ((kkq3 HK.out)) hkp (fun k_ hs_ => Or.elim hs_ (fun hs_ => (fun e_ => Or.imp_left (fun h_ => .inl (.inl (h_))) ((HO158.out.1 k_ e_.symm))) hs_) (fun e_ => .inl (.inr e_)))); have n4_ := Aside0.mk (hb); clear BK0; clear BK50; clear HK; clear HB; clear HO158; have BK0 := n0_; have BK50 := n1_; have HO163 := n2_; have HK := n3_; have HB := n4_; clear n0_ n1_ n2_ n3_ n4_; (try clear hb); (try clear hkp); (try clear ho0)))
            first | go_end0 | ((try simp only [Exit.inBlock, Exit.then]); refine bodyPost_ret (results_none rfl _ _ _) rfl ?_)
            exact ⟨_, by first | rfl | (simp [errW_none, errW_some] <;> rfl) | (simp [*, errW_none, errW_some] <;> rfl), by (with_reducible repeat (first | apply Kd.R_alloc | apply Kd.R_drewN | apply Kd.R_drew)); exact HO163.out, (by exact bpq3 BK0.out), (by exact bpq3 BK50.out), (bbq3 HB.out), (kkq3 HK.out)⟩
          · rw [if_neg c54] at H
            have c54b0 : (a1 == 4) = false := beq_eq_false_iff_ne.mpr c54
            have c54b1 : (a1 != 4) = true := bne_iff_ne.mpr c54
            by_cases c66 : a1 = 5
            · rw [if_pos c66] at H
              have c66b0 : (a1 == 5) = true := beq_iff_eq.mpr c66
              have c66b1 : (a1 != 5) = false := bne_eq_false_iff_eq.mpr c66
              clear c66
              have hq164 : a1 = 5 := beq_iff_eq.mp (by assumption)
              have hua164 := Try.underlying52
              have hia164 : ∀ W : World, (Instr.indexAt 52 (.pointer (some ⟨g, 0, none⟩)) (.int .i64 a1)).run Try.prog W = .ok (.pointer (some ⟨g, 10, none⟩)) W := by intro W; rw [hq164]; first | (go_simp; done) | (go_simp; rfl) | rfl
              clear hq164
              replace H := Option.bind_eq_some_iff.mp H
              obtain ⟨⟨t165, t166, t167⟩, A670, H⟩ := H
              replace H : ((history_History_Packet.f t166 t167 1).bind fun bt170 => (some (s0_0, s0_1, s0_2, s0_3, s0_4, s0_5, s0_6, s0_7, s0_8, s0_9, t108, true, s0_12, s0_13, s0_14, s0_15, bt170.2.1, bt170.2.2, s0_18, s0_19, s0_20))) = some (r1, r2, r3, r4, r5, r6, r7, r8, r9, r10, r11, r12, r13, r14, r15, r16, r17, r18, r19, r20, r21) := H
              have A67 := Aside0.mk A670
              clear A670
              replace H := Option.bind_eq_some_iff.mp H
              obtain ⟨⟨t170, t171, t172⟩, A680, H⟩ := H
              replace H : (some (s0_0, s0_1, s0_2, s0_3, s0_4, s0_5, s0_6, s0_7, s0_8, s0_9, t108, true, s0_12, s0_13, s0_14, s0_15, t171, t172, s0_18, s0_19, s0_20)) = some (r1, r2, r3, r4, r5, r6, r7, r8, r9, r10, r11, r12, r13, r14, r15, r16, r17, r18, r19, r20, r21) := H
              have A68 := Aside0.mk A680
              clear A680
              simp only [Option.some.injEq, Prod.mk.injEq] at H
              obtain ⟨rfl, rfl, rfl, rfl, rfl, rfl, rfl, rfl, rfl, rfl, rfl, rfl, rfl, rfl, rfl, rfl, rfl, rfl, rfl, rfl, rfl⟩ := H
              go_enter Try.func22, Try.ntmps22
              try go_wp2
              have n0_ := Aside0.mk (Kd.R_drew HO0_17.out)
              have n1_ := Aside0.mk (blk_drew BK0.out)
              have n2_ := Aside0.mk (blk_drew BK50.out)
              have n3_ := Aside0.mk (Kept.drew HK.out)
              have n4_ := Aside0.mk (below_drew1 HB.out)
              clear HO0_17
              clear BK0
              clear BK50
              clear HK
              clear HB
              have HO0_17 := n0_
              have BK0 := n1_
              have BK50 := n2_
              have HK := n3_
              have HB := n4_
              clear n0_ n1_ n2_ n3_ n4_
              refine start_ (n := 9) (S := fun w' => True) (ds := []) #[false, false, false, false, false, false, false, false, false] (by kernel_rfl) rfl rfl trivial (fun hHeld => ?_); refine with_tabW detect_Detect_took.tab0 detect_Detect_took.bits0 (fun HT_ HW_ => ?_)
              generalize w.drew = w69 at HO0_17 BK0 BK50 HK HB hHeld ⊢
              refine pure_ (i := 0) (N := some 8) (v := ?_) (a' := ?_) #[true, false, false, false, false, false, false, false, false] rfl rfl (any_of HT_.out (by kernel_rfl)) (fun _ _ _ h => h) (Or.inl ⟨by rfl, ?_⟩) ?_ ?_
              rotate_left
              · intro w'
                go_simp
                with_reducible rfl
              rotate_left
              · simp only [Act.put, List.setIfInBounds_toArray, List.set_cons_zero, List.set_cons_succ, i64_w, i32_w]
                rfl
              refine pure_ (i := 1) (N := some 9) (v := ?_) (a' := ?_) #[true, true, false, false, false, false, false, false, false] rfl rfl (any_of HT_.out (by kernel_rfl)) (fun _ _ _ h => h) (Or.inl ⟨by rfl, ?_⟩) ?_ ?_
              rotate_left
              · intro w'
                go_simp
                with_reducible rfl
              rotate_left
              · simp only [Act.put, List.setIfInBounds_toArray, List.set_cons_zero, List.set_cons_succ, i64_w, i32_w]
                rfl
              refine pure_ (i := 2) (N := some 10) (v := ?_) (a' := ?_) #[true, true, true, false, false, false, false, false, false] rfl rfl (any_of HT_.out (by kernel_rfl)) (fun _ _ _ h => h) (Or.inl ⟨by rfl, ?_⟩) ?_ ?_
              rotate_left
              · intro w'
                go_simp
                with_reducible rfl
              rotate_left
              · simp only [Act.put, List.setIfInBounds_toArray, List.set_cons_zero, List.set_cons_succ, i64_w, i32_w]
                rfl
              refine pure_ (i := 5) (N := some 13) (v := ?_) (a' := ?_) #[true, true, true, false, false, true, false, false, false] rfl rfl (any_of HT_.out (by kernel_rfl)) (fun _ _ _ h => h) (Or.inl ⟨by rfl, ?_⟩) ?_ ?_
              rotate_left
              · intro w'
                go_simp
                with_reducible rfl
              rotate_left
              · simp only [Act.put, List.setIfInBounds_toArray, List.set_cons_zero, List.set_cons_succ, i64_w, i32_w]
                rfl
              refine pure_ (i := 6) (N := some 14) (v := ?_) (a' := ?_) #[true, true, true, false, false, true, true, false, false] rfl rfl (any_of HT_.out (by kernel_rfl)) (fun _ _ _ h => h) (Or.inl ⟨by rfl, ?_⟩) ?_ ?_
              rotate_left
              · intro w'
                go_simp
                with_reducible rfl
              rotate_left
              · simp only [Act.put, List.setIfInBounds_toArray, List.set_cons_zero, List.set_cons_succ, i64_w, i32_w]
                rfl
              refine one_ (i := 3) (N := some 11) #[true, true, true, true, false, true, true, false, false] rfl rfl (one_of HT_.out (by kernel_rfl)) (by decide) (fun K hK => ?_)
              refine goes_ Try.func29 (by kernel_rfl) rfl #[.int .u32 a2, .int .i64 1] (by rfl) rfl rfl (by (try simp only [List.map_toArray, List.map_cons, List.map_nil]); first | done | rfl | (simp only [List.length_drop, List.length_take]; rfl)) ?_
              with_reducible refine (serial_Next.calls a2 1 t108 _ A5.out).mono ?_
              rintro e w' ⟨rfl, ⟨nd, rfl⟩⟩
              refine ⟨_, rfl, ?_⟩
              (try (rw [drewN_self w69]; generalize hq_ : World.drewN w69 _ = w69; have n0_ : Aside0 (Kd.R (Kd.int .i64) 3 w69 w0.heap.size (fun k_ => (P0_17_ k_ ∨ w.heap.size ≤ k_)) u9000_ l0_17) := ⟨by rw [← hq_]; exact (by (with_reducible repeat (first | apply Kd.R_alloc | apply Kd.R_drewN | apply Kd.R_drew)); exact HO0_17.out)⟩; have n1_ : Aside0 (w69.heap[g]? = some (.cells #[.int .u32 s0_0, .bool s0_1, .int .u32 s0_2, .bool s0_3, .int .u32 s0_4, .bool s0_5, .int .u32 s0_6, .bool s0_7, .int .u32 s0_8, .bool s0_9, .int .u32 s0_10, .bool s0_11, .int .u32 s0_12, .bool s0_13, .int .u32 s0_14, .bool s0_15, .pointer (some ⟨gs0, 0, none⟩), .int .i64 s0_18, .int .i64 s0_19, .bool s0_20] 54 (0, 0))) := ⟨by rw [← hq_]; exact (by exact bpq3 BK0.out)⟩; have n2_ : Aside0 (w69.heap[gs0]? = some (.cells #[.int .i64 s0_16, u9000_] 68 (0, 0))) := ⟨by rw [← hq_]; exact (by exact bpq3 BK50.out)⟩; have n3_ : Aside0 (Kept w w69 (fun k_ => ((P0_17_ k_) ∨ k_ = g) ∨ k_ = gs0)) := ⟨by rw [← hq_]; exact ((kkq3 HK.out))⟩; have n4_ : Aside0 (Below w0.heap.size w0 w69) := ⟨by rw [← hq_]; exact ((bbq3 HB.out))⟩; clear HO0_17 BK0 BK50 HK HB hq_; have HO0_17 := n0_; have BK0 := n1_; have BK50 := n2_; have HK := n3_; have HB := n4_; clear n0_ n1_ n2_ n3_ n4_))
              refine hK.out _ _ trivial (fun hHeld => ?_)
              clear hK K
              refine norm_ (a' := ?_) ?_ ?_
              rotate_left
              · show Act.put _ (some 11) _ = _
                simp only [Act.put, List.setIfInBounds_toArray, List.set_cons_zero, List.set_cons_succ, i64_w, i32_w]
                rfl
              refine pure_ (i := 4) (N := some 12) (v := ?_) (a' := ?_) #[true, true, true, true, true, true, true, false, false] rfl rfl (any_of HT_.out (by kernel_rfl)) (fun _ _ _ h => h) (Or.inl ⟨by rfl, ?_⟩) ?_ ?_
              rotate_left
              · intro w'
                go_simp
                with_reducible rfl
              rotate_left
              · simp only [Act.put, List.setIfInBounds_toArray, List.set_cons_zero, List.set_cons_succ, i64_w, i32_w]
                rfl
              refine pure_ (i := 7) (N := some 15) (v := ?_) (a' := ?_) #[true, true, true, true, true, true, true, true, false] rfl rfl (any_of HT_.out (by kernel_rfl)) (fun _ _ _ h => h) (Or.inl ⟨by rfl, ?_⟩) ?_ ?_
              rotate_left
              · intro w'
                go_simp
                with_reducible rfl
              rotate_left
              · simp only [Act.put, List.setIfInBounds_toArray, List.set_cons_zero, List.set_cons_succ, i64_w, i32_w]
                rfl
              refine one_ (i := 8) (N := none) #[true, true, true, true, true, true, true, true, true] rfl rfl (one_of HT_.out (by kernel_rfl)) (by decide) (fun K hK => ?_)
              have hs70 : w69.cell? ⟨g, 10, none⟩ = some (.int .u32 s0_10) := (blk_cell BK0.out 10).trans rfl
              have hfs70 := blk_frozen BK0.out 10
              have hns70_1 := NB50_0.out
              have hms70_1 := NB0_50.out
              have hs71 : w69.cell? ⟨g, 11, none⟩ = some (.bool s0_11) := (blk_cell BK0.out 11).trans rfl
              have hfs71 := blk_frozen BK0.out 11
              refine skip_ (w1 := ?_) (by rfl) rfl ?_ ?_
              rotate_left
              · go_simp
                rfl
              refine hK.out _ _ trivial (fun hHeld => ?_)
              clear hK K
              refine done_ (done_of HT_.out (by kernel_rfl)) ?_
              have n0_ : Aside0 (Kd.R (Kd.int .i64) 3 ((w69.setCell ⟨g, 10, none⟩ (.int .u32 t108)).setCell ⟨g, 11, none⟩ (.bool true)) w0.heap.size (fun k_ => (P0_17_ k_ ∨ w.heap.size ≤ k_)) u9000_ l0_17) := ⟨by (with_reducible repeat (first | apply Kd.R_alloc | apply Kd.R_drewN | apply Kd.R_drew)); exact Kd.R_mono (Kd.R_far (Kd.R_far (Kd.R_types HO0_17.out BK0.out (by decide)) (fun _ hk => hk.2) _) (fun _ hk => hk.2) _) (fun _ hk => hk.1)⟩
              have n1_ : Aside0 (((w69.setCell ⟨g, 10, none⟩ (.int .u32 t108)).setCell ⟨g, 11, none⟩ (.bool true)).heap[g]? = some (.cells #[.int .u32 s0_0, .bool s0_1, .int .u32 s0_2, .bool s0_3, .int .u32 s0_4, .bool s0_5, .int .u32 s0_6, .bool s0_7, .int .u32 s0_8, .bool s0_9, .int .u32 t108, .bool true, .int .u32 s0_12, .bool s0_13, .int .u32 s0_14, .bool s0_15, .pointer (some ⟨gs0, 0, none⟩), .int .i64 s0_18, .int .i64 s0_19, .bool s0_20] 54 (0, 0))) := ⟨by refine bzq3 ?_; refine btq3 (i := 11) ?_; refine btq3 (i := 10) ?_; exact ⟨_, bpq3 BK0.out, rfl⟩⟩
              have n2_ : Aside0 (((w69.setCell ⟨g, 10, none⟩ (.int .u32 t108)).setCell ⟨g, 11, none⟩ (.bool true)).heap[gs0]? = some (.cells #[.int .i64 s0_16, u9000_] 68 (0, 0))) := ⟨by refine bfq3 NB50_0.out ?_; refine bfq3 NB50_0.out ?_; exact bpq3 BK50.out⟩
              have n3_ : Aside0 (Kept w ((w69.setCell ⟨g, 10, none⟩ (.int .u32 t108)).setCell ⟨g, 11, none⟩ (.bool true)) (fun k_ => ((P0_17_ k_) ∨ k_ = g) ∨ k_ = gs0)) := ⟨(kkq3 HK.out)⟩
              have n4_ : Aside0 (Below w0.heap.size w0 ((w69.setCell ⟨g, 10, none⟩ (.int .u32 t108)).setCell ⟨g, 11, none⟩ (.bool true))) := ⟨(bbq3 HB.out)⟩
              (try clear HO0_17)
              (try clear BK0)
              (try clear BK50)
              (try clear HK)
              (try clear HB)
              generalize ((w69.setCell ⟨g, 10, none⟩ (.int .u32 t108)).setCell ⟨g, 11, none⟩ (.bool true)) = w72 at n0_ n1_ n2_ n3_ n4_ ⊢
              have HO0_17 := n0_
              have BK0 := n1_
              have BK50 := n2_
              have HK := n3_
              have HB := n4_
              clear n0_ n1_ n2_ n3_ n4_
              have hnb73 := NB0_50.out
              have hnc73 := NB50_0.out
              obtain ⟨hcz74_0, hcz74_1, hcz74_2, hcz74_3, hcz74_4, hcz74_5, hcz74_6, hcz74_7, hcz74_8, hcz74_9, hcz74_10, hcz74_11, hcz74_12, hcz74_13, hcz74_14, hcz74_15, hcz74_16, hcz74_17, hcz74_18, hcz74_19⟩ := bc20q3 BK0.out
              have hfz74_0 := fun i_ => blk_frozen BK0.out i_
              try go_wp2_with (first | ((with_reducible refine gate_callee (f := 30) rfl ?_); refine goesL_ (some 21) rfl rfl Try.func30 (by kernel_rfl) rfl #[.pointer (some ⟨gs0, 0, none⟩), .int .i64 a3] rfl (by (try simp only [List.map_toArray, List.map_cons, List.map_nil]); first | done | rfl | (simp only [List.length_drop, List.length_take]; rfl)) ?_; (with_reducible refine (history_History_Packet.calls gs0 s0_16 (fun k_ => some k_ = (u9000_ : Value).ownBlock) u9000_ l0_17 a3 t165 t166 t167 w0 _ ?side1 ?side2 ?side3 ?side4 A67.out).mono ?_); (case side1 => exact bpq3 BK50.out); (case side2 => exact GE50.out); (case side3 => repeat (first | (with_reducible first | exact HB.out | apply below_alloc | apply pw_below_drewN | apply below_drew1 | refine below_set ?_ GE0.out | refine below_set ?_ GE50.out) | exact HB.out)); (case side4 => exact Kd.R_tight rfl HO0_17.out); rintro e w75 ⟨v168, rfl, ho0, hi, hb, hkp⟩; refine ⟨_, rfl, ?_⟩; have n0_ := Aside0.mk (blk_kept (by exact bpq3 BK0.out) hkp (fun hs_ => Or.elim hs_ (fun hs_ => (fun e_ => (Kd.R_ne HO0_17.out BK0.out (by decide)) e_) hs_) (fun e_ => NB0_50.out e_))); have n1_ := Aside0.mk (hi); have n2_ := Aside0.mk (Kd.R_mono (ok' := fun k_ => (P0_17_ k_ ∨ w.heap.size ≤ k_)) ho0 (fun k_ hk_ => Or.elim hk_ (fun hs_ => (HO0_17.out.1 k_ (hs_).symm)) (fun hn_ => (.inr (Nat.le_trans (by first | exact HK.out.1 | exact (show Kept w _ (fun k_ => ((P0_17_ k_) ∨ k_ = g) ∨ k_ = gs0) from (kkq3 HK.out)).1) hn_))))); have n3_ := Aside0.mk (Kept.then_ (S := (fun k_ => ((P0_17_ k_) ∨ k_ = g) ∨ k_ = gs0)) ((kkq3 HK.out)) hkp (fun k_ hs_ => Or.elim hs_ (fun hs_ => (fun e_ => Or.imp_left (fun h_ => .inl (.inl (h_))) ((HO0_17.out.1 k_ e_.symm))) hs_) (fun e_ => .inl (.inr e_)))); have n4_ := Aside0.mk (hb); clear BK0; clear BK50; clear HK; clear HB; clear HO0_17; have BK0 := n0_; have BK50 := n1_; have HO169 := n2_; have HK := n3_; have HB := n4_; clear n0_ n1_ n2_ n3_ n4_; (try clear hb); (try clear hkp); (try clear ho0); obtain ⟨hcz76_0, hcz76_1, hcz76_2, hcz76_3, hcz76_4, hcz76_5, hcz76_6, hcz76_7, hcz76_8, hcz76_9, hcz76_10, hcz76_11, hcz76_12, hcz76_13, hcz76_14, hcz76_15, hcz76_16, hcz76_17, hcz76_18, hcz76_19⟩ := bc20q3 BK0.out; have hfz76_0 := fun i_ => blk_frozen BK0.out i_) | ((with_reducible refine gate_callee (f := 30) rfl ?_); refine goesL_ (some 26) rfl rfl Try.func30 (by kernel_rfl) rfl #[.pointer (some ⟨gs0, 0, none⟩), .int .i64 1] rfl (by (try simp only [List.map_toArray, List.map_cons, List.map_nil]); first | done | rfl | (simp only [List.length_drop, List.length_take]; rfl)) ?_; (with_reducible refine (history_History_Packet.calls gs0 t166 (fun k_ => some k_ = (v168 : Value).ownBlock) v168 t167 1 t170 t171 t172 w0 _ ?side1 ?side2 ?side3 ?side4 A68.out).mono ?_); (case side1 => exact bpq3 BK50.out); (case side2 => exact GE50.out); (case side3 => repeat (first | (with_reducible first | exact HB.out | apply below_alloc | apply pw_below_drewN | apply below_drew1 | refine below_set ?_ GE0.out | refine below_set ?_ GE50.out) | exact HB.out)); (case side4 => exact Kd.R_tight rfl HO169.out); rintro e w77 ⟨v173, rfl, ho0, hi, hb, hkp⟩; refine ⟨_, rfl, ?_⟩; have n0_ := Aside0.mk (blk_kept (by exact bpq3 BK0.out) hkp (fun hs_ => Or.elim hs_ (fun hs_ => (fun e_ => (Kd.R_ne HO169.out BK0.out (by decide)) e_) hs_) (fun e_ => NB0_50.out e_))); have n1_ := Aside0.mk (hi); have n2_ := Aside0.mk (Kd.R_mono (ok' := fun k_ => (P0_17_ k_ ∨ w.heap.size ≤ k_)) ho0 (fun k_ hk_ => Or.elim hk_ (fun hs_ => (HO169.out.1 k_ (hs_).symm)) (fun hn_ => (.inr (Nat.le_trans (by first | exact HK.out.1 | exact (show Kept w _ (fun k_ => ((P0_17_ k_) ∨ k_ = g) ∨ k_ = gs0) from (kkq3 HK.out)).1) hn_))))); have n3_ := Aside0.mk (Kept.then_ (S := (fun k_ => ((P0_17_ k_) ∨ k_ = g) ∨ k_ = gs0)) ((kkq3 HK.out)) hkp (fun k_ hs_ => Or.elim hs_ (fun hs_ => (fun e_ => Or.imp_left (fun h_ => .inl (.inl (h_))) ((HO169.out.1 k_ e_.symm))) hs_) (fun e_ => .inl (.inr e_)))); have n4_ := Aside0.mk (hb); clear BK0; clear BK50; clear HK; clear HB; clear HO169; have BK0 := n0_; have BK50 := n1_; have HO174 := n2_; have HK := n3_; have HB := n4_; clear n0_ n1_ n2_ n3_ n4_; (try clear hb); (try clear hkp); (try clear ho0)))
              first | go_end0 | ((try simp only [Exit.inBlock, Exit.then]); refine bodyPost_ret (results_none rfl _ _ _) rfl ?_)
              exact ⟨_, by first | rfl | (simp [errW_none, errW_some] <;> rfl) | (simp [*, errW_none, errW_some] <;> rfl), by (with_reducible repeat (first | apply Kd.R_alloc | apply Kd.R_drewN | apply Kd.R_drew)); exact HO174.out, (by exact bpq3 BK0.out), (by exact bpq3 BK50.out), (bbq3 HB.out), (kkq3 HK.out)⟩
            · rw [if_neg c66] at H
              have c66b0 : (a1 == 5) = false := beq_eq_false_iff_ne.mpr c66
              have c66b1 : (a1 != 5) = true := bne_iff_ne.mpr c66
              by_cases c78 : a1 = 6
              · rw [if_pos c78] at H
                have c78b0 : (a1 == 6) = true := beq_iff_eq.mpr c78
                have c78b1 : (a1 != 6) = false := bne_eq_false_iff_eq.mpr c78
                clear c78
                have hq175 : a1 = 6 := beq_iff_eq.mp (by assumption)
                have hua175 := Try.underlying52
                have hia175 : ∀ W : World, (Instr.indexAt 52 (.pointer (some ⟨g, 0, none⟩)) (.int .i64 a1)).run Try.prog W = .ok (.pointer (some ⟨g, 12, none⟩)) W := by intro W; rw [hq175]; first | (go_simp; done) | (go_simp; rfl) | rfl
                clear hq175
                replace H := Option.bind_eq_some_iff.mp H
                obtain ⟨⟨t176, t177, t178⟩, A790, H⟩ := H
                replace H : ((history_History_Packet.f t177 t178 1).bind fun bt181 => (some (s0_0, s0_1, s0_2, s0_3, s0_4, s0_5, s0_6, s0_7, s0_8, s0_9, s0_10, s0_11, t108, true, s0_14, s0_15, bt181.2.1, bt181.2.2, s0_18, s0_19, s0_20))) = some (r1, r2, r3, r4, r5, r6, r7, r8, r9, r10, r11, r12, r13, r14, r15, r16, r17, r18, r19, r20, r21) := H
                have A79 := Aside0.mk A790
                clear A790
                replace H := Option.bind_eq_some_iff.mp H
                obtain ⟨⟨t181, t182, t183⟩, A800, H⟩ := H
                replace H : (some (s0_0, s0_1, s0_2, s0_3, s0_4, s0_5, s0_6, s0_7, s0_8, s0_9, s0_10, s0_11, t108, true, s0_14, s0_15, t182, t183, s0_18, s0_19, s0_20)) = some (r1, r2, r3, r4, r5, r6, r7, r8, r9, r10, r11, r12, r13, r14, r15, r16, r17, r18, r19, r20, r21) := H
                have A80 := Aside0.mk A800
                clear A800
                simp only [Option.some.injEq, Prod.mk.injEq] at H
                obtain ⟨rfl, rfl, rfl, rfl, rfl, rfl, rfl, rfl, rfl, rfl, rfl, rfl, rfl, rfl, rfl, rfl, rfl, rfl, rfl, rfl, rfl⟩ := H
                go_enter Try.func22, Try.ntmps22
                try go_wp2
                have n0_ := Aside0.mk (Kd.R_drew HO0_17.out)
                have n1_ := Aside0.mk (blk_drew BK0.out)
                have n2_ := Aside0.mk (blk_drew BK50.out)
                have n3_ := Aside0.mk (Kept.drew HK.out)
                have n4_ := Aside0.mk (below_drew1 HB.out)
                clear HO0_17
                clear BK0
                clear BK50
                clear HK
                clear HB
                have HO0_17 := n0_
                have BK0 := n1_
                have BK50 := n2_
                have HK := n3_
                have HB := n4_
                clear n0_ n1_ n2_ n3_ n4_
                refine start_ (n := 9) (S := fun w' => True) (ds := []) #[false, false, false, false, false, false, false, false, false] (by kernel_rfl) rfl rfl trivial (fun hHeld => ?_); refine with_tabW detect_Detect_took.tab0 detect_Detect_took.bits0 (fun HT_ HW_ => ?_)
                generalize w.drew = w81 at HO0_17 BK0 BK50 HK HB hHeld ⊢
                refine pure_ (i := 0) (N := some 8) (v := ?_) (a' := ?_) #[true, false, false, false, false, false, false, false, false] rfl rfl (any_of HT_.out (by kernel_rfl)) (fun _ _ _ h => h) (Or.inl ⟨by rfl, ?_⟩) ?_ ?_
                rotate_left
                · intro w'
                  go_simp
                  with_reducible rfl
                rotate_left
                · simp only [Act.put, List.setIfInBounds_toArray, List.set_cons_zero, List.set_cons_succ, i64_w, i32_w]
                  rfl
                refine pure_ (i := 1) (N := some 9) (v := ?_) (a' := ?_) #[true, true, false, false, false, false, false, false, false] rfl rfl (any_of HT_.out (by kernel_rfl)) (fun _ _ _ h => h) (Or.inl ⟨by rfl, ?_⟩) ?_ ?_
                rotate_left
                · intro w'
                  go_simp
                  with_reducible rfl
                rotate_left
                · simp only [Act.put, List.setIfInBounds_toArray, List.set_cons_zero, List.set_cons_succ, i64_w, i32_w]
                  rfl
                refine pure_ (i := 2) (N := some 10) (v := ?_) (a' := ?_) #[true, true, true, false, false, false, false, false, false] rfl rfl (any_of HT_.out (by kernel_rfl)) (fun _ _ _ h => h) (Or.inl ⟨by rfl, ?_⟩) ?_ ?_
                rotate_left
                · intro w'
                  go_simp
                  with_reducible rfl
                rotate_left
                · simp only [Act.put, List.setIfInBounds_toArray, List.set_cons_zero, List.set_cons_succ, i64_w, i32_w]
                  rfl
                refine pure_ (i := 5) (N := some 13) (v := ?_) (a' := ?_) #[true, true, true, false, false, true, false, false, false] rfl rfl (any_of HT_.out (by kernel_rfl)) (fun _ _ _ h => h) (Or.inl ⟨by rfl, ?_⟩) ?_ ?_
                rotate_left
                · intro w'
                  go_simp
                  with_reducible rfl
                rotate_left
                · simp only [Act.put, List.setIfInBounds_toArray, List.set_cons_zero, List.set_cons_succ, i64_w, i32_w]
                  rfl
                refine pure_ (i := 6) (N := some 14) (v := ?_) (a' := ?_) #[true, true, true, false, false, true, true, false, false] rfl rfl (any_of HT_.out (by kernel_rfl)) (fun _ _ _ h => h) (Or.inl ⟨by rfl, ?_⟩) ?_ ?_
                rotate_left
                · intro w'
                  go_simp
                  with_reducible rfl
                rotate_left
                · simp only [Act.put, List.setIfInBounds_toArray, List.set_cons_zero, List.set_cons_succ, i64_w, i32_w]
                  rfl
                refine one_ (i := 3) (N := some 11) #[true, true, true, true, false, true, true, false, false] rfl rfl (one_of HT_.out (by kernel_rfl)) (by decide) (fun K hK => ?_)
                refine goes_ Try.func29 (by kernel_rfl) rfl #[.int .u32 a2, .int .i64 1] (by rfl) rfl rfl (by (try simp only [List.map_toArray, List.map_cons, List.map_nil]); first | done | rfl | (simp only [List.length_drop, List.length_take]; rfl)) ?_
                with_reducible refine (serial_Next.calls a2 1 t108 _ A5.out).mono ?_
                rintro e w' ⟨rfl, ⟨nd, rfl⟩⟩
                refine ⟨_, rfl, ?_⟩
                (try (rw [drewN_self w81]; generalize hq_ : World.drewN w81 _ = w81; have n0_ : Aside0 (Kd.R (Kd.int .i64) 3 w81 w0.heap.size (fun k_ => (P0_17_ k_ ∨ w.heap.size ≤ k_)) u9000_ l0_17) := ⟨by rw [← hq_]; exact (by (with_reducible repeat (first | apply Kd.R_alloc | apply Kd.R_drewN | apply Kd.R_drew)); exact HO0_17.out)⟩; have n1_ : Aside0 (w81.heap[g]? = some (.cells #[.int .u32 s0_0, .bool s0_1, .int .u32 s0_2, .bool s0_3, .int .u32 s0_4, .bool s0_5, .int .u32 s0_6, .bool s0_7, .int .u32 s0_8, .bool s0_9, .int .u32 s0_10, .bool s0_11, .int .u32 s0_12, .bool s0_13, .int .u32 s0_14, .bool s0_15, .pointer (some ⟨gs0, 0, none⟩), .int .i64 s0_18, .int .i64 s0_19, .bool s0_20] 54 (0, 0))) := ⟨by rw [← hq_]; exact (by exact bpq3 BK0.out)⟩; have n2_ : Aside0 (w81.heap[gs0]? = some (.cells #[.int .i64 s0_16, u9000_] 68 (0, 0))) := ⟨by rw [← hq_]; exact (by exact bpq3 BK50.out)⟩; have n3_ : Aside0 (Kept w w81 (fun k_ => ((P0_17_ k_) ∨ k_ = g) ∨ k_ = gs0)) := ⟨by rw [← hq_]; exact ((kkq3 HK.out))⟩; have n4_ : Aside0 (Below w0.heap.size w0 w81) := ⟨by rw [← hq_]; exact ((bbq3 HB.out))⟩; clear HO0_17 BK0 BK50 HK HB hq_; have HO0_17 := n0_; have BK0 := n1_; have BK50 := n2_; have HK := n3_; have HB := n4_; clear n0_ n1_ n2_ n3_ n4_))
                refine hK.out _ _ trivial (fun hHeld => ?_)
                clear hK K
                refine norm_ (a' := ?_) ?_ ?_
                rotate_left
                · show Act.put _ (some 11) _ = _
                  simp only [Act.put, List.setIfInBounds_toArray, List.set_cons_zero, List.set_cons_succ, i64_w, i32_w]
                  rfl
                refine pure_ (i := 4) (N := some 12) (v := ?_) (a' := ?_) #[true, true, true, true, true, true, true, false, false] rfl rfl (any_of HT_.out (by kernel_rfl)) (fun _ _ _ h => h) (Or.inl ⟨by rfl, ?_⟩) ?_ ?_
                rotate_left
                · intro w'
                  go_simp
                  with_reducible rfl
                rotate_left
                · simp only [Act.put, List.setIfInBounds_toArray, List.set_cons_zero, List.set_cons_succ, i64_w, i32_w]
                  rfl
                refine pure_ (i := 7) (N := some 15) (v := ?_) (a' := ?_) #[true, true, true, true, true, true, true, true, false] rfl rfl (any_of HT_.out (by kernel_rfl)) (fun _ _ _ h => h) (Or.inl ⟨by rfl, ?_⟩) ?_ ?_
                rotate_left
                · intro w'
                  go_simp
                  with_reducible rfl
                rotate_left
                · simp only [Act.put, List.setIfInBounds_toArray, List.set_cons_zero, List.set_cons_succ, i64_w, i32_w]
                  rfl
                refine one_ (i := 8) (N := none) #[true, true, true, true, true, true, true, true, true] rfl rfl (one_of HT_.out (by kernel_rfl)) (by decide) (fun K hK => ?_)
                have hs82 : w81.cell? ⟨g, 12, none⟩ = some (.int .u32 s0_12) := (blk_cell BK0.out 12).trans rfl
                have hfs82 := blk_frozen BK0.out 12
                have hns82_1 := NB50_0.out
                have hms82_1 := NB0_50.out
                have hs83 : w81.cell? ⟨g, 13, none⟩ = some (.bool s0_13) := (blk_cell BK0.out 13).trans rfl
                have hfs83 := blk_frozen BK0.out 13
                refine skip_ (w1 := ?_) (by rfl) rfl ?_ ?_
                rotate_left
                · go_simp
                  rfl
                refine hK.out _ _ trivial (fun hHeld => ?_)
                clear hK K
                refine done_ (done_of HT_.out (by kernel_rfl)) ?_
                have n0_ : Aside0 (Kd.R (Kd.int .i64) 3 ((w81.setCell ⟨g, 12, none⟩ (.int .u32 t108)).setCell ⟨g, 13, none⟩ (.bool true)) w0.heap.size (fun k_ => (P0_17_ k_ ∨ w.heap.size ≤ k_)) u9000_ l0_17) := ⟨by (with_reducible repeat (first | apply Kd.R_alloc | apply Kd.R_drewN | apply Kd.R_drew)); exact Kd.R_mono (Kd.R_far (Kd.R_far (Kd.R_types HO0_17.out BK0.out (by decide)) (fun _ hk => hk.2) _) (fun _ hk => hk.2) _) (fun _ hk => hk.1)⟩
                have n1_ : Aside0 (((w81.setCell ⟨g, 12, none⟩ (.int .u32 t108)).setCell ⟨g, 13, none⟩ (.bool true)).heap[g]? = some (.cells #[.int .u32 s0_0, .bool s0_1, .int .u32 s0_2, .bool s0_3, .int .u32 s0_4, .bool s0_5, .int .u32 s0_6, .bool s0_7, .int .u32 s0_8, .bool s0_9, .int .u32 s0_10, .bool s0_11, .int .u32 t108, .bool true, .int .u32 s0_14, .bool s0_15, .pointer (some ⟨gs0, 0, none⟩), .int .i64 s0_18, .int .i64 s0_19, .bool s0_20] 54 (0, 0))) := ⟨by refine bzq3 ?_; refine btq3 (i := 13) ?_; refine btq3 (i := 12) ?_; exact ⟨_, bpq3 BK0.out, rfl⟩⟩
                have n2_ : Aside0 (((w81.setCell ⟨g, 12, none⟩ (.int .u32 t108)).setCell ⟨g, 13, none⟩ (.bool true)).heap[gs0]? = some (.cells #[.int .i64 s0_16, u9000_] 68 (0, 0))) := ⟨by refine bfq3 NB50_0.out ?_; refine bfq3 NB50_0.out ?_; exact bpq3 BK50.out⟩
                have n3_ : Aside0 (Kept w ((w81.setCell ⟨g, 12, none⟩ (.int .u32 t108)).setCell ⟨g, 13, none⟩ (.bool true)) (fun k_ => ((P0_17_ k_) ∨ k_ = g) ∨ k_ = gs0)) := ⟨(kkq3 HK.out)⟩
                have n4_ : Aside0 (Below w0.heap.size w0 ((w81.setCell ⟨g, 12, none⟩ (.int .u32 t108)).setCell ⟨g, 13, none⟩ (.bool true))) := ⟨(bbq3 HB.out)⟩
                (try clear HO0_17)
                (try clear BK0)
                (try clear BK50)
                (try clear HK)
                (try clear HB)
                generalize ((w81.setCell ⟨g, 12, none⟩ (.int .u32 t108)).setCell ⟨g, 13, none⟩ (.bool true)) = w84 at n0_ n1_ n2_ n3_ n4_ ⊢
                have HO0_17 := n0_
                have BK0 := n1_
                have BK50 := n2_
                have HK := n3_
                have HB := n4_
                clear n0_ n1_ n2_ n3_ n4_
                have hnb85 := NB0_50.out
                have hnc85 := NB50_0.out
                obtain ⟨hcz86_0, hcz86_1, hcz86_2, hcz86_3, hcz86_4, hcz86_5, hcz86_6, hcz86_7, hcz86_8, hcz86_9, hcz86_10, hcz86_11, hcz86_12, hcz86_13, hcz86_14, hcz86_15, hcz86_16, hcz86_17, hcz86_18, hcz86_19⟩ := bc20q3 BK0.out
                have hfz86_0 := fun i_ => blk_frozen BK0.out i_
                try go_wp2_with (first | ((with_reducible refine gate_callee (f := 30) rfl ?_); refine goesL_ (some 21) rfl rfl Try.func30 (by kernel_rfl) rfl #[.pointer (some ⟨gs0, 0, none⟩), .int .i64 a3] rfl (by (try simp only [List.map_toArray, List.map_cons, List.map_nil]); first | done | rfl | (simp only [List.length_drop, List.length_take]; rfl)) ?_; (with_reducible refine (history_History_Packet.calls gs0 s0_16 (fun k_ => some k_ = (u9000_ : Value).ownBlock) u9000_ l0_17 a3 t176 t177 t178 w0 _ ?side1 ?side2 ?side3 ?side4 A79.out).mono ?_); (case side1 => exact bpq3 BK50.out); (case side2 => exact GE50.out); (case side3 => repeat (first | (with_reducible first | exact HB.out | apply below_alloc | apply pw_below_drewN | apply below_drew1 | refine below_set ?_ GE0.out | refine below_set ?_ GE50.out) | exact HB.out)); (case side4 => exact Kd.R_tight rfl HO0_17.out); rintro e w87 ⟨v179, rfl, ho0, hi, hb, hkp⟩; refine ⟨_, rfl, ?_⟩; have n0_ := Aside0.mk (blk_kept (by exact bpq3 BK0.out) hkp (fun hs_ => Or.elim hs_ (fun hs_ => (fun e_ => (Kd.R_ne HO0_17.out BK0.out (by decide)) e_) hs_) (fun e_ => NB0_50.out e_))); have n1_ := Aside0.mk (hi); have n2_ := Aside0.mk (Kd.R_mono (ok' := fun k_ => (P0_17_ k_ ∨ w.heap.size ≤ k_)) ho0 (fun k_ hk_ => Or.elim hk_ (fun hs_ => (HO0_17.out.1 k_ (hs_).symm)) (fun hn_ => (.inr (Nat.le_trans (by first | exact HK.out.1 | exact (show Kept w _ (fun k_ => ((P0_17_ k_) ∨ k_ = g) ∨ k_ = gs0) from (kkq3 HK.out)).1) hn_))))); have n3_ := Aside0.mk (Kept.then_ (S := (fun k_ => ((P0_17_ k_) ∨ k_ = g) ∨ k_ = gs0)) ((kkq3 HK.out)) hkp (fun k_ hs_ => Or.elim hs_ (fun hs_ => (fun e_ => Or.imp_left (fun h_ => .inl (.inl (h_))) ((HO0_17.out.1 k_ e_.symm))) hs_) (fun e_ => .inl (.inr e_)))); have n4_ := Aside0.mk (hb); clear BK0; clear BK50; clear HK; clear HB; clear HO0_17; have BK0 := n0_; have BK50 := n1_; have HO180 := n2_; have HK := n3_; have HB := n4_; clear n0_ n1_ n2_ n3_ n4_; (try clear hb); (try clear hkp); (try clear ho0); obtain ⟨hcz88_0, hcz88_1, hcz88_2, hcz88_3, hcz88_4, hcz88_5, hcz88_6, hcz88_7, hcz88_8, hcz88_9, hcz88_10, hcz88_11, hcz88_12, hcz88_13, hcz88_14, hcz88_15, hcz88_16, hcz88_17, hcz88_18, hcz88_19⟩ := bc20q3 BK0.out; have hfz88_0 := fun i_ => blk_frozen BK0.out i_) | ((with_reducible refine gate_callee (f := 30) rfl ?_); refine goesL_ (some 26) rfl rfl Try.func30 (by kernel_rfl) rfl #[.pointer (some ⟨gs0, 0, none⟩), .int .i64 1] rfl (by (try simp only [List.map_toArray, List.map_cons, List.map_nil]); first | done | rfl | (simp only [List.length_drop, List.length_take]; rfl)) ?_; (with_reducible refine (history_History_Packet.calls gs0 t177 (fun k_ => some k_ = (v179 : Value).ownBlock) v179 t178 1 t181 t182 t183 w0 _ ?side1 ?side2 ?side3 ?side4 A80.out).mono ?_); (case side1 => exact bpq3 BK50.out); (case side2 => exact GE50.out); (case side3 => repeat (first | (with_reducible first | exact HB.out | apply below_alloc | apply pw_below_drewN | apply below_drew1 | refine below_set ?_ GE0.out | refine below_set ?_ GE50.out) | exact HB.out)); (case side4 => exact Kd.R_tight rfl HO180.out); rintro e w89 ⟨v184, rfl, ho0, hi, hb, hkp⟩; refine ⟨_, rfl, ?_⟩; have n0_ := Aside0.mk (blk_kept (by exact bpq3 BK0.out) hkp (fun hs_ => Or.elim hs_ (fun hs_ => (fun e_ => (Kd.R_ne HO180.out BK0.out (by decide)) e_) hs_) (fun e_ => NB0_50.out e_))); have n1_ := Aside0.mk (hi); have n2_ := Aside0.mk (Kd.R_mono (ok' := fun k_ => (P0_17_ k_ ∨ w.heap.size ≤ k_)) ho0 (fun k_ hk_ => Or.elim hk_ (fun hs_ => (HO180.out.1 k_ (hs_).symm)) (fun hn_ => (.inr (Nat.le_trans (by first | exact HK.out.1 | exact (show Kept w _ (fun k_ => ((P0_17_ k_) ∨ k_ = g) ∨ k_ = gs0) from (kkq3 HK.out)).1) hn_))))); have n3_ := Aside0.mk (Kept.then_ (S := (fun k_ => ((P0_17_ k_) ∨ k_ = g) ∨ k_ = gs0)) ((kkq3 HK.out)) hkp (fun k_ hs_ => Or.elim hs_ (fun hs_ => (fun e_ => Or.imp_left (fun h_ => .inl (.inl (h_))) ((HO180.out.1 k_ e_.symm))) hs_) (fun e_ => .inl (.inr e_)))); have n4_ := Aside0.mk (hb); clear BK0; clear BK50; clear HK; clear HB; clear HO180; have BK0 := n0_; have BK50 := n1_; have HO185 := n2_; have HK := n3_; have HB := n4_; clear n0_ n1_ n2_ n3_ n4_; (try clear hb); (try clear hkp); (try clear ho0)))
                first | go_end0 | ((try simp only [Exit.inBlock, Exit.then]); refine bodyPost_ret (results_none rfl _ _ _) rfl ?_)
                exact ⟨_, by first | rfl | (simp [errW_none, errW_some] <;> rfl) | (simp [*, errW_none, errW_some] <;> rfl), by (with_reducible repeat (first | apply Kd.R_alloc | apply Kd.R_drewN | apply Kd.R_drew)); exact HO185.out, (by exact bpq3 BK0.out), (by exact bpq3 BK50.out), (bbq3 HB.out), (kkq3 HK.out)⟩
              · rw [if_neg c78] at H
                have c78b0 : (a1 == 6) = false := beq_eq_false_iff_ne.mpr c78
                have c78b1 : (a1 != 6) = true := bne_iff_ne.mpr c78
                by_cases c90 : a1 = 7
                · rw [if_pos c90] at H
                  have c90b0 : (a1 == 7) = true := beq_iff_eq.mpr c90
                  have c90b1 : (a1 != 7) = false := bne_eq_false_iff_eq.mpr c90
                  clear c90
                  have hq186 : a1 = 7 := beq_iff_eq.mp (by assumption)
                  have hua186 := Try.underlying52
                  have hia186 : ∀ W : World, (Instr.indexAt 52 (.pointer (some ⟨g, 0, none⟩)) (.int .i64 a1)).run Try.prog W = .ok (.pointer (some ⟨g, 14, none⟩)) W := by intro W; rw [hq186]; first | (go_simp; done) | (go_simp; rfl) | rfl
                  clear hq186
                  replace H := Option.bind_eq_some_iff.mp H
                  obtain ⟨⟨t187, t188, t189⟩, A910, H⟩ := H
                  replace H : ((history_History_Packet.f t188 t189 1).bind fun bt192 => (some (s0_0, s0_1, s0_2, s0_3, s0_4, s0_5, s0_6, s0_7, s0_8, s0_9, s0_10, s0_11, s0_12, s0_13, t108, true, bt192.2.1, bt192.2.2, s0_18, s0_19, s0_20))) = some (r1, r2, r3, r4, r5, r6, r7, r8, r9, r10, r11, r12, r13, r14, r15, r16, r17, r18, r19, r20, r21) := H
                  have A91 := Aside0.mk A910
                  clear A910
                  replace H := Option.bind_eq_some_iff.mp H
                  obtain ⟨⟨t192, t193, t194⟩, A920, H⟩ := H
                  replace H : (some (s0_0, s0_1, s0_2, s0_3, s0_4, s0_5, s0_6, s0_7, s0_8, s0_9, s0_10, s0_11, s0_12, s0_13, t108, true, t193, t194, s0_18, s0_19, s0_20)) = some (r1, r2, r3, r4, r5, r6, r7, r8, r9, r10, r11, r12, r13, r14, r15, r16, r17, r18, r19, r20, r21) := H
                  have A92 := Aside0.mk A920
                  clear A920
                  simp only [Option.some.injEq, Prod.mk.injEq] at H
                  obtain ⟨rfl, rfl, rfl, rfl, rfl, rfl, rfl, rfl, rfl, rfl, rfl, rfl, rfl, rfl, rfl, rfl, rfl, rfl, rfl, rfl, rfl⟩ := H
                  go_enter Try.func22, Try.ntmps22
                  try go_wp2
                  have n0_ := Aside0.mk (Kd.R_drew HO0_17.out)
                  have n1_ := Aside0.mk (blk_drew BK0.out)
                  have n2_ := Aside0.mk (blk_drew BK50.out)
                  have n3_ := Aside0.mk (Kept.drew HK.out)
                  have n4_ := Aside0.mk (below_drew1 HB.out)
                  clear HO0_17
                  clear BK0
                  clear BK50
                  clear HK
                  clear HB
                  have HO0_17 := n0_
                  have BK0 := n1_
                  have BK50 := n2_
                  have HK := n3_
                  have HB := n4_
                  clear n0_ n1_ n2_ n3_ n4_
                  refine start_ (n := 9) (S := fun w' => True) (ds := []) #[false, false, false, false, false, false, false, false, false] (by kernel_rfl) rfl rfl trivial (fun hHeld => ?_); refine with_tabW detect_Detect_took.tab0 detect_Detect_took.bits0 (fun HT_ HW_ => ?_)
                  generalize w.drew = w93 at HO0_17 BK0 BK50 HK HB hHeld ⊢
                  refine pure_ (i := 0) (N := some 8) (v := ?_) (a' := ?_) #[true, false, false, false, false, false, false, false, false] rfl rfl (any_of HT_.out (by kernel_rfl)) (fun _ _ _ h => h) (Or.inl ⟨by rfl, ?_⟩) ?_ ?_
                  rotate_left
                  · intro w'
                    go_simp
                    with_reducible rfl
                  rotate_left
                  · simp only [Act.put, List.setIfInBounds_toArray, List.set_cons_zero, List.set_cons_succ, i64_w, i32_w]
                    rfl
                  refine pure_ (i := 1) (N := some 9) (v := ?_) (a' := ?_) #[true, true, false, false, false, false, false, false, false] rfl rfl (any_of HT_.out (by kernel_rfl)) (fun _ _ _ h => h) (Or.inl ⟨by rfl, ?_⟩) ?_ ?_
                  rotate_left
                  · intro w'
                    go_simp
                    with_reducible rfl
                  rotate_left
                  · simp only [Act.put, List.setIfInBounds_toArray, List.set_cons_zero, List.set_cons_succ, i64_w, i32_w]
                    rfl
                  refine pure_ (i := 2) (N := some 10) (v := ?_) (a' := ?_) #[true, true, true, false, false, false, false, false, false] rfl rfl (any_of HT_.out (by kernel_rfl)) (fun _ _ _ h => h) (Or.inl ⟨by rfl, ?_⟩) ?_ ?_
                  rotate_left
                  · intro w'
                    go_simp
                    with_reducible rfl
                  rotate_left
                  · simp only [Act.put, List.setIfInBounds_toArray, List.set_cons_zero, List.set_cons_succ, i64_w, i32_w]
                    rfl
                  refine pure_ (i := 5) (N := some 13) (v := ?_) (a' := ?_) #[true, true, true, false, false, true, false, false, false] rfl rfl (any_of HT_.out (by kernel_rfl)) (fun _ _ _ h => h) (Or.inl ⟨by rfl, ?_⟩) ?_ ?_
                  rotate_left
                  · intro w'
                    go_simp
                    with_reducible rfl
                  rotate_left
                  · simp only [Act.put, List.setIfInBounds_toArray, List.set_cons_zero, List.set_cons_succ, i64_w, i32_w]
                    rfl
                  refine pure_ (i := 6) (N := some 14) (v := ?_) (a' := ?_) #[true, true, true, false, false, true, true, false, false] rfl rfl (any_of HT_.out (by kernel_rfl)) (fun _ _ _ h => h) (Or.inl ⟨by rfl, ?_⟩) ?_ ?_
                  rotate_left
                  · intro w'
                    go_simp
                    with_reducible rfl
                  rotate_left
                  · simp only [Act.put, List.setIfInBounds_toArray, List.set_cons_zero, List.set_cons_succ, i64_w, i32_w]
                    rfl
                  refine one_ (i := 3) (N := some 11) #[true, true, true, true, false, true, true, false, false] rfl rfl (one_of HT_.out (by kernel_rfl)) (by decide) (fun K hK => ?_)
                  refine goes_ Try.func29 (by kernel_rfl) rfl #[.int .u32 a2, .int .i64 1] (by rfl) rfl rfl (by (try simp only [List.map_toArray, List.map_cons, List.map_nil]); first | done | rfl | (simp only [List.length_drop, List.length_take]; rfl)) ?_
                  with_reducible refine (serial_Next.calls a2 1 t108 _ A5.out).mono ?_
                  rintro e w' ⟨rfl, ⟨nd, rfl⟩⟩
                  refine ⟨_, rfl, ?_⟩
                  (try (rw [drewN_self w93]; generalize hq_ : World.drewN w93 _ = w93; have n0_ : Aside0 (Kd.R (Kd.int .i64) 3 w93 w0.heap.size (fun k_ => (P0_17_ k_ ∨ w.heap.size ≤ k_)) u9000_ l0_17) := ⟨by rw [← hq_]; exact (by (with_reducible repeat (first | apply Kd.R_alloc | apply Kd.R_drewN | apply Kd.R_drew)); exact HO0_17.out)⟩; have n1_ : Aside0 (w93.heap[g]? = some (.cells #[.int .u32 s0_0, .bool s0_1, .int .u32 s0_2, .bool s0_3, .int .u32 s0_4, .bool s0_5, .int .u32 s0_6, .bool s0_7, .int .u32 s0_8, .bool s0_9, .int .u32 s0_10, .bool s0_11, .int .u32 s0_12, .bool s0_13, .int .u32 s0_14, .bool s0_15, .pointer (some ⟨gs0, 0, none⟩), .int .i64 s0_18, .int .i64 s0_19, .bool s0_20] 54 (0, 0))) := ⟨by rw [← hq_]; exact (by exact bpq3 BK0.out)⟩; have n2_ : Aside0 (w93.heap[gs0]? = some (.cells #[.int .i64 s0_16, u9000_] 68 (0, 0))) := ⟨by rw [← hq_]; exact (by exact bpq3 BK50.out)⟩; have n3_ : Aside0 (Kept w w93 (fun k_ => ((P0_17_ k_) ∨ k_ = g) ∨ k_ = gs0)) := ⟨by rw [← hq_]; exact ((kkq3 HK.out))⟩; have n4_ : Aside0 (Below w0.heap.size w0 w93) := ⟨by rw [← hq_]; exact ((bbq3 HB.out))⟩; clear HO0_17 BK0 BK50 HK HB hq_; have HO0_17 := n0_; have BK0 := n1_; have BK50 := n2_; have HK := n3_; have HB := n4_; clear n0_ n1_ n2_ n3_ n4_))
                  refine hK.out _ _ trivial (fun hHeld => ?_)
                  clear hK K
                  refine norm_ (a' := ?_) ?_ ?_
                  rotate_left
                  · show Act.put _ (some 11) _ = _
                    simp only [Act.put, List.setIfInBounds_toArray, List.set_cons_zero, List.set_cons_succ, i64_w, i32_w]
                    rfl
                  refine pure_ (i := 4) (N := some 12) (v := ?_) (a' := ?_) #[true, true, true, true, true, true, true, false, false] rfl rfl (any_of HT_.out (by kernel_rfl)) (fun _ _ _ h => h) (Or.inl ⟨by rfl, ?_⟩) ?_ ?_
                  rotate_left
                  · intro w'
                    go_simp
                    with_reducible rfl
                  rotate_left
                  · simp only [Act.put, List.setIfInBounds_toArray, List.set_cons_zero, List.set_cons_succ, i64_w, i32_w]
                    rfl
                  refine pure_ (i := 7) (N := some 15) (v := ?_) (a' := ?_) #[true, true, true, true, true, true, true, true, false] rfl rfl (any_of HT_.out (by kernel_rfl)) (fun _ _ _ h => h) (Or.inl ⟨by rfl, ?_⟩) ?_ ?_
                  rotate_left
                  · intro w'
                    go_simp
                    with_reducible rfl
                  rotate_left
                  · simp only [Act.put, List.setIfInBounds_toArray, List.set_cons_zero, List.set_cons_succ, i64_w, i32_w]
                    rfl
                  refine one_ (i := 8) (N := none) #[true, true, true, true, true, true, true, true, true] rfl rfl (one_of HT_.out (by kernel_rfl)) (by decide) (fun K hK => ?_)
                  have hs94 : w93.cell? ⟨g, 14, none⟩ = some (.int .u32 s0_14) := (blk_cell BK0.out 14).trans rfl
                  have hfs94 := blk_frozen BK0.out 14
                  have hns94_1 := NB50_0.out
                  have hms94_1 := NB0_50.out
                  have hs95 : w93.cell? ⟨g, 15, none⟩ = some (.bool s0_15) := (blk_cell BK0.out 15).trans rfl
                  have hfs95 := blk_frozen BK0.out 15
                  refine skip_ (w1 := ?_) (by rfl) rfl ?_ ?_
                  rotate_left
                  · go_simp
                    rfl
                  refine hK.out _ _ trivial (fun hHeld => ?_)
                  clear hK K
                  refine done_ (done_of HT_.out (by kernel_rfl)) ?_
                  have n0_ : Aside0 (Kd.R (Kd.int .i64) 3 ((w93.setCell ⟨g, 14, none⟩ (.int .u32 t108)).setCell ⟨g, 15, none⟩ (.bool true)) w0.heap.size (fun k_ => (P0_17_ k_ ∨ w.heap.size ≤ k_)) u9000_ l0_17) := ⟨by (with_reducible repeat (first | apply Kd.R_alloc | apply Kd.R_drewN | apply Kd.R_drew)); exact Kd.R_mono (Kd.R_far (Kd.R_far (Kd.R_types HO0_17.out BK0.out (by decide)) (fun _ hk => hk.2) _) (fun _ hk => hk.2) _) (fun _ hk => hk.1)⟩
                  have n1_ : Aside0 (((w93.setCell ⟨g, 14, none⟩ (.int .u32 t108)).setCell ⟨g, 15, none⟩ (.bool true)).heap[g]? = some (.cells #[.int .u32 s0_0, .bool s0_1, .int .u32 s0_2, .bool s0_3, .int .u32 s0_4, .bool s0_5, .int .u32 s0_6, .bool s0_7, .int .u32 s0_8, .bool s0_9, .int .u32 s0_10, .bool s0_11, .int .u32 s0_12, .bool s0_13, .int .u32 t108, .bool true, .pointer (some ⟨gs0, 0, none⟩), .int .i64 s0_18, .int .i64 s0_19, .bool s0_20] 54 (0, 0))) := ⟨by refine bzq3 ?_; refine btq3 (i := 15) ?_; refine btq3 (i := 14) ?_; exact ⟨_, bpq3 BK0.out, rfl⟩⟩
                  have n2_ : Aside0 (((w93.setCell ⟨g, 14, none⟩ (.int .u32 t108)).setCell ⟨g, 15, none⟩ (.bool true)).heap[gs0]? = some (.cells #[.int .i64 s0_16, u9000_] 68 (0, 0))) := ⟨by refine bfq3 NB50_0.out ?_; refine bfq3 NB50_0.out ?_; exact bpq3 BK50.out⟩
                  have n3_ : Aside0 (Kept w ((w93.setCell ⟨g, 14, none⟩ (.int .u32 t108)).setCell ⟨g, 15, none⟩ (.bool true)) (fun k_ => ((P0_17_ k_) ∨ k_ = g) ∨ k_ = gs0)) := ⟨(kkq3 HK.out)⟩
                  have n4_ : Aside0 (Below w0.heap.size w0 ((w93.setCell ⟨g, 14, none⟩ (.int .u32 t108)).setCell ⟨g, 15, none⟩ (.bool true))) := ⟨(bbq3 HB.out)⟩
                  (try clear HO0_17)
                  (try clear BK0)
                  (try clear BK50)
                  (try clear HK)
                  (try clear HB)
                  generalize ((w93.setCell ⟨g, 14, none⟩ (.int .u32 t108)).setCell ⟨g, 15, none⟩ (.bool true)) = w96 at n0_ n1_ n2_ n3_ n4_ ⊢
                  have HO0_17 := n0_
                  have BK0 := n1_
                  have BK50 := n2_
                  have HK := n3_
                  have HB := n4_
                  clear n0_ n1_ n2_ n3_ n4_
                  have hnb97 := NB0_50.out
                  have hnc97 := NB50_0.out
                  obtain ⟨hcz98_0, hcz98_1, hcz98_2, hcz98_3, hcz98_4, hcz98_5, hcz98_6, hcz98_7, hcz98_8, hcz98_9, hcz98_10, hcz98_11, hcz98_12, hcz98_13, hcz98_14, hcz98_15, hcz98_16, hcz98_17, hcz98_18, hcz98_19⟩ := bc20q3 BK0.out
                  have hfz98_0 := fun i_ => blk_frozen BK0.out i_
                  try go_wp2_with (first | ((with_reducible refine gate_callee (f := 30) rfl ?_); refine goesL_ (some 21) rfl rfl Try.func30 (by kernel_rfl) rfl #[.pointer (some ⟨gs0, 0, none⟩), .int .i64 a3] rfl (by (try simp only [List.map_toArray, List.map_cons, List.map_nil]); first | done | rfl | (simp only [List.length_drop, List.length_take]; rfl)) ?_; (with_reducible refine (history_History_Packet.calls gs0 s0_16 (fun k_ => some k_ = (u9000_ : Value).ownBlock) u9000_ l0_17 a3 t187 t188 t189 w0 _ ?side1 ?side2 ?side3 ?side4 A91.out).mono ?_); (case side1 => exact bpq3 BK50.out); (case side2 => exact GE50.out); (case side3 => repeat (first | (with_reducible first | exact HB.out | apply below_alloc | apply pw_below_drewN | apply below_drew1 | refine below_set ?_ GE0.out | refine below_set ?_ GE50.out) | exact HB.out)); (case side4 => exact Kd.R_tight rfl HO0_17.out); rintro e w99 ⟨v190, rfl, ho0, hi, hb, hkp⟩; refine ⟨_, rfl, ?_⟩; have n0_ := Aside0.mk (blk_kept (by exact bpq3 BK0.out) hkp (fun hs_ => Or.elim hs_ (fun hs_ => (fun e_ => (Kd.R_ne HO0_17.out BK0.out (by decide)) e_) hs_) (fun e_ => NB0_50.out e_))); have n1_ := Aside0.mk (hi); have n2_ := Aside0.mk (Kd.R_mono (ok' := fun k_ => (P0_17_ k_ ∨ w.heap.size ≤ k_)) ho0 (fun k_ hk_ => Or.elim hk_ (fun hs_ => (HO0_17.out.1 k_ (hs_).symm)) (fun hn_ => (.inr (Nat.le_trans (by first | exact HK.out.1 | exact (show Kept w _ (fun k_ => ((P0_17_ k_) ∨ k_ = g) ∨ k_ = gs0) from (kkq3 HK.out)).1) hn_))))); have n3_ := Aside0.mk (Kept.then_ (S := (fun k_ => ((P0_17_ k_) ∨ k_ = g) ∨ k_ = gs0)) ((kkq3 HK.out)) hkp (fun k_ hs_ => Or.elim hs_ (fun hs_ => (fun e_ => Or.imp_left (fun h_ => .inl (.inl (h_))) ((HO0_17.out.1 k_ e_.symm))) hs_) (fun e_ => .inl (.inr e_)))); have n4_ := Aside0.mk (hb); clear BK0; clear BK50; clear HK; clear HB; clear HO0_17; have BK0 := n0_; have BK50 := n1_; have HO191 := n2_; have HK := n3_; have HB := n4_; clear n0_ n1_ n2_ n3_ n4_; (try clear hb); (try clear hkp); (try clear ho0); obtain ⟨hcz100_0, hcz100_1, hcz100_2, hcz100_3, hcz100_4, hcz100_5, hcz100_6, hcz100_7, hcz100_8, hcz100_9, hcz100_10, hcz100_11, hcz100_12, hcz100_13, hcz100_14, hcz100_15, hcz100_16, hcz100_17, hcz100_18, hcz100_19⟩ := bc20q3 BK0.out; have hfz100_0 := fun i_ => blk_frozen BK0.out i_) | ((with_reducible refine gate_callee (f := 30) rfl ?_); refine goesL_ (some 26) rfl rfl Try.func30 (by kernel_rfl) rfl #[.pointer (some ⟨gs0, 0, none⟩), .int .i64 1] rfl (by (try simp only [List.map_toArray, List.map_cons, List.map_nil]); first | done | rfl | (simp only [List.length_drop, List.length_take]; rfl)) ?_; (with_reducible refine (history_History_Packet.calls gs0 t188 (fun k_ => some k_ = (v190 : Value).ownBlock) v190 t189 1 t192 t193 t194 w0 _ ?side1 ?side2 ?side3 ?side4 A92.out).mono ?_); (case side1 => exact bpq3 BK50.out); (case side2 => exact GE50.out); (case side3 => repeat (first | (with_reducible first | exact HB.out | apply below_alloc | apply pw_below_drewN | apply below_drew1 | refine below_set ?_ GE0.out | refine below_set ?_ GE50.out) | exact HB.out)); (case side4 => exact Kd.R_tight rfl HO191.out); rintro e w101 ⟨v195, rfl, ho0, hi, hb, hkp⟩; refine ⟨_, rfl, ?_⟩; have n0_ := Aside0.mk (blk_kept (by exact bpq3 BK0.out) hkp (fun hs_ => Or.elim hs_ (fun hs_ => (fun e_ => (Kd.R_ne HO191.out BK0.out (by decide)) e_) hs_) (fun e_ => NB0_50.out e_))); have n1_ := Aside0.mk (hi); have n2_ := Aside0.mk (Kd.R_mono (ok' := fun k_ => (P0_17_ k_ ∨ w.heap.size ≤ k_)) ho0 (fun k_ hk_ => Or.elim hk_ (fun hs_ => (HO191.out.1 k_ (hs_).symm)) (fun hn_ => (.inr (Nat.le_trans (by first | exact HK.out.1 | exact (show Kept w _ (fun k_ => ((P0_17_ k_) ∨ k_ = g) ∨ k_ = gs0) from (kkq3 HK.out)).1) hn_))))); have n3_ := Aside0.mk (Kept.then_ (S := (fun k_ => ((P0_17_ k_) ∨ k_ = g) ∨ k_ = gs0)) ((kkq3 HK.out)) hkp (fun k_ hs_ => Or.elim hs_ (fun hs_ => (fun e_ => Or.imp_left (fun h_ => .inl (.inl (h_))) ((HO191.out.1 k_ e_.symm))) hs_) (fun e_ => .inl (.inr e_)))); have n4_ := Aside0.mk (hb); clear BK0; clear BK50; clear HK; clear HB; clear HO191; have BK0 := n0_; have BK50 := n1_; have HO196 := n2_; have HK := n3_; have HB := n4_; clear n0_ n1_ n2_ n3_ n4_; (try clear hb); (try clear hkp); (try clear ho0)))
                  first | go_end0 | ((try simp only [Exit.inBlock, Exit.then]); refine bodyPost_ret (results_none rfl _ _ _) rfl ?_)
                  exact ⟨_, by first | rfl | (simp [errW_none, errW_some] <;> rfl) | (simp [*, errW_none, errW_some] <;> rfl), by (with_reducible repeat (first | apply Kd.R_alloc | apply Kd.R_drewN | apply Kd.R_drew)); exact HO196.out, (by exact bpq3 BK0.out), (by exact bpq3 BK50.out), (bbq3 HB.out), (kkq3 HK.out)⟩
                · rw [if_neg c90] at H
                  exact absurd H (by simp)

end Go.Proofs.Ytobipigioaoaiaa.PDetectCopies
