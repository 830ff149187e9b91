import Derived.Test.YtppefdodhbdlpaaVDd
import Derived.Test.YtppefdodhbdlpaaVHq
namespace Go.Proofs.Ytppefdodhbdlpaa.H
open Go.RowKit Go.Shelf
set_option linter.unusedVariables false
set_option linter.unusedSimpArgs false
variable {w : World} {B g : Nat} {ks : Nat → Option Nat} {now n : Int} {m r l : List (Int × Int)} {t : Int × Int} {b o : Nat} {v : Value} {z : Nat} {ks0 ks' : Ks} {nw kind id tick N : Int} {W W' : World}
theorem alloc3 (w : World) (o0 o1 o2 : Obj) : ∃ W, ((w.alloc o0).alloc o1).alloc o2 = W ∧ W.heap[w.heap.size]? = some o0 ∧ W.heap[w.heap.size + 1]? = some o1 ∧ W.heap[w.heap.size + 1 + 1]? = some o2 ∧ W.heap.size = w.heap.size + 3 ∧ Below w.heap.size w W := by
  refine ⟨_, rfl, ?_, ?_, ?_, by simp, ((((Below.refl _ w).alloc (Nat.le_refl _) _).alloc (by simp) _).alloc (by simp; omega) _)⟩ <;>
    (simp only [World.alloc, Array.getElem?_push, Array.size_push, if_true]; repeat (first | rw [if_pos rfl] | rw [if_neg (by omega)]))
/-- the boxes of step, kept by the call of a wheel's method -/
structure SB (z : Nat) (A : Option Addr) (cap : Nat) (now kind id tick N : Int) (m : List (Int × Int)) (W : World) : Prop where
  c0 : W.heap[z]? = some (.cells #[.slice A m.length cap, .int .i64 now] 32 (0, 0))
  c1 : W.heap[z + 1]? = some (.cells #[.int .i64 kind, .int .i64 id, .int .i64 tick, .int .i64 N] 34 (0, 0))
  c2 : W.heap[z + 1 + 1]? = some (.cells #[.slice none 0 0, .int .i64 0] 32 (0, 0))
theorem SB.turned {A : Option Addr} {cap : Nat} (h : SB z A cap now kind id tick N m W) {T : Nat → Prop} (hT : Turned W W' T) (hs : z + 3 ≤ W.heap.size) (hn : ∀ j, T j → j < z ∨ z + 3 ≤ j) : SB z A cap now kind id tick N m W' :=
  ⟨(hT.block _ (by omega) (fun h => by have := hn _ h; omega)).trans h.c0, (hT.block _ (by omega) (fun h => by have := hn _ h; omega)).trans h.c1, (hT.block _ (by omega) (fun h => by have := hn _ h; omega)).trans h.c2⟩
theorem step_mid {A : Option Addr} {cap : Nat} (h : Two w B g ks m now (.slice A m.length cap) b o) (hz : w.heap.size = z) (hb : Below z w W) (hs : W.heap.size = z + 3) (hS : SB z A cap now kind id tick N m W) {r : Value} {m1 : List (Int × Int)} {e : Ending} {w1 : World} (h1 : WP W B g ks r m1 now e w1) :
    e = .returned r ∧ SB z A cap now kind id tick N m w1 ∧ MR w1 (.slice A m.length cap) m b o ∧ ∃ ks1, Wh w1 B g ks1 m1 now ∧ Turned w w1 (own g ks) ∧ (∀ j, own g ks1 j → own g ks j ∨ z + 3 ≤ j) ∧ z + 3 ≤ w1.heap.size := by
  obtain ⟨rfl, ks1, hw1, hT, ho⟩ := h1
  have hown : ∀ j, own g ks j → j < z := fun j hj => by rw [← hz]; exact h.wh.own_lt hj
  refine ⟨rfl, hS.turned hT (by omega) (fun j hj => .inl (hown j hj)), (h.mr.below (hz ▸ hb)).turned hT h.nb, ks1, hw1, (Turned.of_below (hz ▸ hb)).trans hT (fun j hj => .inl hj), fun j hj => ?_, by have := hT.size; omega⟩
  rcases ho j hj with h | h
  · exact .inl h
  · exact .inr (by omega)
theorem res_store {u0 u1 : Value} {c : TypeId} {y : Nat} (k : W.heap[y]? = some (.cells #[u0, u1] c (0, 0))) (v' : Value) (now : Int) :
    Turned W ((W.setCell ⟨y, 0, none⟩ v').setCell ⟨y, 1, none⟩ (.int .i64 now)) (fun j => j = y) ∧ ((W.setCell ⟨y, 0, none⟩ v').setCell ⟨y, 1, none⟩ (.int .i64 now)).heap[y]? = some (.cells #[v', .int .i64 now] c (0, 0)) := by
  have t2 := setCell_turned (j := 0) (u := v') k
  have k3 := setCell_heap (i := 0) (u := v') k
  have t3 := setCell_turned (j := 1) (u := .int .i64 now) k3
  exact ⟨t2.trans t3 (fun j hj => .inl hj), setCell_heap (i := 1) (u := .int .i64 now) k3⟩
theorem step_fin {A : Option Addr} {cap : Nat} (h : Two w B g ks m now (.slice A m.length cap) b o) (hz : w.heap.size = z) {ks1 : Ks} {M : List (Int × Int)} {w1 w2 : World} (hw1 : Wh w1 B g ks1 M now) (hT : Turned w w1 (own g ks)) (ho : ∀ j, own g ks1 j → own g ks j ∨ z + 3 ≤ j) (hs : z + 3 ≤ w1.heap.size)
    (hS : SB z A cap now kind id tick N m w1) {v' : Value} {b' o' : Nat} (hm : MR w2 v' M b' o') (hd : b' = b ∧ M = m ∨ (0 < M.length → w1.heap.size ≤ b')) (hb : Below w1.heap.size w1 w2) :
    ∀ W3, W3 = ((w2.setCell ⟨z, 0, none⟩ v').setCell ⟨z + 1 + 1, 0, none⟩ v').setCell ⟨z + 1 + 1, 1, none⟩ (.int .i64 now) → W3.cell? ⟨z + 1 + 1, 0, none⟩ = some v' ∧ W3.cell? ⟨z + 1 + 1, 1, none⟩ = some (.int .i64 now) ∧ TwoPost w B g ks b (fun _ _ => True) (.returned (.tuple #[.agg #[v', .int .i64 now], .bool true])) W3 := by
  rintro W3 rfl
  have hS2 : SB z A cap now kind id tick N m w2 := hS.turned (T := fun _ => False) (Turned.of_below hb) hs (fun _ h => h.elim)
  have t1 := setCell_turned (j := 0) (u := v') hS2.c0
  have k2 := (t1.block (z + 1 + 1) (Array.getElem?_eq_some_iff.1 hS2.c2).1 (by omega)).trans hS2.c2
  obtain ⟨t23, k4⟩ := res_store k2 v' now
  have tt : Turned w2 (((w2.setCell ⟨z, 0, none⟩ v').setCell ⟨z + 1 + 1, 0, none⟩ v').setCell ⟨z + 1 + 1, 1, none⟩ (.int .i64 now)) (fun j => z ≤ j ∧ j < z + 3) := (t1.mono (fun k hk => by omega)).trans t23 (fun k hk => .inl (by omega))
  have hown : ∀ j, own g ks j → j < z := fun j hj => by rw [← hz]; exact h.wh.own_lt hj
  have hown1 : ∀ j, own g ks1 j → j < z ∨ z + 3 ≤ j := fun j hj => (ho j hj).imp (hown j) (fun h => h)
  have hbz : 0 < M.length → b' < z ∧ ¬ own g ks1 b' ∨ z + 3 ≤ b' ∧ ¬ own g ks1 b' := fun h0 => by
    rcases hd with ⟨rfl, rfl⟩ | hd
    · have h2 := block_lt_of_cell (h.mr.cells 0 h0).1
      refine .inl ⟨hz ▸ h2, fun h3 => ?_⟩
      rcases ho _ h3 with h4 | h4
      · exact h.nb h0 h4
      · have : b' < w.heap.size := h2
        omega
    · have := hd h0
      exact .inr ⟨by omega, fun h3 => by have := hw1.own_lt h3; omega⟩
  refine ⟨(cell_of_row _ (z + 1 + 1) 0 _ _ _ k4).trans rfl, (cell_of_row _ (z + 1 + 1) 1 _ _ _ k4).trans rfl, ks1, M, now, v', b', o', rfl, ⟨(hw1.below hb).turned tt (fun j hj h3 => by have := hown1 j h3; omega), hm.turned tt (fun h0 h3 => by rcases hbz h0 with h4 | h4 <;> omega), fun h0 => by rcases hbz h0 with h4 | h4 <;> exact h4.2⟩,
    (hT.trans (Turned.of_below hb (T := fun _ => False)) (fun _ h => h.elim)).trans tt (fun k hk => .inr (by omega)), fun j hj => (ho j hj).imp (fun h => h) (fun h => by omega), fun h0 => ?_, trivial⟩
  rcases hd with ⟨rfl, rfl⟩ | hd
  · exact .inl ⟨rfl, block_lt_of_cell (h.mr.cells 0 h0).1⟩
  · have := hd h0
    exact .inr (by omega)
end Go.Proofs.Ytppefdodhbdlpaa.H
namespace Go.Proofs.Ytppefdodhbdlpaa.H
open Go.RowKit Go.Shelf
set_option linter.unusedVariables false
set_option linter.unusedSimpArgs false
variable {w : World} {B g : Nat} {ks : Nat → Option Nat} {now n : Int} {m r l : List (Int × Int)} {t : Int × Int} {b o : Nat} {v : Value} {z : Nat} {ks0 ks' : Ks} {nw kind id tick N : Int} {W W' : World}
abbrev StepLaw (w : World) (B g : Nat) (ks : Ks) (now : Int) (v : Value) (b : Nat) (kind id tick N : Int) : Prop :=
  Calls Try.prog 11 #[.pointer (some ⟨g, 0, none⟩), .agg #[v, .int .i64 now], .agg #[.int .i64 kind, .int .i64 id, .int .i64 tick, .int .i64 N]] w (TwoPost w B g ks b (fun _ _ => True))
set_option maxHeartbeats 1000000 in
set_option maxRecDepth 100000 in
theorem step1 (h : Two w B g ks m now v b o) (hB : B ≤ w.heap.size) (id tick N : Int) : StepLaw w B g ks now v b 1 id tick N := by
  obtain ⟨A, cap, hv, hlc, hcm, hA⟩ := h.mr.val
  subst hv
  clear hA hlc hcm
  obtain ⟨W, HW, k0, k1, k2, hsz, hbel⟩ := alloc3 w (.cells #[.slice A m.length cap, .int .i64 now] 32) (.cells #[.int .i64 1, .int .i64 id, .int .i64 tick, .int .i64 N] 34) (.cells #[.slice none 0 0, .int .i64 0] 32)
  have HT := Lib.hid h
  have HC := Lib.hid (set_c (h.wh.below hbel) id tick (by omega))
  have hME : ∀ l, callM l 1 id tick = setM l id tick ∧ callE l 1 id tick = setE l id tick := fun l => ⟨rfl, rfl⟩
  have i1 := (cell_of_row W (w.heap.size + 1) 1 _ _ _ k1).trans rfl
  have i2 := (cell_of_row W (w.heap.size + 1) 2 _ _ _ k1).trans rfl
  have i0 := (cell_of_row W (w.heap.size + 1) 0 _ _ _ k1).trans rfl
  have HS0 := Lib.hid (show SB w.heap.size A cap now 1 id tick N m W from ⟨k0, k1, k2⟩)
  have HBel0 := Lib.hid hbel
  have HSz0 := Lib.hid hsz
  clear k0 k1 k2 hbel hsz h
  go_enter Try.func11, Try.ntmps11
  go_wp2_with fail
  obtain ⟨z, HZ⟩ : ∃ z, Hid (w.heap.size = z) := ⟨_, Lib.hid rfl⟩
  have HBel := Lib.hid (HZ.out ▸ HBel0.out)
  have HSz := Lib.hid (HZ.out ▸ HSz0.out)
  have HS := Lib.hid (HZ.out ▸ HS0.out)
  rw [HZ.out]
  clear HW HBel0 HSz0 HS0
  go_fit HC.out; rintro e w1 hX
  obtain ⟨rfl, hS1, hm1, ks1, hw1, hT, ho, hs1⟩ := step_mid HT.out HZ.out HBel.out HSz.out HS.out hX
  clear hX HC i0 i1 i2
  have HA1 := Lib.hid (call_c hm1 HT.out.wh.good 1 id tick (by simp))
  have HS1 := Lib.hid hS1
  have Hw1 := Lib.hid hw1
  have HT1 := Lib.hid hT
  have Ho := Lib.hid ho
  have Hs1 := Lib.hid hs1
  have a0 := (cell_of_row w1 z 0 _ _ _ hS1.c0).trans rfl
  have i1 := (cell_of_row w1 (z + 1) 1 _ _ _ hS1.c1).trans rfl
  have i2 := (cell_of_row w1 (z + 1) 2 _ _ _ hS1.c1).trans rfl
  have i0 := (cell_of_row w1 (z + 1) 0 _ _ _ hS1.c1).trans rfl
  clear hS1 hm1 hw1 hT ho hs1 HBel HSz HS
  rw [(hME m).1, (hME m).2] at HA1
  obtain ⟨E, HE⟩ : ∃ E, Hid (setE m id tick = E) := ⟨_, Lib.hid rfl⟩
  rw [HE.out] at HA1 ⊢
  clear HE
  obtain ⟨M, HM⟩ : ∃ M, Hid (setM m id tick = M) := ⟨_, Lib.hid rfl⟩
  rw [HM.out] at HA1 Hw1
  clear HM hME
  go_wp2_with fail
  go_fit HA1.out; rintro e w2 ⟨v', b', o', rfl, hm, hd, hb⟩
  obtain ⟨A', cap', rfl, -⟩ := hm.val
  have HF := Lib.hid (step_fin HT.out HZ.out Hw1.out HT1.out Ho.out Hs1.out HS1.out hm hd hb)
  have hS2 : SB z A cap now 1 id tick N m w2 := HS1.out.turned (T := fun _ => False) (Turned.of_below hb) Hs1.out (fun _ h => h.elim)
  have g1 := (cell_of_row w2 z 1 _ _ _ hS2.c0).trans rfl
  have g0 := (cell_of_row w2 z 0 _ _ _ hS2.c0).trans rfl
  have d0 := (cell_of_row w2 (z + 1 + 1) 0 _ _ _ hS2.c2).trans rfl
  have d1 := (cell_of_row w2 (z + 1 + 1) 1 _ _ _ hS2.c2).trans rfl
  have f0 : w2.frozen? ⟨z, 0, none⟩ = false := by simp only [World.frozen?, hS2.c0]; rfl
  have f2 : w2.frozen? ⟨z + 1 + 1, 0, none⟩ = false := by simp only [World.frozen?, hS2.c2]; rfl
  have f2' : w2.frozen? ⟨z + 1 + 1, 1, none⟩ = false := by simp only [World.frozen?, hS2.c2]; rfl
  clear a0 i0 i1 i2 HA1 HS1 Hw1 HT1 Ho Hs1 hm hd hb hS2 HT
  go_wp2
  obtain ⟨W3, hW3⟩ : ∃ W3, W3 = ((w2.setCell ⟨z, 0, none⟩ (.slice A' M.length cap')).setCell ⟨z + 1 + 1, 0, none⟩ (.slice A' M.length cap')).setCell ⟨z + 1 + 1, 1, none⟩ (.int .i64 now) := ⟨_, rfl⟩
  rw [← hW3]
  obtain ⟨r0, r1, hPost⟩ := HF.out W3 hW3
  clear HF hW3
  refine ⟨rfl, .tuple #[.agg #[.slice A' M.length cap', .int .i64 now], .bool true], ?_, hPost⟩
  simp [results, Try.results11, go_sem, r0, r1]
set_option maxHeartbeats 1000000 in
set_option maxRecDepth 100000 in
theorem step2 (h : Two w B g ks m now v b o) (hB : B ≤ w.heap.size) (id tick N : Int) : StepLaw w B g ks now v b 2 id tick N := by
  obtain ⟨A, cap, hv, hlc, hcm, hA⟩ := h.mr.val
  subst hv
  clear hA hlc hcm
  obtain ⟨W, HW, k0, k1, k2, hsz, hbel⟩ := alloc3 w (.cells #[.slice A m.length cap, .int .i64 now] 32) (.cells #[.int .i64 2, .int .i64 id, .int .i64 tick, .int .i64 N] 34) (.cells #[.slice none 0 0, .int .i64 0] 32)
  have HT := Lib.hid h
  have HC := Lib.hid (move_c (h.wh.below hbel) id tick (by omega))
  have hME : ∀ l, callM l 2 id tick = moveM l id tick ∧ callE l 2 id tick = moveE l id tick := fun l => ⟨rfl, rfl⟩
  have i1 := (cell_of_row W (w.heap.size + 1) 1 _ _ _ k1).trans rfl
  have i2 := (cell_of_row W (w.heap.size + 1) 2 _ _ _ k1).trans rfl
  have i0 := (cell_of_row W (w.heap.size + 1) 0 _ _ _ k1).trans rfl
  have HS0 := Lib.hid (show SB w.heap.size A cap now 2 id tick N m W from ⟨k0, k1, k2⟩)
  have HBel0 := Lib.hid hbel
  have HSz0 := Lib.hid hsz
  clear k0 k1 k2 hbel hsz h
  go_enter Try.func11, Try.ntmps11
  go_wp2_with fail
  obtain ⟨z, HZ⟩ : ∃ z, Hid (w.heap.size = z) := ⟨_, Lib.hid rfl⟩
  have HBel := Lib.hid (HZ.out ▸ HBel0.out)
  have HSz := Lib.hid (HZ.out ▸ HSz0.out)
  have HS := Lib.hid (HZ.out ▸ HS0.out)
  rw [HZ.out]
  clear HW HBel0 HSz0 HS0
  go_fit HC.out; rintro e w1 hX
  obtain ⟨rfl, hS1, hm1, ks1, hw1, hT, ho, hs1⟩ := step_mid HT.out HZ.out HBel.out HSz.out HS.out hX
  clear hX HC i0 i1 i2
  have HA1 := Lib.hid (call_c hm1 HT.out.wh.good 2 id tick (by simp))
  have HS1 := Lib.hid hS1
  have Hw1 := Lib.hid hw1
  have HT1 := Lib.hid hT
  have Ho := Lib.hid ho
  have Hs1 := Lib.hid hs1
  have a0 := (cell_of_row w1 z 0 _ _ _ hS1.c0).trans rfl
  have i1 := (cell_of_row w1 (z + 1) 1 _ _ _ hS1.c1).trans rfl
  have i2 := (cell_of_row w1 (z + 1) 2 _ _ _ hS1.c1).trans rfl
  have i0 := (cell_of_row w1 (z + 1) 0 _ _ _ hS1.c1).trans rfl
  clear hS1 hm1 hw1 hT ho hs1 HBel HSz HS
  rw [(hME m).1, (hME m).2] at HA1
  obtain ⟨E, HE⟩ : ∃ E, Hid (moveE m id tick = E) := ⟨_, Lib.hid rfl⟩
  rw [HE.out] at HA1 ⊢
  clear HE
  obtain ⟨M, HM⟩ : ∃ M, Hid (moveM m id tick = M) := ⟨_, Lib.hid rfl⟩
  rw [HM.out] at HA1 Hw1
  clear HM hME
  go_wp2_with fail
  go_fit HA1.out; rintro e w2 ⟨v', b', o', rfl, hm, hd, hb⟩
  obtain ⟨A', cap', rfl, -⟩ := hm.val
  have HF := Lib.hid (step_fin HT.out HZ.out Hw1.out HT1.out Ho.out Hs1.out HS1.out hm hd hb)
  have hS2 : SB z A cap now 2 id tick N m w2 := HS1.out.turned (T := fun _ => False) (Turned.of_below hb) Hs1.out (fun _ h => h.elim)
  have g1 := (cell_of_row w2 z 1 _ _ _ hS2.c0).trans rfl
  have g0 := (cell_of_row w2 z 0 _ _ _ hS2.c0).trans rfl
  have d0 := (cell_of_row w2 (z + 1 + 1) 0 _ _ _ hS2.c2).trans rfl
  have d1 := (cell_of_row w2 (z + 1 + 1) 1 _ _ _ hS2.c2).trans rfl
  have f0 : w2.frozen? ⟨z, 0, none⟩ = false := by simp only [World.frozen?, hS2.c0]; rfl
  have f2 : w2.frozen? ⟨z + 1 + 1, 0, none⟩ = false := by simp only [World.frozen?, hS2.c2]; rfl
  have f2' : w2.frozen? ⟨z + 1 + 1, 1, none⟩ = false := by simp only [World.frozen?, hS2.c2]; rfl
  clear a0 i0 i1 i2 HA1 HS1 Hw1 HT1 Ho Hs1 hm hd hb hS2 HT
  go_wp2
  obtain ⟨W3, hW3⟩ : ∃ W3, W3 = ((w2.setCell ⟨z, 0, none⟩ (.slice A' M.length cap')).setCell ⟨z + 1 + 1, 0, none⟩ (.slice A' M.length cap')).setCell ⟨z + 1 + 1, 1, none⟩ (.int .i64 now) := ⟨_, rfl⟩
  rw [← hW3]
  obtain ⟨r0, r1, hPost⟩ := HF.out W3 hW3
  clear HF hW3
  refine ⟨rfl, .tuple #[.agg #[.slice A' M.length cap', .int .i64 now], .bool true], ?_, hPost⟩
  simp [results, Try.results11, go_sem, r0, r1]
set_option maxHeartbeats 1000000 in
set_option maxRecDepth 100000 in
theorem step3 (h : Two w B g ks m now v b o) (hB : B ≤ w.heap.size) (id tick N : Int) : StepLaw w B g ks now v b 3 id tick N := by
  obtain ⟨A, cap, hv, hlc, hcm, hA⟩ := h.mr.val
  subst hv
  clear hA hlc hcm
  obtain ⟨W, HW, k0, k1, k2, hsz, hbel⟩ := alloc3 w (.cells #[.slice A m.length cap, .int .i64 now] 32) (.cells #[.int .i64 3, .int .i64 id, .int .i64 tick, .int .i64 N] 34) (.cells #[.slice none 0 0, .int .i64 0] 32)
  have HT := Lib.hid h
  have HC := Lib.hid (stop_c (h.wh.below hbel) id)
  have hME : ∀ l, callM l 3 id tick = del l id ∧ callE l 3 id tick = stopE l id := fun l => ⟨rfl, rfl⟩
  have i1 := (cell_of_row W (w.heap.size + 1) 1 _ _ _ k1).trans rfl
  have i2 := (cell_of_row W (w.heap.size + 1) 2 _ _ _ k1).trans rfl
  have i0 := (cell_of_row W (w.heap.size + 1) 0 _ _ _ k1).trans rfl
  have HS0 := Lib.hid (show SB w.heap.size A cap now 3 id tick N m W from ⟨k0, k1, k2⟩)
  have HBel0 := Lib.hid hbel
  have HSz0 := Lib.hid hsz
  clear k0 k1 k2 hbel hsz h
  go_enter Try.func11, Try.ntmps11
  go_wp2_with fail
  obtain ⟨z, HZ⟩ : ∃ z, Hid (w.heap.size = z) := ⟨_, Lib.hid rfl⟩
  have HBel := Lib.hid (HZ.out ▸ HBel0.out)
  have HSz := Lib.hid (HZ.out ▸ HSz0.out)
  have HS := Lib.hid (HZ.out ▸ HS0.out)
  rw [HZ.out]
  clear HW HBel0 HSz0 HS0
  go_fit HC.out; rintro e w1 hX
  obtain ⟨rfl, hS1, hm1, ks1, hw1, hT, ho, hs1⟩ := step_mid HT.out HZ.out HBel.out HSz.out HS.out hX
  clear hX HC i0 i1 i2
  have HA1 := Lib.hid (call_c hm1 HT.out.wh.good 3 id tick (by simp))
  have HS1 := Lib.hid hS1
  have Hw1 := Lib.hid hw1
  have HT1 := Lib.hid hT
  have Ho := Lib.hid ho
  have Hs1 := Lib.hid hs1
  have a0 := (cell_of_row w1 z 0 _ _ _ hS1.c0).trans rfl
  have i1 := (cell_of_row w1 (z + 1) 1 _ _ _ hS1.c1).trans rfl
  have i2 := (cell_of_row w1 (z + 1) 2 _ _ _ hS1.c1).trans rfl
  have i0 := (cell_of_row w1 (z + 1) 0 _ _ _ hS1.c1).trans rfl
  clear hS1 hm1 hw1 hT ho hs1 HBel HSz HS
  rw [(hME m).1, (hME m).2] at HA1
  obtain ⟨E, HE⟩ : ∃ E, Hid (stopE m id = E) := ⟨_, Lib.hid rfl⟩
  rw [HE.out] at HA1 ⊢
  clear HE
  obtain ⟨M, HM⟩ : ∃ M, Hid (del m id = M) := ⟨_, Lib.hid rfl⟩
  rw [HM.out] at HA1 Hw1
  clear HM hME
  go_wp2_with fail
  go_fit HA1.out; rintro e w2 ⟨v', b', o', rfl, hm, hd, hb⟩
  obtain ⟨A', cap', rfl, -⟩ := hm.val
  have HF := Lib.hid (step_fin HT.out HZ.out Hw1.out HT1.out Ho.out Hs1.out HS1.out hm hd hb)
  have hS2 : SB z A cap now 3 id tick N m w2 := HS1.out.turned (T := fun _ => False) (Turned.of_below hb) Hs1.out (fun _ h => h.elim)
  have g1 := (cell_of_row w2 z 1 _ _ _ hS2.c0).trans rfl
  have g0 := (cell_of_row w2 z 0 _ _ _ hS2.c0).trans rfl
  have d0 := (cell_of_row w2 (z + 1 + 1) 0 _ _ _ hS2.c2).trans rfl
  have d1 := (cell_of_row w2 (z + 1 + 1) 1 _ _ _ hS2.c2).trans rfl
  have f0 : w2.frozen? ⟨z, 0, none⟩ = false := by simp only [World.frozen?, hS2.c0]; rfl
  have f2 : w2.frozen? ⟨z + 1 + 1, 0, none⟩ = false := by simp only [World.frozen?, hS2.c2]; rfl
  have f2' : w2.frozen? ⟨z + 1 + 1, 1, none⟩ = false := by simp only [World.frozen?, hS2.c2]; rfl
  clear a0 i0 i1 i2 HA1 HS1 Hw1 HT1 Ho Hs1 hm hd hb hS2 HT
  go_wp2
  obtain ⟨W3, hW3⟩ : ∃ W3, W3 = ((w2.setCell ⟨z, 0, none⟩ (.slice A' M.length cap')).setCell ⟨z + 1 + 1, 0, none⟩ (.slice A' M.length cap')).setCell ⟨z + 1 + 1, 1, none⟩ (.int .i64 now) := ⟨_, rfl⟩
  rw [← hW3]
  obtain ⟨r0, r1, hPost⟩ := HF.out W3 hW3
  clear HF hW3
  refine ⟨rfl, .tuple #[.agg #[.slice A' M.length cap', .int .i64 now], .bool true], ?_, hPost⟩
  simp [results, Try.results11, go_sem, r0, r1]
theorem step_tail (h : Two w B g ks m now v b o) (hz : w.heap.size = z) {ks1 : Ks} {m1 : List (Int × Int)} {now1 : Int} {v1 : Value} {b1 o1 : Nat} {w1 : World} (h1 : Two w1 B g ks1 m1 now1 v1 b1 o1) (hT : Turned w w1 (own g ks)) (ho : ∀ j, own g ks1 j → own g ks j ∨ z + 3 ≤ j) (hb : 0 < m1.length → b1 = b ∧ b < z ∨ z + 3 ≤ b1) {u0 u1 : Value} {c : TypeId} (k : w1.heap[z + 1 + 1]? = some (.cells #[u0, u1] c (0, 0))) :
    ∀ W3, W3 = (w1.setCell ⟨z + 1 + 1, 0, none⟩ v1).setCell ⟨z + 1 + 1, 1, none⟩ (.int .i64 now1) → W3.cell? ⟨z + 1 + 1, 0, none⟩ = some v1 ∧ W3.cell? ⟨z + 1 + 1, 1, none⟩ = some (.int .i64 now1) ∧ TwoPost w B g ks b (fun _ _ => True) (.returned (.tuple #[.agg #[v1, .int .i64 now1], .bool true])) W3 := by
  rintro W3 rfl
  obtain ⟨tt, k4⟩ := res_store k v1 now1
  have hown : ∀ j, own g ks j → j < z := fun j hj => by rw [← hz]; exact h.wh.own_lt hj
  refine ⟨(cell_of_row _ (z + 1 + 1) 0 _ _ _ k4).trans rfl, (cell_of_row _ (z + 1 + 1) 1 _ _ _ k4).trans rfl, ks1, m1, now1, v1, b1, o1, rfl, ⟨h1.wh.turned tt (fun j hj h3 => ?_), h1.mr.turned tt (fun h0 h3 => ?_), h1.nb⟩, hT.trans tt (fun j hj => .inr (by omega)), fun j hj => (ho j hj).imp (fun h => h) (fun h => by omega), fun h0 => (hb h0).imp (fun h => ⟨h.1, by omega⟩) (fun h => by omega), trivial⟩
  · rcases ho j h3 with h4 | h4
    · have := hown j h4; omega
    · omega
  · rcases hb h0 with h4 | h4
    · omega
    · omega
set_option maxHeartbeats 1000000 in
set_option maxRecDepth 100000 in
theorem step0 (h : Two w B g ks m now v b o) (kind id tick N : Int) (h1 : kind ≠ 1) (h2 : kind ≠ 2) (h3 : kind ≠ 3) (h4 : kind ≠ 4) : StepLaw w B g ks now v b kind id tick N := by
  obtain ⟨A, cap, hv, hlc, hcm, hA⟩ := h.mr.val
  subst hv
  clear hA hlc hcm
  obtain ⟨W, HW, k0, k1, k2, hsz, hbel⟩ := alloc3 w (.cells #[.slice A m.length cap, .int .i64 now] 32) (.cells #[.int .i64 kind, .int .i64 id, .int .i64 tick, .int .i64 N] 34) (.cells #[.slice none 0 0, .int .i64 0] 32)
  have hbz : 0 < m.length → b < w.heap.size := fun h0 => block_lt_of_cell (h.mr.cells 0 h0).1
  have HF := Lib.hid (step_tail (z := w.heap.size) h rfl (ks1 := ks) (w1 := W) ⟨h.wh.below hbel, h.mr.below hbel, h.nb⟩ (Turned.of_below hbel) (fun j hj => .inl hj) (fun h0 => .inl ⟨rfl, hbz h0⟩) k2)
  have i0 := (cell_of_row W (w.heap.size + 1) 0 _ _ _ k1).trans rfl
  have a0 := (cell_of_row W w.heap.size 0 _ _ _ k0).trans rfl
  have a1 := (cell_of_row W w.heap.size 1 _ _ _ k0).trans rfl
  have d0 := (cell_of_row W (w.heap.size + 1 + 1) 0 _ _ _ k2).trans rfl
  have d1 := (cell_of_row W (w.heap.size + 1 + 1) 1 _ _ _ k2).trans rfl
  have f2 : W.frozen? ⟨w.heap.size + 1 + 1, 0, none⟩ = false := by simp only [World.frozen?, k2]; rfl
  have f2' : W.frozen? ⟨w.heap.size + 1 + 1, 1, none⟩ = false := by simp only [World.frozen?, k2]; rfl
  clear k0 k1 k2 hbel hsz h hbz
  go_enter Try.func11, Try.ntmps11
  go_wp2
  obtain ⟨W3, hW3⟩ : ∃ W3, W3 = (W.setCell ⟨w.heap.size + 1 + 1, 0, none⟩ (.slice A m.length cap)).setCell ⟨w.heap.size + 1 + 1, 1, none⟩ (.int .i64 now) := ⟨_, rfl⟩
  rw [← hW3]
  obtain ⟨r0, r1, hPost⟩ := HF.out W3 hW3
  clear HF hW3
  refine ⟨rfl, .tuple #[.agg #[.slice A m.length cap, .int .i64 now], .bool true], ?_, hPost⟩
  simp [results, Try.results11, go_sem, r0, r1]
set_option maxHeartbeats 1000000 in
set_option maxRecDepth 100000 in
theorem step4 (h : Two w B g ks m now v b o) (id tick N : Int) : StepLaw w B g ks now v b 4 id tick N := by
  obtain ⟨A, cap, hv, hlc, hcm, hA⟩ := h.mr.val
  subst hv
  clear hA hlc hcm
  obtain ⟨W, HW, k0, k1, k2, hsz, hbel⟩ := alloc3 w (.cells #[.slice A m.length cap, .int .i64 now] 32) (.cells #[.int .i64 4, .int .i64 id, .int .i64 tick, .int .i64 N] 34) (.cells #[.slice none 0 0, .int .i64 0] 32)
  have hbz : 0 < m.length → b < w.heap.size := fun h0 => block_lt_of_cell (h.mr.cells 0 h0).1
  have HT := Lib.hid h
  have Hbz := Lib.hid hbz
  obtain ⟨bb, hTwo, hbb⟩ : ∃ bb, Two W B g ks m now (.slice A m.length cap) bb o ∧ (bb < W.heap.size → bb = b ∧ b < w.heap.size) := by
    by_cases hm0 : 0 < m.length
    · exact ⟨b, ⟨h.wh.below hbel, h.mr.below hbel, h.nb⟩, fun _ => ⟨rfl, hbz hm0⟩⟩
    · have hm : m = [] := List.length_eq_zero_iff.1 (by omega)
      subst hm
      obtain ⟨A', cap', e1, e2, e3, -⟩ := h.mr.val
      exact ⟨W.heap.size, ⟨h.wh.below hbel, ⟨⟨A', cap', e1, e2, e3, fun h0 => absurd h0 (by simp)⟩, fun j hj => by simp at hj⟩, fun h0 => absurd h0 (by simp)⟩, fun h0 => by omega⟩
  have HL := Lib.hid (turn_law (w := W) hTwo 4 id tick N)
  have Hbb := Lib.hid hbb
  have HBel := Lib.hid hbel
  have HSz := Lib.hid hsz
  have HK2 := Lib.hid k2
  have i0 := (cell_of_row W (w.heap.size + 1) 0 _ _ _ k1).trans rfl
  have i1 := (cell_of_row W (w.heap.size + 1) 1 _ _ _ k1).trans rfl
  have i2 := (cell_of_row W (w.heap.size + 1) 2 _ _ _ k1).trans rfl
  have i3 := (cell_of_row W (w.heap.size + 1) 3 _ _ _ k1).trans rfl
  have a0 := (cell_of_row W w.heap.size 0 _ _ _ k0).trans rfl
  have a1 := (cell_of_row W w.heap.size 1 _ _ _ k0).trans rfl
  clear k0 k1 k2 hbel hsz h hbz hTwo hbb
  go_enter Try.func11, Try.ntmps11
  go_wp2_with fail
  go_fit HL.out; rintro e w1 ⟨ks1, m1, now1, v1, b1, o1, rfl, h1, hT, ho, hb, -⟩
  clear HL i0 i1 i2 i3 a0 a1
  obtain ⟨A1, cap1, rfl, -⟩ := h1.mr.val
  have hown : ∀ j, own g ks j → j < w.heap.size := fun j hj => HT.out.wh.own_lt hj
  have k2 := (hT.block (w.heap.size + 1 + 1) (by rw [HSz.out]; omega) (fun h => by have := hown _ h; omega)).trans HK2.out
  have HF := Lib.hid (step_tail (z := w.heap.size) HT.out rfl h1 ((Turned.of_below HBel.out).trans hT (fun j hj => .inl hj)) (fun j hj => (ho j hj).imp (fun h => h) (fun h => by rw [HSz.out] at h; exact h)) (fun h0 => (hb h0).elim (fun h => .inl ⟨h.1.trans (Hbb.out h.2).1, (Hbb.out h.2).2⟩) (fun h => .inr (by rw [HSz.out] at h; exact h))) k2)
  have d0 := (cell_of_row w1 (w.heap.size + 1 + 1) 0 _ _ _ k2).trans rfl
  have d1 := (cell_of_row w1 (w.heap.size + 1 + 1) 1 _ _ _ k2).trans rfl
  have f2 : w1.frozen? ⟨w.heap.size + 1 + 1, 0, none⟩ = false := by simp only [World.frozen?, k2]; rfl
  have f2' : w1.frozen? ⟨w.heap.size + 1 + 1, 1, none⟩ = false := by simp only [World.frozen?, k2]; rfl
  clear h1 hT ho hb hown k2 HK2 HT Hbz Hbb HBel HSz HW
  go_wp2
  obtain ⟨W3, hW3⟩ : ∃ W3, W3 = (w1.setCell ⟨w.heap.size + 1 + 1, 0, none⟩ (.slice A1 m1.length cap1)).setCell ⟨w.heap.size + 1 + 1, 1, none⟩ (.int .i64 now1) := ⟨_, rfl⟩
  rw [← hW3]
  obtain ⟨r0, r1, hPost⟩ := HF.out W3 hW3
  clear HF hW3
  refine ⟨rfl, .tuple #[.agg #[.slice A1 m1.length cap1, .int .i64 now1], .bool true], ?_, hPost⟩
  simp [results, Try.results11, go_sem, r0, r1]
theorem step_law (h : Two w B g ks m now v b o) (hB : B ≤ w.heap.size) (kind id tick N : Int) : StepLaw w B g ks now v b kind id tick N := by
  by_cases h1 : kind = 1
  · subst h1; exact step1 h hB id tick N
  by_cases h2 : kind = 2
  · subst h2; exact step2 h hB id tick N
  by_cases h3 : kind = 3
  · subst h3; exact step3 h hB id tick N
  by_cases h4 : kind = 4
  · subst h4; exact step4 h id tick N
  exact step0 h kind id tick N h1 h2 h3 h4
end Go.Proofs.Ytppefdodhbdlpaa.H
