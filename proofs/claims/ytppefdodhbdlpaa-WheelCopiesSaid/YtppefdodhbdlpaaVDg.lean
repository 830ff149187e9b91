import Derived.Test.YtppefdodhbdlpaaVDe
import Derived.Test.YtppefdodhbdlpaaVHv
import Derived.Test.YtppefdodhbdlpaaVHq
import Derived.Test.YtppefdodhbdlpaaVCg
import Derived.BigQuiet
namespace Go.Proofs.Ytppefdodhbdlpaa.H
open Go.RowKit Go.Shelf
set_option linter.unusedVariables false
set_option linter.unusedSimpArgs false
variable {w : World} {B g : Nat} {ks : Nat → Option Nat} {now n : Int} {m r l : List (Int × Int)} {t : Int × Int} {b o : Nat} {v : Value} {z : Nat} {W W' : World}
abbrev SameLaw (w : World) (g : Nat) (now : Int) (v : Value) : Prop :=
  Calls Try.prog 12 #[.pointer (some ⟨g, 0, none⟩), .agg #[v, .int .i64 now]] w fun e w' => e = .returned (.bool true) ∧ Below w.heap.size w w'
theorem bne_self_int (a : Int) : (a != a) = false := by simp
theorem drewN_below (w : World) (n B : Nat) : Below B w (w.drewN n) := ⟨rfl, rfl, rfl, Nat.le_refl _, fun _ _ => rfl⟩
theorem len_q (h : Wh w B g ks m now) (hq : (m.length : Int) = n) : ∀ q, Calls Try.prog 10 #[.pointer (some ⟨g, 0, none⟩)] (w.drewN q) fun e w' => e = .returned (.int .i64 n) ∧ w' = w.drewN q := fun q => by
  rw [← hq]
  exact (len_wh (h.below (drewN_below w q _))).mono fun e w' h => ⟨h.1, h.2.symm⟩
theorem now_q (h : Wh w B g ks m now) : ∀ q, Calls Try.prog 19 #[.pointer (some ⟨g, 0, none⟩)] (w.drewN q) fun e w' => e = .returned (.int .i64 now) ∧ w' = w.drewN q := fun q =>
  (now_wh (h.below (drewN_below w q _))).mono fun e w' h => ⟨h.1, h.2.symm⟩
set_option maxHeartbeats 1000000 in
set_option maxRecDepth 100000 in
theorem same_nil (h : Two w B g ks [] now v b o) : SameLaw w g now v := by
  obtain ⟨A, cap, hv, hlc, hcm, hA⟩ := h.mr.val
  subst hv
  clear hA
  have hb0 : Below w.heap.size w (w.alloc (.cells #[.slice A 0 cap, .int .i64 now] 32)) := (Below.refl _ _).alloc (Nat.le_refl _) _
  have HA := Lib.hid (all_c (h.wh.below hb0))
  have HW := Lib.hid h.wh
  have HB0 := Lib.hid hb0
  have HK := Lib.hid (heap_alloc_new w (.cells #[.slice A 0 cap, .int .i64 now] 32))
  clear h hb0 hlc hcm
  dsimp only [List.length_nil] at *
  go_enter Try.func12, Try.ntmps12
  go_wp2_with fail
  go_fit HA.out; rintro e w1 ⟨v2, b2, rfl, hm2, hb2, hbel⟩
  clear HA
  obtain ⟨A2, cap2, rfl, -⟩ := hm2.val
  have hk1 := (hbel.block w.heap.size (by simp)).trans HK.out
  have a0 := (cell_of_row w1 w.heap.size 0 _ _ _ hk1).trans rfl
  have a1 := (cell_of_row w1 w.heap.size 1 _ _ _ hk1).trans rfl
  have hb1 : Below w.heap.size w w1 := HB0.out.trans (hbel.mono HB0.out.size)
  have HB1 := Lib.hid hb1
  have HW1 := Lib.hid (HW.out.below hb1)
  have HL := Lib.hid (len_q HW1.out (n := 0) rfl)
  have HN := Lib.hid (now_q HW1.out)
  have HX := Lib.hid (fun q => next_nil (HW1.out.below (drewN_below w1 q _)))
  clear hk1 hb1 hbel hm2 hb2 HW HB0 HK HW1
  dsimp only [List.length_nil] at *
  go_wp2_with fail
  go_quiet (first | (go_at_call 10; refine Calls.quiet_of_same (HL.out _)) | (go_at_call 19; refine Calls.quiet_of_same (HN.out _)))
  go_wp2_with fail
  go_loopg [6, 7, 8, 35] 0 (fun gg _ _ _ s35 wr => s35 = .int .i64 0 ∧ Aside (wr = w1.drewN nq))
  case atStart => exact ⟨rfl, rfl⟩
  case round =>
    obtain ⟨rfl, hwr⟩ := hrel
    have hX := HX.out nq
    rw [← hwr.out] at hX
    have HX2 := Lib.hid hX
    have HB2 := Lib.hid (HB1.out.trans ((drewN_below w1 nq _)))
    rw [← hwr.out] at HB2
    clear hX hwr HX HL HN a0 a1 HB1
    go_wp2_with fail
    go_fit HX2.out; rintro e w2 ⟨rfl, hb2⟩
    have HB3 := Lib.hid (HB2.out.trans (hb2.mono HB2.out.size))
    clear hb2 HB2 HX2
    go_wp2
    go_ret
    exact ⟨rfl, HB3.out⟩
set_option maxHeartbeats 2000000 in
set_option maxRecDepth 100000 in
theorem same_cons (h : Two w B g ks (t :: r) now v b o) : SameLaw w g now v := by
  obtain ⟨m, hm⟩ : ∃ m, t :: r = m := ⟨_, rfl⟩
  obtain ⟨q, hq⟩ : ∃ q, m.length = q := ⟨_, rfl⟩
  have hqs : q ≤ 1024 := by rw [← hq, ← hm]; exact h.wh.good.len
  have hq0 : 0 < q := by rw [← hq, ← hm]; simp
  have hNX := fun (W : World) (hb : Below w.heap.size w W) => next_cons (h.wh.below hb)
  rw [hm] at h
  have ht : ∃ hz : 0 < m.length, m[0] = t := ⟨by omega, by subst hm; rfl⟩
  have HNX := Lib.hid hNX
  clear hm hNX
  obtain ⟨A, cap, hv, hlc, hcm, hA⟩ := h.mr.val
  obtain rfl := hA (by omega)
  subst hv
  clear hA
  rw [hq] at hlc h ⊢
  have hb0 : Below w.heap.size w (w.alloc (.cells #[.slice (some ⟨b, o, none⟩) q cap, .int .i64 now] 32)) := (Below.refl _ _).alloc (Nat.le_refl _) _
  have HA := Lib.hid (all_c (h.wh.below hb0))
  have HT := Lib.hid h
  have HB0 := Lib.hid hb0
  have HK := Lib.hid (heap_alloc_new w (.cells #[.slice (some ⟨b, o, none⟩) q cap, .int .i64 now] 32))
  have HQ := Lib.hid hq
  have HM0 := Lib.hid ht
  have hqz : (0 : Int) < (q : Int) := by omega
  clear h hb0 ht hq
  go_enter Try.func12, Try.ntmps12
  go_wp2_with fail
  go_fit HA.out; rintro e w1 ⟨v2, b2, rfl, hm2, hb2, hbel⟩
  clear HA
  obtain ⟨A2, cap2, rfl, hlc2, hcm2, hA2⟩ := hm2.val
  have hA2 := hA2 (by rw [HQ.out]; omega)
  subst hA2
  rw [HQ.out] at hlc2 hm2 ⊢
  have hk1 := (hbel.block w.heap.size (by simp)).trans HK.out
  have hb1 : Below w.heap.size w w1 := HB0.out.trans (hbel.mono HB0.out.size)
  have a0 := (cell_of_row w1 w.heap.size 0 _ _ _ hk1).trans rfl
  have a1 := (cell_of_row w1 w.heap.size 1 _ _ _ hk1).trans rfl
  have HB1 := Lib.hid hb1
  have HK1 := Lib.hid hk1
  have HW1 := Lib.hid (HT.out.wh.below hb1)
  have HM1 := Lib.hid (HT.out.mr.below hb1)
  have HM2 := Lib.hid hm2
  have HL := Lib.hid (len_q HW1.out (n := q) (by rw [HQ.out]))
  have HN := Lib.hid (now_q HW1.out)
  clear hk1 hb1 hbel hm2 hb2 HB0 HK
  go_wp2_with fail
  go_quiet (first | (go_at_call 10; refine Calls.quiet_of_same (HL.out _)) | (go_at_call 19; refine Calls.quiet_of_same (HN.out _)))
  go_wp2_with fail
  go_loopg [6, 7, 8, 35] q (fun gg _ _ _ s35 wr => ∃ i : Nat, i ≤ q ∧ q - i ≤ gg ∧ s35 = .int .i64 i ∧ Aside (Below w1.heap.size w1 wr))
  case atStart => exact ⟨0, by omega, by omega, rfl, drewN_below w1 nq _⟩
  case round =>
    obtain ⟨i, hi, hgg, rfl, hwr⟩ := hrel
    clear a0 a1 HL HN
    by_cases hlt : i < q
    · have hltz : (i : Int) < (q : Int) := by omega
      have him : i < m.length := by rw [HQ.out]; exact hlt
      have hmem := List.getElem_mem him
      obtain ⟨x1, x2, hx⟩ : ∃ x1 x2, m[i] = (x1, x2) := ⟨_, _, rfl⟩
      rw [hx] at hmem
      have hg := get_wh (HW1.out.below hwr.out) x1
      rw [tickOf_mem HT.out.wh.good hmem, has_true.2 ⟨_, hmem, rfl⟩] at hg
      have HG := Lib.hid hg
      have hc2 := (HM2.out.below hwr.out).cells i him
      rw [hx, Nat.zero_add] at hc2
      obtain ⟨d0, d1⟩ := hc2
      have HX := Lib.hid hx
      clear hmem hg hx
      go_wp2_with fail
      go_fit HG.out; rintro e w2 ⟨rfl, hb2⟩
      clear HG d0 d1
      have hb12 : Below w1.heap.size w1 w2 := hwr.out.trans (hb2.mono hwr.out.size)
      have hc2 := (HM2.out.below hb12).cells i him
      have hc1 := (HM1.out.below hb12).cells i him
      rw [HX.out, Nat.zero_add] at hc2
      rw [HX.out] at hc1
      obtain ⟨d0, d1⟩ := hc2
      obtain ⟨e0, e1⟩ := hc1
      have hk2 := (hb12.block w.heap.size (by have := (Array.getElem?_eq_some_iff.1 HK1.out).1; exact this)).trans HK1.out
      have a0 := (cell_of_row w2 w.heap.size 0 _ _ _ hk2).trans rfl
      have a1 := (cell_of_row w2 w.heap.size 1 _ _ _ hk2).trans rfl
      have HB2 := Lib.hid hb12
      have hne := fun W => neq58_same x1 x2 W
      clear hk2 hb12 hb2 HX him hwr
      go_wp2_with fail
      go_quiet (fail)
      go_wp2
      go_roundg (q - (i + 1))
      case measure => omega
      case rel => exact ⟨i + 1, by omega, by omega, rfl, HB2.out.trans (drewN_below w2 nq _)⟩
    · have hltz : ¬ (i : Int) < (q : Int) := by omega
      have hb2 := HB1.out.trans (hwr.out.mono HB1.out.size)
      have HX := Lib.hid (HNX.out _ hb2)
      have HB2 := Lib.hid hb2
      clear hb2 HNX HT
      go_wp2_with fail
      go_fit HX.out; rintro e w2 ⟨rfl, hb2⟩
      have HB3 := Lib.hid (HB2.out.trans (hb2.mono HB2.out.size))
      have hbb : Below w1.heap.size w1 w2 := hwr.out.trans (hb2.mono hwr.out.size)
      obtain ⟨hz, htt⟩ := HM0.out
      have hc2 := (HM2.out.below hbb).cells 0 hz
      rw [htt, Nat.zero_mul, Nat.zero_add] at hc2
      obtain ⟨d0, d1⟩ := hc2
      obtain ⟨t1, t2⟩ := t
      dsimp only at d0 d1 ⊢
      clear hb2 HB2 HX hbb hwr htt hz HM0
      go_wp2_with fail
      go_ret
      exact ⟨rfl, HB3.out⟩
theorem same_law (h : Two w B g ks m now v b o) : SameLaw w g now v := by
  cases m with
  | nil => exact same_nil h
  | cons t r => exact same_cons h
end Go.Proofs.Ytppefdodhbdlpaa.H
