/- WheelFull: whatever the number, the law's call returns true and leaves what lay before it. Conditions: none. -/
import Derived.Test.YtppefdodhbdlpaaHx
namespace Go.Proofs.Ytppefdodhbdlpaa.H
open Go.RowKit Go.Shelf
set_option linter.unusedVariables false
set_option linter.unusedSimpArgs false
variable {w : World} {B g : Nat} {ks : Nat → Option Nat} {now n : Int} {m r : List (Int × Int)} {t : Int × Int}
def FullI (m : List (Int × Int)) (i : Nat) : Prop := m.length = min i 1024 ∧ ∀ x ∈ m, x.1 < 7 * (i : Int)
theorem full_step (h : Good m) {i : Nat} (hi : FullI m i) (h1 : i < 1100) :
    setE m ((i : Int) * 7) ((i : Int) % 100) = (if i < 1024 then 0 else 15) ∧ FullI (setM m ((i : Int) * 7) ((i : Int) % 100)) (i + 1) := by
  have hno : has m ((i : Int) * 7) = false := has_false.2 (fun x hx => by have := hi.2 x hx; omega)
  have hok : okTick ((i : Int) % 100) = true := decide_eq_true (by omega)
  have hE : setE m ((i : Int) * 7) ((i : Int) % 100) = (if i < 1024 then 0 else 15) := by
    unfold setE
    rw [hok, hno, hi.1]
    by_cases h2 : i < 1024
    · rw [if_pos rfl, if_neg (by simp), if_neg (by omega), if_pos h2]
    · rw [if_pos rfl, if_neg (by simp), if_pos (by omega), if_neg h2]
  refine ⟨hE, ?_⟩
  unfold setM
  rw [hE]
  by_cases h2 : i < 1024
  · rw [if_pos h2, if_pos rfl]
    refine ⟨by rw [length_ins h.sorted, hi.1]; omega, fun x hx => ?_⟩
    rcases mem_ins.1 hx with hx | rfl
    · have := hi.2 x hx; omega
    · dsimp only; omega
  · rw [if_neg h2, if_neg (by decide)]
    exact ⟨by rw [hi.1]; omega, fun x hx => by have := hi.2 x hx; omega⟩
set_option maxHeartbeats 1000000 in
set_option maxRecDepth 100000 in
theorem full_out (w : World) (n : Int) (hn : n < 0 ∨ 1100 < n) : Calls Try.prog 3 #[.int .i64 n] w fun e w' => e = .returned (.bool true) ∧ Below w.heap.size w w' := by
  rcases hn with hn | hn
  · go_enter Try.func3, Try.ntmps3
    go_wp2_with fail
    have hX := new_at w; go_fit hX; clear hX; rintro e w1 ⟨rfl, h1⟩
    have H1 := Lib.hid h1.below
    clear h1
    go_wp2_with fail
    have hX := awake_c w1; go_fit hX; clear hX; rintro e w2 ⟨rfl, h2⟩
    have H2 := Lib.hid h2
    clear h2
    go_wp2
    go_ret
    exact ⟨rfl, H1.out.trans (H2.out.mono H1.out.size)⟩
  · have hn2 : ¬ n < 0 := by omega
    go_enter Try.func3, Try.ntmps3
    go_wp2_with fail
    have hX := new_at w; go_fit hX; clear hX; rintro e w1 ⟨rfl, h1⟩
    have H1 := Lib.hid h1.below
    clear h1
    go_wp2_with fail
    have hX := awake_c w1; go_fit hX; clear hX; rintro e w2 ⟨rfl, h2⟩
    have H2 := Lib.hid h2
    clear h2
    go_wp2
    go_ret
    exact ⟨rfl, H1.out.trans (H2.out.mono H1.out.size)⟩
set_option maxHeartbeats 2000000 in
set_option maxRecDepth 100000 in
theorem full_in (w : World) (n : Nat) (hn : n ≤ 1100) : Calls Try.prog 3 #[.int .i64 n] w fun e w' => e = .returned (.bool true) ∧ Below w.heap.size w w' := by
  have hnz : ¬ ((n : Int) < 0) := by omega
  have hnz2 : ¬ (1100 < (n : Int)) := by omega
  go_enter Try.func3, Try.ntmps3
  go_wp2_with fail
  have hX := new_at w; go_fit hX; clear hX; rintro e w1 ⟨rfl, h1⟩
  obtain ⟨g, HG⟩ : ∃ g, Hid (w.heap.size = g) := ⟨_, Lib.hid rfl⟩
  have HB : Hid (g ≤ w.heap.size) := Lib.hid (by rw [← HG.out]; exact Nat.le_refl _)
  rw [HG.out] at h1 ⊢
  have H1 := Lib.hid h1
  clear h1
  go_wp2
  go_loopg [4, 5, 23] n (fun gg _ _ s23 wr => ∃ i : Nat, ∃ ks m, i ≤ n ∧ n - i ≤ gg ∧ s23 = .int .i64 i ∧ Aside (At w wr g g ks m 0) ∧ Aside (FullI m i))
  case atStart => exact ⟨0, noks, [], by omega, by omega, rfl, H1.out, ⟨rfl, fun x hx => (by cases hx)⟩⟩
  case round =>
    obtain ⟨i, ks, m, hi, hgg, rfl, hA, hF⟩ := hrel
    by_cases hlt : i < n
    · have hltz : (i : Int) < (n : Int) := by omega
      obtain ⟨hE, hF2⟩ := full_step hA.out.wh.good hF.out (by omega)
      have HS := Lib.hid (set_at hA.out ((i : Int) * 7) ((i : Int) % 100) HB.out ⟨hE, rfl⟩)
      have HF2 := Lib.hid hF2
      clear hE hF2
      have hb1 : (i : Int) * 7 ≤ 7700 := by omega
      have hb2 : 0 ≤ (i : Int) * 7 := by omega
      by_cases hc : i < 1024
      · rw [if_pos hc] at HS
        have hcz : (i : Int) < 1024 := by omega
        have hcz2 : ¬ (1024 : Int) ≤ (i : Int) := by omega
        go_wp2_with fail
        have hX := HS.out; go_fit hX; clear hX; rintro e w2 ⟨rfl, ks2, h2⟩
        have H2 := Lib.hid h2
        clear h2
        go_wp2
        go_roundg (n - (i + 1))
        case measure => omega
        case rel => exact ⟨i + 1, ks2, _, by omega, by omega, by go_num, H2.out, HF2.out⟩
      · rw [if_neg hc] at HS
        have hcz : ¬ (i : Int) < 1024 := by omega
        have hcz2 : (1024 : Int) ≤ (i : Int) := by omega
        go_wp2_with fail
        have hX := HS.out; go_fit hX; clear hX; rintro e w2 ⟨rfl, ks2, h2⟩
        have H2 := Lib.hid h2
        clear h2
        go_wp2
        go_roundg (n - (i + 1))
        case measure => omega
        case rel => exact ⟨i + 1, ks2, _, by omega, by omega, by go_num, H2.out, HF2.out⟩
    · have hltz : ¬ (i : Int) < (n : Int) := by omega
      obtain rfl : i = n := by omega
      have hml : (m.length : Int) = min (i : Int) 1024 := by have := hF.out.1; omega
      have HL := Lib.hid (len_wh hA.out.wh)
      rw [hml] at HL
      have HA := Lib.hid hA.out.below
      clear hml
      go_wp2_with fail
      have hX := HL.out; go_fit hX; clear hX; rintro e w9 ⟨rfl, rfl⟩
      go_wp2_with fail
      have hX := awake_c wr; go_fit hX; clear hX; rintro e w2 ⟨rfl, h2⟩
      have H2 := Lib.hid h2
      clear h2
      go_wp2
      go_ret
      exact ⟨rfl, HA.out.trans (H2.out.mono HA.out.size)⟩
theorem full_c (w : World) (n : Int) : Calls Try.prog 3 #[.int .i64 n] w fun e w' => e = .returned (.bool true) ∧ Below w.heap.size w w' := by
  by_cases h : 0 ≤ n ∧ n ≤ 1100
  · obtain ⟨k, rfl⟩ := Int.eq_ofNat_of_zero_le h.1
    exact full_in w k (by omega)
  · exact full_out w n (by omega)
end Go.Proofs.Ytppefdodhbdlpaa.H
