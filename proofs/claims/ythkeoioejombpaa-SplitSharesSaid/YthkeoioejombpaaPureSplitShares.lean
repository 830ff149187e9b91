/- Proved: each layer above the lowest has as many parts as all below it together (for every input that the statement's guards let in; the Go function returns true and leaves its arguments as they were). -/
import Derived.Test.YthkeoioejombpaaPSplitSharesx2
set_option linter.unusedVariables false
set_option linter.unusedSimpArgs false
namespace Go.Proofs.Ythkeoioejombpaa.Pure
open Go.RowKit Go.Proofs.Ythkeoioejombpaa.PSplitShares Go.Proofs.YthkeoioejombpaaW.PrintWords Go.Proofs.YthkeoioejombpaaW.PrintLast Go.Proofs.YthkeoioejombpaaW.PrintMore

theorem wf_u8 {a : Int} (h : (Lit.int .u8 a).wf = true) : 0 ≤ a ∧ a ≤ 255 := by
  simpa [Lit.wf, IntKind.min, IntKind.max, IntKind.signed, IntKind.bits] using h
theorem wf_u16 {a : Int} (h : (Lit.int .u16 a).wf = true) : 0 ≤ a ∧ a ≤ 65535 := by
  simpa [Lit.wf, IntKind.min, IntKind.max, IntKind.signed, IntKind.bits] using h
theorem wf_u32 {a : Int} (h : (Lit.int .u32 a).wf = true) : 0 ≤ a ∧ a ≤ 4294967295 := by
  simpa [Lit.wf, IntKind.min, IntKind.max, IntKind.signed, IntKind.bits] using h
theorem wf_u64 {a : Int} (h : (Lit.int .u64 a).wf = true) : 0 ≤ a ∧ a ≤ 18446744073709551615 := by
  simpa [Lit.wf, IntKind.min, IntKind.max, IntKind.signed, IntKind.bits] using h
theorem wf_i64 {a : Int} (h : (Lit.int .i64 a).wf = true) : -9223372036854775808 ≤ a ∧ a ≤ 9223372036854775807 := by
  simpa [Lit.wf, IntKind.min, IntKind.max, IntKind.signed, IntKind.bits] using h
theorem w64 {n : Int} (h : -9223372036854775808 ≤ n) (h' : n ≤ 9223372036854775807) : wrap64 n = n := by
  unfold wrap64; omega
theorem fuel {k n : Nat} (h : n < k) : ∃ m, k = m + 1 ∧ n ≤ m := ⟨k - 1, by omega, by omega⟩
theorem u64 {n : Int} (h : 0 ≤ n) (h' : n ≤ 18446744073709551615) : IntKind.u64.wrap n = n := by
  simp only [IntKind.wrap, IntKind.bits, IntKind.signed]; simp; omega
theorem right_f (a : Int) : split_right.f a = some (decide (1 ≤ a ∧ a ≤ 8)) := by
  unfold split_right.f
  by_cases h : 1 ≤ a
  · rw [if_pos h]; simp [h]
  · rw [if_neg h]; simp [h]
def cum (r L k : Int) : Int := r / 2 ^ (L - 1 - k).toNat
theorem half_f (a k : Int) (h0 : 0 ≤ k) (h1 : k ≤ 64) : fix_F_Half.f a k = some (a / 2 ^ k.toNat) := by
  unfold fix_F_Half.f shr mx IntKind.bits
  simp only
  have : ¬ k < 0 := by omega
  rw [if_neg this, Nat.min_eq_left (by omega)]
theorem cum_f (r L k : Int) (hL : 1 ≤ L) (hL8 : L ≤ 8) (h0 : 0 ≤ k) (h1 : k < L) : split_Cum.f r L k = some (cum r L k, 0) := by
  unfold split_Cum.f
  simp (disch := omega) only [right_f, Option.bind_some, w64, half_f, if_pos, if_neg, decide_eq_true_eq]
  rfl
theorem cum_no (r L k : Int) (h : ¬ (1 ≤ L ∧ L ≤ 8 ∧ 0 ≤ k ∧ k < L)) : split_Cum.f r L k = some (0, 11) := by
  unfold split_Cum.f
  rw [right_f]; simp only [Option.bind_some, decide_eq_true_eq]
  split
  · split
    · rfl
    · rw [if_pos (by omega)]
  · rfl
def cums (r L : Int) : Nat → Int → List Int
  | 0, _ => []
  | d + 1, i => cum r L i :: cums r L d (i + 1)
theorem cums_length (r L : Int) : ∀ d i, (cums r L d i).length = d
  | 0, _ => rfl
  | d + 1, i => by simp [cums, cums_length r L d]
theorem cums_rd (r L : Int) : ∀ (d : Nat) (i j : Int), 0 ≤ j → j < (d : Int) → rd (cums r L d i) j = cum r L (i + j)
  | 0, _, _, _, _ => by omega
  | d + 1, i, j, h0, h1 => by
    by_cases hj : j = 0
    · subst hj; simp [cums, rd]
    · have := cums_rd r L d (i + 1) (j - 1) (by omega) (by omega)
      unfold rd at this ⊢
      obtain ⟨m, hm⟩ : ∃ m, j.toNat = m + 1 := ⟨j.toNat - 1, by omega⟩
      rw [hm]
      simp only [cums, List.getD_cons_succ]
      rw [show (j - 1).toNat = m from by omega] at this
      rw [this]; congr 1; omega
theorem all_l (r L : Int) (hL : 1 ≤ L) (hL8 : L ≤ 8) (d : Nat) : ∀ (k : Nat) (xs : List Int) (i : Int), 0 ≤ i → L - i = d → xs.length ≤ 100 + i.toNat → d < k → split_All.l0 k r L xs L i = some (xs ++ cums r L d i) := by
  induction d with
  | zero =>
    intro k xs i h0 hd hx hk
    obtain ⟨k, rfl, hk⟩ := fuel hk
    simp (disch := omega) only [split_All.l0, if_neg, cums, List.append_nil]
  | succ d ih =>
    intro k xs i h0 hd hx hk
    obtain ⟨k, rfl, hk⟩ := fuel hk
    simp (disch := omega) only [split_All.l0, if_pos, cum_f, Option.bind_some, w64, cums]
    rw [ih k _ (i + 1) (by omega) (by omega) (by simp; omega) (by omega)]
    simp
theorem all_f (r L : Int) (hL : 1 ≤ L) (hL8 : L ≤ 8) {k : Nat} (hk : 10 ≤ k) : split_All.f k r L = some (cums r L L.toNat 0) := by
  unfold split_All.f mx
  rw [if_neg (by omega), all_l r L hL hL8 L.toNat k [] 0 (by omega) (by omega) (by simp) (by omega)]; rfl
theorem all_no (r L : Int) (h : ¬ (1 ≤ L ∧ L ≤ 8)) {k : Nat} (hk : 10 ≤ k) : split_All.f k r L = some [] := by
  obtain ⟨k, rfl⟩ : ∃ m, k = m + 1 := ⟨k - 1, by omega⟩
  unfold split_All.f mx
  simp only [split_All.l0]
  rw [cum_no r L 0 (by omega)]
  split <;> simp <;> omega
theorem awake_k {k : Nat} (hk : 100 ≤ k) : terracelaw21_awake.f k = some true :=
  at_rounds (g := fun k => terracelaw21_awake.f k) (fun k => terracelaw21_awake.mono k) hk (by decide +kernel)
theorem lawright_f (a : Int) : terracelaw21_right.f a = some (decide (1 ≤ a ∧ a ≤ 8)) := by
  unfold terracelaw21_right.f
  by_cases h : 1 ≤ a
  · rw [if_pos h]; simp [h]
  · rw [if_neg h]; simp [h]
theorem SplitShares : terracelaw21_SplitShares.Pure := by
  intro L hL
  have hL := wf_i64 hL
  by_cases h : 1 ≤ L ∧ L ≤ 8
  · refine ⟨300, ?_⟩
    obtain rfl | rfl | rfl | rfl | rfl | rfl | rfl | rfl : L = 1 ∨ L = 2 ∨ L = 3 ∨ L = 4 ∨ L = 5 ∨ L = 6 ∨ L = 7 ∨ L = 8 := by omega
    all_goals decide +kernel
  · refine ⟨300, ?_⟩
    unfold terracelaw21_SplitShares.f split_Shares.f
    rw [right_f, lawright_f]
    simp only [Option.bind_some, decide_eq_true_eq, if_neg h, List.length_nil]
    rw [awake_k (by omega)]; rfl

end Go.Proofs.Ythkeoioejombpaa.Pure
