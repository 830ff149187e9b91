/- Proved: any rate's cumulative rates are halves of halves, up to the rate itself (for every input that the statement's guards let in; the Go function returns true and leaves its arguments as they were). -/
import Derived.Test.YthkeoioejombpaaPSplitCumsx2
set_option linter.unusedVariables false
set_option linter.unusedSimpArgs false
namespace Go.Proofs.Ythkeoioejombpaa.Pure
open Go.RowKit Go.Proofs.Ythkeoioejombpaa.PSplitCums Go.Proofs.YthkeoioejombpaaW.PrintWords Go.Proofs.YthkeoioejombpaaW.PrintLast Go.Proofs.YthkeoioejombpaaW.PrintMore

theorem wf_u8 {a : Int} (h : (Lit.int .u8 a).wf = true) : 0 ≤ a ∧ a ≤ 255 := by
  simpa [Lit.wf, IntKind.min, IntKind.max, IntKind.signed, IntKind.bits] using h
theorem wf_u16 {a : Int} (h : (Lit.int .u16 a).wf = true) : 0 ≤ a ∧ a ≤ 65535 := by
  simpa [Lit.wf, IntKind.min, IntKind.max, IntKind.signed, IntKind.bits] using h
theorem wf_u32 {a : Int} (h : (Lit.int .u32 a).wf = true) : 0 ≤ a ∧ a ≤ 4294967295 := by
  simpa [Lit.wf, IntKind.min, IntKind.max, IntKind.signed, IntKind.bits] using h
theorem wf_u64 {a : Int} (h : (Lit.int .u64 a).wf = true) : 0 ≤ a ∧ a ≤ 18446744073709551615 := by
  simpa [Lit.wf, IntKind.min, IntKind.max, IntKind.signed, IntKind.bits] using h
theorem wf_i64 {a : Int} (h : (Lit.int .i64 a).wf = true) : -9223372036854775808 ≤ a ∧ a ≤ 9223372036854775807 := by
  simpa [Lit.wf, IntKind.min, IntKind.max, IntKind.signed, IntKind.bits] using h
theorem w64 {n : Int} (h : -9223372036854775808 ≤ n) (h' : n ≤ 9223372036854775807) : wrap64 n = n := by
  unfold wrap64; omega
theorem fuel {k n : Nat} (h : n < k) : ∃ m, k = m + 1 ∧ n ≤ m := ⟨k - 1, by omega, by omega⟩
theorem u64 {n : Int} (h : 0 ≤ n) (h' : n ≤ 18446744073709551615) : IntKind.u64.wrap n = n := by
  simp only [IntKind.wrap, IntKind.bits, IntKind.signed]; simp; omega
theorem right_f (a : Int) : split_right.f a = some (decide (1 ≤ a ∧ a ≤ 8)) := by
  unfold split_right.f
  by_cases h : 1 ≤ a
  · rw [if_pos h]; simp [h]
  · rw [if_neg h]; simp [h]
def cum (r L k : Int) : Int := r / 2 ^ (L - 1 - k).toNat
theorem half_f (a k : Int) (h0 : 0 ≤ k) (h1 : k ≤ 64) : fix_F_Half.f a k = some (a / 2 ^ k.toNat) := by
  unfold fix_F_Half.f shr mx IntKind.bits
  simp only
  have : ¬ k < 0 := by omega
  rw [if_neg this, Nat.min_eq_left (by omega)]
theorem cum_f (r L k : Int) (hL : 1 ≤ L) (hL8 : L ≤ 8) (h0 : 0 ≤ k) (h1 : k < L) : split_Cum.f r L k = some (cum r L k, 0) := by
  unfold split_Cum.f
  simp (disch := omega) only [right_f, Option.bind_some, w64, half_f, if_pos, if_neg, decide_eq_true_eq]
  rfl
theorem cum_no (r L k : Int) (h : ¬ (1 ≤ L ∧ L ≤ 8 ∧ 0 ≤ k ∧ k < L)) : split_Cum.f r L k = some (0, 11) := by
  unfold split_Cum.f
  rw [right_f]; simp only [Option.bind_some, decide_eq_true_eq]
  split
  · split
    · rfl
    · rw [if_pos (by omega)]
  · rfl
def cums (r L : Int) : Nat → Int → List Int
  | 0, _ => []
  | d + 1, i => cum r L i :: cums r L d (i + 1)
theorem cums_length (r L : Int) : ∀ d i, (cums r L d i).length = d
  | 0, _ => rfl
  | d + 1, i => by simp [cums, cums_length r L d]
theorem cums_rd (r L : Int) : ∀ (d : Nat) (i j : Int), 0 ≤ j → j < (d : Int) → rd (cums r L d i) j = cum r L (i + j)
  | 0, _, _, _, _ => by omega
  | d + 1, i, j, h0, h1 => by
    by_cases hj : j = 0
    · subst hj; simp [cums, rd]
    · have := cums_rd r L d (i + 1) (j - 1) (by omega) (by omega)
      unfold rd at this ⊢
      obtain ⟨m, hm⟩ : ∃ m, j.toNat = m + 1 := ⟨j.toNat - 1, by omega⟩
      rw [hm]
      simp only [cums, List.getD_cons_succ]
      rw [show (j - 1).toNat = m from by omega] at this
      rw [this]; congr 1; omega
theorem all_l (r L : Int) (hL : 1 ≤ L) (hL8 : L ≤ 8) (d : Nat) : ∀ (k : Nat) (xs : List Int) (i : Int), 0 ≤ i → L - i = d → xs.length ≤ 100 + i.toNat → d < k → split_All.l0 k r L xs L i = some (xs ++ cums r L d i) := by
  induction d with
  | zero =>
    intro k xs i h0 hd hx hk
    obtain ⟨k, rfl, hk⟩ := fuel hk
    simp (disch := omega) only [split_All.l0, if_neg, cums, List.append_nil]
  | succ d ih =>
    intro k xs i h0 hd hx hk
    obtain ⟨k, rfl, hk⟩ := fuel hk
    simp (disch := omega) only [split_All.l0, if_pos, cum_f, Option.bind_some, w64, cums]
    rw [ih k _ (i + 1) (by omega) (by omega) (by simp; omega) (by omega)]
    simp
theorem all_f (r L : Int) (hL : 1 ≤ L) (hL8 : L ≤ 8) {k : Nat} (hk : 10 ≤ k) : split_All.f k r L = some (cums r L L.toNat 0) := by
  unfold split_All.f mx
  rw [if_neg (by omega), all_l r L hL hL8 L.toNat k [] 0 (by omega) (by omega) (by simp) (by omega)]; rfl
theorem all_no (r L : Int) (h : ¬ (1 ≤ L ∧ L ≤ 8)) {k : Nat} (hk : 10 ≤ k) : split_All.f k r L = some [] := by
  obtain ⟨k, rfl⟩ : ∃ m, k = m + 1 := ⟨k - 1, by omega⟩
  unfold split_All.f mx
  simp only [split_All.l0]
  rw [cum_no r L 0 (by omega)]
  split <;> simp <;> omega
theorem awake_k {k : Nat} (hk : 100 ≤ k) : terracelaw21_awake.f k = some true :=
  at_rounds (g := fun k => terracelaw21_awake.f k) (fun k => terracelaw21_awake.mono k) hk (by decide +kernel)
theorem lawright_f (a : Int) : terracelaw21_right.f a = some (decide (1 ≤ a ∧ a ≤ 8)) := by
  unfold terracelaw21_right.f
  by_cases h : 1 ≤ a
  · rw [if_pos h]; simp [h]
  · rw [if_neg h]; simp [h]
theorem refall_in (r L : Int) (hr : 0 ≤ r ∧ r ≤ 18446744073709551615) (hL8 : L ≤ 8) (xs : List Int) (hx : xs.length ≤ 200) (i : Int) (d : Nat) : ∀ (k : Nat) (x j : Int), 0 ≤ j → L - j = d → 0 ≤ x ∧ x ≤ 18446744073709551615 → d < k → ∃ k', k ≤ k' + d + 1 ∧ terraceref21_All.l1 k r L xs i x j = terraceref21_All.l0 k' r L (xs ++ [x / 2 ^ d]) (wrap64 (i + 1)) := by
  induction d with
  | zero =>
    intro k x j h0 hd hx hk
    obtain ⟨k, rfl, hk⟩ := fuel hk
    refine ⟨k, by omega, ?_⟩
    simp (disch := omega) only [terraceref21_All.l1, if_neg, if_pos]
    simp
  | succ d ih =>
    intro k x j h0 hd hx hk
    obtain ⟨k, rfl, hk⟩ := fuel hk
    have ht : Int.tdiv x 2 = x / 2 := Int.tdiv_eq_ediv_of_nonneg (by omega)
    simp (disch := omega) only [terraceref21_All.l1, if_pos, ht, u64, w64]
    obtain ⟨k', h1, h2⟩ := ih k (x / 2) (j + 1) (by omega) (by omega) (by omega) (by omega)
    refine ⟨k', by omega, ?_⟩
    rw [h2, Int.ediv_ediv_of_nonneg (by omega)]
    rw [Int.pow_succ, Int.mul_comm]
theorem refall_l (r L : Int) (hr : 0 ≤ r ∧ r ≤ 18446744073709551615) (hL : 1 ≤ L) (hL8 : L ≤ 8) (d : Nat) : ∀ (k : Nat) (xs : List Int) (i : Int), 0 ≤ i → L - i = d → xs.length ≤ 100 + i.toNat → 20 * (d + 1) < k → terraceref21_All.l0 k r L xs i = some (xs ++ cums r L d i) := by
  induction d with
  | zero =>
    intro k xs i h0 hd hx hk
    obtain ⟨k, rfl, hk⟩ := fuel hk
    simp (disch := omega) only [terraceref21_All.l0, if_neg, cums, List.append_nil]
  | succ d ih =>
    intro k xs i h0 hd hx hk
    obtain ⟨k, rfl, hk⟩ := fuel hk
    simp (disch := omega) only [terraceref21_All.l0, if_pos, w64]
    obtain ⟨k', h1, h2⟩ := refall_in r L hr hL8 xs (by omega) i d k r (i + 1) (by omega) (by omega) hr (by omega)
    rw [h2, w64 (by omega) (by omega), ih k' _ (i + 1) (by omega) (by omega) (by simp; omega) (by omega)]
    simp only [cums, cum, List.append_assoc, List.singleton_append]
    rw [show (L - 1 - i).toNat = d from by omega]
theorem refall_f (r L : Int) (hr : 0 ≤ r ∧ r ≤ 18446744073709551615) (hL : 1 ≤ L) (hL8 : L ≤ 8) {k : Nat} (hk : 200 ≤ k) : terraceref21_All.f k r L = some (cums r L L.toNat 0) := by
  unfold terraceref21_All.f
  rw [refall_l r L hr hL hL8 L.toNat k [] 0 (by omega) (by omega) (by simp) (by omega)]; rfl
theorem cum_mono (r L i : Int) (hr : 0 ≤ r) (h0 : 1 ≤ i) (h1 : i < L) : cum r L (i - 1) ≤ cum r L i := by
  unfold cum
  obtain ⟨m, hm⟩ : ∃ m, (L - 1 - i).toNat = m := ⟨_, rfl⟩
  rw [hm, show (L - 1 - (i - 1)).toNat = m + 1 from by omega, Int.pow_succ, ← Int.ediv_ediv_of_nonneg (Int.pow_nonneg (by omega))]
  have : 0 ≤ r / 2 ^ m := Int.ediv_nonneg hr (Int.pow_nonneg (by omega))
  omega
theorem tail (L x2 : Int) (x7 x8 : Int) (xs : List Int) (hl : (xs.length : Int) = L) {k : Nat} (hk : 102 ≤ k)
    (h : (0 ≤ x2 ∧ x2 < L ∧ x8 = 0 ∧ x7 = rd xs x2) ∨ (¬ (0 ≤ x2 ∧ x2 < L) ∧ x8 = 11 ∧ x7 = 0)) :
    (if x2 < 0 then terracelaw21_SplitCums.j2 k x2 x7 x8 xs true else terracelaw21_SplitCums.j2 k x2 x7 x8 xs (decide (x2 ≥ L))) = some true := by
  obtain ⟨k, rfl⟩ : ∃ m, k = m + 1 := ⟨k - 1, by omega⟩
  rcases h with ⟨h0, h1, h2, h3⟩ | ⟨h1, h2, h3⟩
  · rw [if_neg (by omega)]
    have : decide (x2 ≥ L) = false := by simp; omega
    simp only [terracelaw21_SplitCums.j2]
    rw [this, if_neg (by simp), if_pos h2, if_pos h0, if_pos (by omega), if_pos h3, awake_k (by omega)]; rfl
  · have hj : terracelaw21_SplitCums.j2 (k + 1) x2 x7 x8 xs true = some true := by
      simp only [terracelaw21_SplitCums.j2]
      rw [if_pos trivial, if_pos h2, if_pos h3, awake_k (by omega)]; rfl
    split
    · exact hj
    · rw [show decide (x2 ≥ L) = true from by simp; omega]; exact hj
theorem loop (r L x2 x7 x8 : Int) (hr : 0 ≤ r) (hL : 1 ≤ L) (hL8 : L ≤ 8)
    (h : (0 ≤ x2 ∧ x2 < L ∧ x8 = 0 ∧ x7 = rd (cums r L L.toNat 0) x2) ∨ (¬ (0 ≤ x2 ∧ x2 < L) ∧ x8 = 11 ∧ x7 = 0)) (d : Nat) : ∀ (k : Nat) (i : Int), 0 ≤ i → L - i = d → d + 110 < k →
    terracelaw21_SplitCums.l0 k L x2 x7 x8 (cums r L L.toNat 0) (cums r L L.toNat 0) L i = some true := by
  have hl : ((cums r L L.toNat 0).length : Int) = L := by rw [cums_length]; omega
  induction d with
  | zero =>
    intro k i h0 hd hk
    obtain ⟨k, rfl, hk⟩ := fuel hk
    simp (disch := omega) only [terracelaw21_SplitCums.l0]
    rw [if_neg (show ¬ i < L by omega)]
    exact tail L x2 x7 x8 _ hl (by omega) h
  | succ d ih =>
    intro k i h0 hd hk
    obtain ⟨k, rfl, hk⟩ := fuel hk
    have hi := ih k (i + 1) (by omega) (by omega) (by omega)
    simp only [terracelaw21_SplitCums.l0]
    rw [if_pos (by omega), if_pos h0, if_pos (by omega), if_pos (by omega), if_pos trivial, w64 (n := i + 1) (by omega) (by omega), hi]
    by_cases hp : i > 0
    · have e1 := cums_rd r L L.toNat 0 i (by omega) (by omega)
      have e2 := cums_rd r L L.toNat 0 (i - 1) (by omega) (by omega)
      have e3 := cum_mono r L i hr (by omega) (by omega)
      rw [Int.zero_add] at e1 e2
      rw [if_pos hp, w64 (n := i - 1) (by omega) (by omega), if_pos (by omega), if_pos (by omega), e1, e2, if_neg (by omega)]
    · rw [if_neg hp]
theorem SplitCums : terracelaw21_SplitCums.Pure := by
  intro r L k2 hr hL hk2
  have hr := wf_u64 hr
  have hL := wf_i64 hL
  have hk2 := wf_i64 hk2
  obtain ⟨k, hk⟩ : ∃ k, 500 < k := ⟨501, by omega⟩
  refine ⟨k, ?_⟩
  unfold terracelaw21_SplitCums.f
  rw [lawright_f]
  by_cases h : 1 ≤ L ∧ L ≤ 8
  · obtain ⟨h1, h8⟩ := h
    have hl : ((cums r L L.toNat 0).length : Int) = L := by rw [cums_length]; omega
    have hlast : rd (cums r L L.toNat 0) (L - 1) = r := by
      rw [cums_rd r L L.toNat 0 (L - 1) (by omega) (by omega)]
      unfold cum
      rw [show (L - 1 - (0 + (L - 1))).toNat = 0 from by omega]; simp
    rw [all_f r L h1 h8 (by omega)]
    have main : ∀ x7 x8, ((0 ≤ k2 ∧ k2 < L ∧ x8 = 0 ∧ x7 = rd (cums r L L.toNat 0) k2) ∨ (¬ (0 ≤ k2 ∧ k2 < L) ∧ x8 = 11 ∧ x7 = 0)) →
        terracelaw21_SplitCums.j0 k L k2 x7 x8 (cums r L L.toNat 0) (cums r L L.toNat 0) (rd (cums r L L.toNat 0) (L - 1) != r) = some true := by
      intro x7 x8 hh
      obtain ⟨k, rfl, hk⟩ := fuel hk
      simp only [terracelaw21_SplitCums.j0]
      rw [hlast, if_neg (by simp), hl]
      exact loop r L k2 x7 x8 (by omega) h1 h8 hh L.toNat k 0 (by omega) (by omega) (by omega)
    by_cases hc : 0 ≤ k2 ∧ k2 < L
    · rw [cum_f r L k2 h1 h8 hc.1 hc.2]
      simp only [Option.bind_some]
      rw [refall_f r L hr h1 h8 (by omega)]
      simp only [Option.bind_some]
      rw [w64 (n := L - 1) (by omega) (by omega), hl, if_pos (by simp; omega), if_pos trivial, if_pos (by omega), if_pos (by omega)]
      exact main _ _ (.inl ⟨hc.1, hc.2, rfl, by rw [cums_rd r L L.toNat 0 k2 hc.1 (by omega)]; simp⟩)
    · rw [cum_no r L k2 (by omega)]
      simp only [Option.bind_some]
      rw [refall_f r L hr h1 h8 (by omega)]
      simp only [Option.bind_some]
      rw [w64 (n := L - 1) (by omega) (by omega), hl, if_pos (by simp; omega), if_pos trivial, if_pos (by omega), if_pos (by omega)]
      exact main _ _ (.inr ⟨hc, rfl, rfl⟩)
  · rw [cum_no r L k2 (by omega), all_no r L h (by omega)]
    simp only [Option.bind_some, decide_eq_true_eq]
    simp only [h, if_false, if_true, List.length_nil]
    rw [awake_k (by omega)]; rfl

end Go.Proofs.Ythkeoioejombpaa.Pure
