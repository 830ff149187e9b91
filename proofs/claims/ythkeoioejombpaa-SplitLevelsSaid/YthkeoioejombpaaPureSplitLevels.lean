/- Proved: the level of any rate is the greatest one up to which no cumulative rate is above it (for every input that the statement's guards let in; the Go function returns true and leaves its arguments as they were). -/
import Derived.Test.YthkeoioejombpaaPSplitLevelsx2
set_option linter.unusedVariables false
set_option linter.unusedSimpArgs false
namespace Go.Proofs.Ythkeoioejombpaa.Pure
open Go.RowKit Go.Proofs.Ythkeoioejombpaa.PSplitLevels Go.Proofs.YthkeoioejombpaaW.PrintWords Go.Proofs.YthkeoioejombpaaW.PrintLast Go.Proofs.YthkeoioejombpaaW.PrintMore

theorem wf_u8 {a : Int} (h : (Lit.int .u8 a).wf = true) : 0 ≤ a ∧ a ≤ 255 := by
  simpa [Lit.wf, IntKind.min, IntKind.max, IntKind.signed, IntKind.bits] using h
theorem wf_u16 {a : Int} (h : (Lit.int .u16 a).wf = true) : 0 ≤ a ∧ a ≤ 65535 := by
  simpa [Lit.wf, IntKind.min, IntKind.max, IntKind.signed, IntKind.bits] using h
theorem wf_u32 {a : Int} (h : (Lit.int .u32 a).wf = true) : 0 ≤ a ∧ a ≤ 4294967295 := by
  simpa [Lit.wf, IntKind.min, IntKind.max, IntKind.signed, IntKind.bits] using h
theorem wf_u64 {a : Int} (h : (Lit.int .u64 a).wf = true) : 0 ≤ a ∧ a ≤ 18446744073709551615 := by
  simpa [Lit.wf, IntKind.min, IntKind.max, IntKind.signed, IntKind.bits] using h
theorem wf_i64 {a : Int} (h : (Lit.int .i64 a).wf = true) : -9223372036854775808 ≤ a ∧ a ≤ 9223372036854775807 := by
  simpa [Lit.wf, IntKind.min, IntKind.max, IntKind.signed, IntKind.bits] using h
theorem w64 {n : Int} (h : -9223372036854775808 ≤ n) (h' : n ≤ 9223372036854775807) : wrap64 n = n := by
  unfold wrap64; omega
theorem fuel {k n : Nat} (h : n < k) : ∃ m, k = m + 1 ∧ n ≤ m := ⟨k - 1, by omega, by omega⟩
theorem u64 {n : Int} (h : 0 ≤ n) (h' : n ≤ 18446744073709551615) : IntKind.u64.wrap n = n := by
  simp only [IntKind.wrap, IntKind.bits, IntKind.signed]; simp; omega
theorem right_f (a : Int) : split_right.f a = some (decide (1 ≤ a ∧ a ≤ 8)) := by
  unfold split_right.f
  by_cases h : 1 ≤ a
  · rw [if_pos h]; simp [h]
  · rw [if_neg h]; simp [h]
def cum (r L k : Int) : Int := r / 2 ^ (L - 1 - k).toNat
theorem half_f (a k : Int) (h0 : 0 ≤ k) (h1 : k ≤ 64) : fix_F_Half.f a k = some (a / 2 ^ k.toNat) := by
  unfold fix_F_Half.f shr mx IntKind.bits
  simp only
  have : ¬ k < 0 := by omega
  rw [if_neg this, Nat.min_eq_left (by omega)]
theorem cum_f (r L k : Int) (hL : 1 ≤ L) (hL8 : L ≤ 8) (h0 : 0 ≤ k) (h1 : k < L) : split_Cum.f r L k = some (cum r L k, 0) := by
  unfold split_Cum.f
  simp (disch := omega) only [right_f, Option.bind_some, w64, half_f, if_pos, if_neg, decide_eq_true_eq]
  rfl
theorem cum_no (r L k : Int) (h : ¬ (1 ≤ L ∧ L ≤ 8 ∧ 0 ≤ k ∧ k < L)) : split_Cum.f r L k = some (0, 11) := by
  unfold split_Cum.f
  rw [right_f]; simp only [Option.bind_some, decide_eq_true_eq]
  split
  · split
    · rfl
    · rw [if_pos (by omega)]
  · rfl
def cums (r L : Int) : Nat → Int → List Int
  | 0, _ => []
  | d + 1, i => cum r L i :: cums r L d (i + 1)
theorem cums_length (r L : Int) : ∀ d i, (cums r L d i).length = d
  | 0, _ => rfl
  | d + 1, i => by simp [cums, cums_length r L d]
theorem cums_rd (r L : Int) : ∀ (d : Nat) (i j : Int), 0 ≤ j → j < (d : Int) → rd (cums r L d i) j = cum r L (i + j)
  | 0, _, _, _, _ => by omega
  | d + 1, i, j, h0, h1 => by
    by_cases hj : j = 0
    · subst hj; simp [cums, rd]
    · have := cums_rd r L d (i + 1) (j - 1) (by omega) (by omega)
      unfold rd at this ⊢
      obtain ⟨m, hm⟩ : ∃ m, j.toNat = m + 1 := ⟨j.toNat - 1, by omega⟩
      rw [hm]
      simp only [cums, List.getD_cons_succ]
      rw [show (j - 1).toNat = m from by omega] at this
      rw [this]; congr 1; omega
theorem all_l (r L : Int) (hL : 1 ≤ L) (hL8 : L ≤ 8) (d : Nat) : ∀ (k : Nat) (xs : List Int) (i : Int), 0 ≤ i → L - i = d → xs.length ≤ 100 + i.toNat → d < k → split_All.l0 k r L xs L i = some (xs ++ cums r L d i) := by
  induction d with
  | zero =>
    intro k xs i h0 hd hx hk
    obtain ⟨k, rfl, hk⟩ := fuel hk
    simp (disch := omega) only [split_All.l0, if_neg, cums, List.append_nil]
  | succ d ih =>
    intro k xs i h0 hd hx hk
    obtain ⟨k, rfl, hk⟩ := fuel hk
    simp (disch := omega) only [split_All.l0, if_pos, cum_f, Option.bind_some, w64, cums]
    rw [ih k _ (i + 1) (by omega) (by omega) (by simp; omega) (by omega)]
    simp
theorem all_f (r L : Int) (hL : 1 ≤ L) (hL8 : L ≤ 8) {k : Nat} (hk : 10 ≤ k) : split_All.f k r L = some (cums r L L.toNat 0) := by
  unfold split_All.f mx
  rw [if_neg (by omega), all_l r L hL hL8 L.toNat k [] 0 (by omega) (by omega) (by simp) (by omega)]; rfl
theorem all_no (r L : Int) (h : ¬ (1 ≤ L ∧ L ≤ 8)) {k : Nat} (hk : 10 ≤ k) : split_All.f k r L = some [] := by
  obtain ⟨k, rfl⟩ : ∃ m, k = m + 1 := ⟨k - 1, by omega⟩
  unfold split_All.f mx
  simp only [split_All.l0]
  rw [cum_no r L 0 (by omega)]
  split <;> simp <;> omega
theorem awake_k {k : Nat} (hk : 100 ≤ k) : terracelaw21_awake.f k = some true :=
  at_rounds (g := fun k => terracelaw21_awake.f k) (fun k => terracelaw21_awake.mono k) hk (by decide +kernel)
theorem lawright_f (a : Int) : terracelaw21_right.f a = some (decide (1 ≤ a ∧ a ≤ 8)) := by
  unfold terracelaw21_right.f
  by_cases h : 1 ≤ a
  · rw [if_pos h]; simp [h]
  · rw [if_neg h]; simp [h]
theorem refall_in (r L : Int) (hr : 0 ≤ r ∧ r ≤ 18446744073709551615) (hL8 : L ≤ 8) (xs : List Int) (hx : xs.length ≤ 200) (i : Int) (d : Nat) : ∀ (k : Nat) (x j : Int), 0 ≤ j → L - j = d → 0 ≤ x ∧ x ≤ 18446744073709551615 → d < k → ∃ k', k ≤ k' + d + 1 ∧ terraceref21_All.l1 k r L xs i x j = terraceref21_All.l0 k' r L (xs ++ [x / 2 ^ d]) (wrap64 (i + 1)) := by
  induction d with
  | zero =>
    intro k x j h0 hd hx hk
    obtain ⟨k, rfl, hk⟩ := fuel hk
    refine ⟨k, by omega, ?_⟩
    simp (disch := omega) only [terraceref21_All.l1, if_neg, if_pos]
    simp
  | succ d ih =>
    intro k x j h0 hd hx hk
    obtain ⟨k, rfl, hk⟩ := fuel hk
    have ht : Int.tdiv x 2 = x / 2 := Int.tdiv_eq_ediv_of_nonneg (by omega)
    simp (disch := omega) only [terraceref21_All.l1, if_pos, ht, u64, w64]
    obtain ⟨k', h1, h2⟩ := ih k (x / 2) (j + 1) (by omega) (by omega) (by omega) (by omega)
    refine ⟨k', by omega, ?_⟩
    rw [h2, Int.ediv_ediv_of_nonneg (by omega)]
    rw [Int.pow_succ, Int.mul_comm]
theorem refall_l (r L : Int) (hr : 0 ≤ r ∧ r ≤ 18446744073709551615) (hL : 1 ≤ L) (hL8 : L ≤ 8) (d : Nat) : ∀ (k : Nat) (xs : List Int) (i : Int), 0 ≤ i → L - i = d → xs.length ≤ 100 + i.toNat → 20 * (d + 1) < k → terraceref21_All.l0 k r L xs i = some (xs ++ cums r L d i) := by
  induction d with
  | zero =>
    intro k xs i h0 hd hx hk
    obtain ⟨k, rfl, hk⟩ := fuel hk
    simp (disch := omega) only [terraceref21_All.l0, if_neg, cums, List.append_nil]
  | succ d ih =>
    intro k xs i h0 hd hx hk
    obtain ⟨k, rfl, hk⟩ := fuel hk
    simp (disch := omega) only [terraceref21_All.l0, if_pos, w64]
    obtain ⟨k', h1, h2⟩ := refall_in r L hr hL8 xs (by omega) i d k r (i + 1) (by omega) (by omega) hr (by omega)
    rw [h2, w64 (by omega) (by omega), ih k' _ (i + 1) (by omega) (by omega) (by simp; omega) (by omega)]
    simp only [cums, cum, List.append_assoc, List.singleton_append]
    rw [show (L - 1 - i).toNat = d from by omega]
theorem refall_f (r L : Int) (hr : 0 ≤ r ∧ r ≤ 18446744073709551615) (hL : 1 ≤ L) (hL8 : L ≤ 8) {k : Nat} (hk : 200 ≤ k) : terraceref21_All.f k r L = some (cums r L L.toNat 0) := by
  unfold terraceref21_All.f
  rw [refall_l r L hr hL hL8 L.toNat k [] 0 (by omega) (by omega) (by simp) (by omega)]; rfl
def fitd (own : Int) (xs : List Int) : Nat → Int → Int
  | 0, i => i - 1
  | d + 1, i => if rd xs i > own then i - 1 else fitd own xs d (i + 1)
theorem fitd_range (own : Int) (xs : List Int) : ∀ (d : Nat) (i : Int), i - 1 ≤ fitd own xs d i ∧ fitd own xs d i ≤ i + d - 1
  | 0, i => by simp [fitd]
  | d + 1, i => by
    have := fitd_range own xs d (i + 1)
    unfold fitd; split <;> omega
theorem fitd_low (own : Int) (xs : List Int) : ∀ (d : Nat) (i : Int), i ≤ fitd own xs d i → rd xs (fitd own xs d i) ≤ own
  | 0, i => by unfold fitd; omega
  | d + 1, i => by
    unfold fitd; split
    · omega
    · intro h
      have hr := fitd_range own xs d (i + 1)
      by_cases h2 : i + 1 ≤ fitd own xs d (i + 1)
      · exact fitd_low own xs d (i + 1) h2
      · rw [show fitd own xs d (i + 1) = i from by omega]; omega
theorem fitd_high (own : Int) (xs : List Int) : ∀ (d : Nat) (i : Int), fitd own xs d i < i + d - 1 → rd xs (fitd own xs d i + 1) > own
  | 0, i => by unfold fitd; omega
  | d + 1, i => by
    unfold fitd; split
    · intro _; rw [show i - 1 + 1 = i from by omega]; assumption
    · intro h; exact fitd_high own xs d (i + 1) (by omega)
theorem fits_l (own : Int) (xs : List Int) (hl : xs.length ≤ 1000) (d : Nat) : ∀ (k : Nat) (i : Int), 0 ≤ i → (xs.length : Int) - i = d → d < k → split_Fits.l0 k own xs xs (xs.length : Int) i = some (fitd own xs d i) := by
  induction d with
  | zero =>
    intro k i h0 hd hk
    obtain ⟨k, rfl, hk⟩ := fuel hk
    simp only [split_Fits.l0, fitd]
    rw [if_neg (by omega), w64 (by omega) (by omega)]; congr 1; omega
  | succ d ih =>
    intro k i h0 hd hk
    obtain ⟨k, rfl, hk⟩ := fuel hk
    simp only [split_Fits.l0, fitd]
    rw [if_pos (by omega), if_pos h0, if_pos (by omega), w64 (n := i - 1) (by omega) (by omega), w64 (n := i + 1) (by omega) (by omega), ih k (i + 1) (by omega) (by omega) (by omega)]
    split <;> rfl
theorem fits_f (own : Int) (xs : List Int) (hl : xs.length ≤ 1000) {k : Nat} (hk : xs.length < k) : split_Fits.f k own xs = some (fitd own xs xs.length 0) := by
  unfold split_Fits.f
  exact fits_l own xs hl xs.length k 0 (by omega) (by omega) hk
theorem reffits_l (own : Int) (xs : List Int) (hl : xs.length ≤ 1000) (d : Nat) : ∀ (k : Nat) (i : Int), 0 ≤ i → (xs.length : Int) - i = d → d < k → terraceref21_Fits.l0 k own xs (i - 1) = some (fitd own xs d i) := by
  induction d with
  | zero =>
    intro k i h0 hd hk
    obtain ⟨k, rfl, hk⟩ := fuel hk
    simp only [terraceref21_Fits.l0, fitd]
    rw [w64 (by omega) (by omega), if_neg (by omega)]
  | succ d ih =>
    intro k i h0 hd hk
    obtain ⟨k, rfl, hk⟩ := fuel hk
    simp only [terraceref21_Fits.l0, fitd]
    have hh := ih k (i + 1) (by omega) (by omega) (by omega)
    rw [show i + 1 - 1 = i from by omega] at hh
    rw [w64 (n := i - 1 + 1) (by omega) (by omega), show i - 1 + 1 = i from by omega, if_pos (by omega), if_pos h0, hh]
    by_cases h : rd xs i > own
    · rw [if_pos h, if_neg (by omega)]
    · rw [if_neg h, if_pos (by omega)]
theorem reffits_f (own : Int) (xs : List Int) (hl : xs.length ≤ 1000) {k : Nat} (hk : xs.length < k) : terraceref21_Fits.f k own xs = some (fitd own xs xs.length 0) := by
  unfold terraceref21_Fits.f
  exact reffits_l own xs hl xs.length k 0 (by omega) (by omega) hk
theorem SplitLevels : terracelaw21_SplitLevels.Pure := by
  intro own r L ho hr hL
  have ho := wf_u64 ho
  have hr := wf_u64 hr
  have hL := wf_i64 hL
  obtain ⟨k, hk⟩ : ∃ k, 500 < k := ⟨501, by omega⟩
  refine ⟨k, ?_⟩
  unfold terracelaw21_SplitLevels.f split_Level.f
  rw [lawright_f]
  by_cases h : 1 ≤ L ∧ L ≤ 8
  · have hl : ((cums r L L.toNat 0).length : Int) = L := by rw [cums_length]; omega
    rw [all_f r L h.1 h.2 (by omega)]
    simp only [Option.bind_some, decide_eq_true_eq]
    rw [fits_f _ _ (by omega) (by omega)]
    simp only [Option.bind_some, if_pos h]
    rw [refall_f r L hr h.1 h.2 (by omega)]
    simp only [Option.bind_some]
    rw [reffits_f _ _ (by omega) (by omega)]
    simp only [Option.bind_some, if_true]
    have h1 := fitd_range own (cums r L L.toNat 0) (cums r L L.toNat 0).length 0
    have h2 := fitd_low own (cums r L L.toNat 0) (cums r L L.toNat 0).length 0
    have h3 := fitd_high own (cums r L L.toNat 0) (cums r L L.toNat 0).length 0
    generalize fitd own (cums r L L.toNat 0) (cums r L L.toNat 0).length 0 = t at *
    rw [w64 (n := t + 1) (by omega) (by omega), awake_k (by omega)]
    simp only [Option.bind_some]
    by_cases c1 : t < 0
    · rw [if_pos c1]
      by_cases c2 : t + 1 ≥ L
      · rw [if_pos c2]
      · rw [if_neg c2, if_pos (by omega), if_pos (by omega), if_pos (h3 (by omega))]
    · rw [if_neg c1, if_pos (by omega), if_pos (by omega), if_pos (h2 (by omega))]
      by_cases c2 : t + 1 ≥ L
      · rw [if_pos c2]
      · rw [if_neg c2, if_pos (by omega), if_pos (by omega), if_pos (h3 (by omega))]
  · rw [all_no r L h (by omega)]
    simp only [Option.bind_some, decide_eq_true_eq]
    rw [fits_f _ _ (by simp) (by simp; omega)]
    simp only [Option.bind_some, if_neg h]
    rw [awake_k (by omega)]; rfl

end Go.Proofs.Ythkeoioejombpaa.Pure
