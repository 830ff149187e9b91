/- Proved: the layers' own rates together are the rate, exactly; up to each layer they are its cumulative one (for every input that the statement's guards let in; the Go function returns true and leaves its arguments as they were). -/
import Derived.Test.YthkeoioejombpaaPSplitOwnx2
set_option linter.unusedVariables false
set_option linter.unusedSimpArgs false
namespace Go.Proofs.Ythkeoioejombpaa.Pure
open Go.RowKit Go.Proofs.Ythkeoioejombpaa.PSplitOwn Go.Proofs.YthkeoioejombpaaW.PrintWords Go.Proofs.YthkeoioejombpaaW.PrintLast Go.Proofs.YthkeoioejombpaaW.PrintMore

theorem wf_u8 {a : Int} (h : (Lit.int .u8 a).wf = true) : 0 ≤ a ∧ a ≤ 255 := by
  simpa [Lit.wf, IntKind.min, IntKind.max, IntKind.signed, IntKind.bits] using h
theorem wf_u16 {a : Int} (h : (Lit.int .u16 a).wf = true) : 0 ≤ a ∧ a ≤ 65535 := by
  simpa [Lit.wf, IntKind.min, IntKind.max, IntKind.signed, IntKind.bits] using h
theorem wf_u32 {a : Int} (h : (Lit.int .u32 a).wf = true) : 0 ≤ a ∧ a ≤ 4294967295 := by
  simpa [Lit.wf, IntKind.min, IntKind.max, IntKind.signed, IntKind.bits] using h
theorem wf_u64 {a : Int} (h : (Lit.int .u64 a).wf = true) : 0 ≤ a ∧ a ≤ 18446744073709551615 := by
  simpa [Lit.wf, IntKind.min, IntKind.max, IntKind.signed, IntKind.bits] using h
theorem wf_i64 {a : Int} (h : (Lit.int .i64 a).wf = true) : -9223372036854775808 ≤ a ∧ a ≤ 9223372036854775807 := by
  simpa [Lit.wf, IntKind.min, IntKind.max, IntKind.signed, IntKind.bits] using h
theorem w64 {n : Int} (h : -9223372036854775808 ≤ n) (h' : n ≤ 9223372036854775807) : wrap64 n = n := by
  unfold wrap64; omega
theorem fuel {k n : Nat} (h : n < k) : ∃ m, k = m + 1 ∧ n ≤ m := ⟨k - 1, by omega, by omega⟩
theorem u64 {n : Int} (h : 0 ≤ n) (h' : n ≤ 18446744073709551615) : IntKind.u64.wrap n = n := by
  simp only [IntKind.wrap, IntKind.bits, IntKind.signed]; simp; omega
theorem right_f (a : Int) : split_right.f a = some (decide (1 ≤ a ∧ a ≤ 8)) := by
  unfold split_right.f
  by_cases h : 1 ≤ a
  · rw [if_pos h]; simp [h]
  · rw [if_neg h]; simp [h]
def cum (r L k : Int) : Int := r / 2 ^ (L - 1 - k).toNat
theorem half_f (a k : Int) (h0 : 0 ≤ k) (h1 : k ≤ 64) : fix_F_Half.f a k = some (a / 2 ^ k.toNat) := by
  unfold fix_F_Half.f shr mx IntKind.bits
  simp only
  have : ¬ k < 0 := by omega
  rw [if_neg this, Nat.min_eq_left (by omega)]
theorem cum_f (r L k : Int) (hL : 1 ≤ L) (hL8 : L ≤ 8) (h0 : 0 ≤ k) (h1 : k < L) : split_Cum.f r L k = some (cum r L k, 0) := by
  unfold split_Cum.f
  simp (disch := omega) only [right_f, Option.bind_some, w64, half_f, if_pos, if_neg, decide_eq_true_eq]
  rfl
theorem cum_no (r L k : Int) (h : ¬ (1 ≤ L ∧ L ≤ 8 ∧ 0 ≤ k ∧ k < L)) : split_Cum.f r L k = some (0, 11) := by
  unfold split_Cum.f
  rw [right_f]; simp only [Option.bind_some, decide_eq_true_eq]
  split
  · split
    · rfl
    · rw [if_pos (by omega)]
  · rfl
def cums (r L : Int) : Nat → Int → List Int
  | 0, _ => []
  | d + 1, i => cum r L i :: cums r L d (i + 1)
theorem cums_length (r L : Int) : ∀ d i, (cums r L d i).length = d
  | 0, _ => rfl
  | d + 1, i => by simp [cums, cums_length r L d]
theorem cums_rd (r L : Int) : ∀ (d : Nat) (i j : Int), 0 ≤ j → j < (d : Int) → rd (cums r L d i) j = cum r L (i + j)
  | 0, _, _, _, _ => by omega
  | d + 1, i, j, h0, h1 => by
    by_cases hj : j = 0
    · subst hj; simp [cums, rd]
    · have := cums_rd r L d (i + 1) (j - 1) (by omega) (by omega)
      unfold rd at this ⊢
      obtain ⟨m, hm⟩ : ∃ m, j.toNat = m + 1 := ⟨j.toNat - 1, by omega⟩
      rw [hm]
      simp only [cums, List.getD_cons_succ]
      rw [show (j - 1).toNat = m from by omega] at this
      rw [this]; congr 1; omega
theorem all_l (r L : Int) (hL : 1 ≤ L) (hL8 : L ≤ 8) (d : Nat) : ∀ (k : Nat) (xs : List Int) (i : Int), 0 ≤ i → L - i = d → xs.length ≤ 100 + i.toNat → d < k → split_All.l0 k r L xs L i = some (xs ++ cums r L d i) := by
  induction d with
  | zero =>
    intro k xs i h0 hd hx hk
    obtain ⟨k, rfl, hk⟩ := fuel hk
    simp (disch := omega) only [split_All.l0, if_neg, cums, List.append_nil]
  | succ d ih =>
    intro k xs i h0 hd hx hk
    obtain ⟨k, rfl, hk⟩ := fuel hk
    simp (disch := omega) only [split_All.l0, if_pos, cum_f, Option.bind_some, w64, cums]
    rw [ih k _ (i + 1) (by omega) (by omega) (by simp; omega) (by omega)]
    simp
theorem all_f (r L : Int) (hL : 1 ≤ L) (hL8 : L ≤ 8) {k : Nat} (hk : 10 ≤ k) : split_All.f k r L = some (cums r L L.toNat 0) := by
  unfold split_All.f mx
  rw [if_neg (by omega), all_l r L hL hL8 L.toNat k [] 0 (by omega) (by omega) (by simp) (by omega)]; rfl
theorem all_no (r L : Int) (h : ¬ (1 ≤ L ∧ L ≤ 8)) {k : Nat} (hk : 10 ≤ k) : split_All.f k r L = some [] := by
  obtain ⟨k, rfl⟩ : ∃ m, k = m + 1 := ⟨k - 1, by omega⟩
  unfold split_All.f mx
  simp only [split_All.l0]
  rw [cum_no r L 0 (by omega)]
  split <;> simp <;> omega
theorem awake_k {k : Nat} (hk : 100 ≤ k) : terracelaw21_awake.f k = some true :=
  at_rounds (g := fun k => terracelaw21_awake.f k) (fun k => terracelaw21_awake.mono k) hk (by decide +kernel)
theorem lawright_f (a : Int) : terracelaw21_right.f a = some (decide (1 ≤ a ∧ a ≤ 8)) := by
  unfold terracelaw21_right.f
  by_cases h : 1 ≤ a
  · rw [if_pos h]; simp [h]
  · rw [if_neg h]; simp [h]
theorem sub_f (a b : Int) (hb : 0 ≤ b) (h : b ≤ a) (ha : a ≤ 18446744073709551615) : fix_F_Sub.f a b = some (a - b) := by
  unfold fix_F_Sub.f
  rw [if_neg (by omega), u64 (by omega) (by omega)]
theorem cum_range (r L k : Int) (hr : 0 ≤ r ∧ r ≤ 18446744073709551615) : 0 ≤ cum r L k ∧ cum r L k ≤ 18446744073709551615 := by
  unfold cum
  have h1 : 0 ≤ r / 2 ^ (L - 1 - k).toNat := Int.ediv_nonneg hr.1 (Int.pow_nonneg (by omega))
  have h2 : r / 2 ^ (L - 1 - k).toNat ≤ r := Int.ediv_le_self _ hr.1
  omega
theorem cum_mono (r L i : Int) (hr : 0 ≤ r) (h0 : 1 ≤ i) (h1 : i < L) : cum r L (i - 1) ≤ cum r L i := by
  unfold cum
  obtain ⟨m, hm⟩ : ∃ m, (L - 1 - i).toNat = m := ⟨_, rfl⟩
  rw [hm, show (L - 1 - (i - 1)).toNat = m + 1 from by omega, Int.pow_succ, ← Int.ediv_ediv_of_nonneg (Int.pow_nonneg (by omega))]
  have : 0 ≤ r / 2 ^ m := Int.ediv_nonneg hr (Int.pow_nonneg (by omega))
  omega
def upto (r L i : Int) : Int := if i = 0 then 0 else cum r L (i - 1)
theorem own_f (r L k : Int) (hr : 0 ≤ r ∧ r ≤ 18446744073709551615) (hL : 1 ≤ L) (hL8 : L ≤ 8) (h0 : 0 ≤ k) (h1 : k < L) : split_Own.f r L k = some (cum r L k - upto r L k, 0) := by
  unfold split_Own.f upto
  rw [cum_f r L k hL hL8 h0 h1]
  simp only [Option.bind_some, if_true]
  rw [w64 (by omega) (by omega)]
  have hc := cum_range r L k hr
  by_cases h : k = 0
  · rw [cum_no r L (k - 1) (by omega), if_pos h]
    simp only [Option.bind_some]
    rw [sub_f _ _ (by omega) (by omega) (by omega)]; rfl
  · rw [cum_f r L (k - 1) hL hL8 (by omega) (by omega), if_neg h]
    simp only [Option.bind_some]
    have hc' := cum_range r L (k - 1) hr
    have := cum_mono r L k hr.1 (by omega) h1
    rw [sub_f _ _ (by omega) (by omega) (by omega)]; rfl
theorem own_no (r L k : Int) (h : ¬ (1 ≤ L ∧ L ≤ 8 ∧ 0 ≤ k ∧ k < L)) : split_Own.f r L k = some (0, 11) := by
  unfold split_Own.f
  rw [cum_no r L k h]; rfl
theorem loop (r L : Int) (hr : 0 ≤ r ∧ r ≤ 18446744073709551615) (hL : 1 ≤ L) (hL8 : L ≤ 8) (d : Nat) : ∀ (k : Nat) (i : Int), 0 ≤ i → L - i = d → d + 110 < k →
    terracelaw21_SplitOwn.l0 k r L (upto r L i) L i = some true := by
  induction d with
  | zero =>
    intro k i h0 hd hk
    obtain ⟨k, rfl, hk⟩ := fuel hk
    have hi : i = L := by omega
    subst hi
    have hl : upto r i i = r := by
      unfold upto cum
      rw [if_neg (by omega), show (i - 1 - (i - 1)).toNat = 0 from by omega]; simp
    simp only [terracelaw21_SplitOwn.l0]
    rw [if_neg (by omega), own_no r i i (by omega), own_no r i (-1) (by omega), hl]
    simp only [Option.bind_some, if_true]
    rw [awake_k (by omega)]; rfl
  | succ d ih =>
    intro k i h0 hd hk
    obtain ⟨k, rfl, hk⟩ := fuel hk
    have hi := ih k (i + 1) (by omega) (by omega) (by omega)
    have hu : upto r L (i + 1) = cum r L i := by
      unfold upto; rw [if_neg (by omega)]; congr 1; omega
    rw [hu] at hi
    have hc := cum_range r L i hr
    have hw : IntKind.u64.wrap (upto r L i + (cum r L i - upto r L i)) = cum r L i := by
      rw [u64 (by omega) (by omega)]; omega
    simp only [terracelaw21_SplitOwn.l0]
    rw [if_pos (by omega), own_f r L i hr hL hL8 h0 (by omega), cum_f r L i hL hL8 h0 (by omega)]
    simp only [Option.bind_some, if_true, hw]
    rw [w64 (n := i + 1) (by omega) (by omega), hi]
theorem SplitOwn : terracelaw21_SplitOwn.Pure := by
  intro r L hr hL
  have hr := wf_u64 hr
  have hL := wf_i64 hL
  obtain ⟨k, hk⟩ : ∃ k, 500 < k := ⟨501, by omega⟩
  refine ⟨k, ?_⟩
  unfold terracelaw21_SplitOwn.f
  rw [lawright_f]
  simp only [Option.bind_some, decide_eq_true_eq]
  by_cases h : 1 ≤ L ∧ L ≤ 8
  · rw [if_pos h]
    exact loop r L hr h.1 h.2 L.toNat k 0 (by omega) (by omega) (by omega)
  · rw [if_neg h, own_no r L 0 (by omega)]
    simp only [Option.bind_some, if_true]
    rw [awake_k (by omega)]; rfl

end Go.Proofs.Ythkeoioejombpaa.Pure
