/- Proved: what is greater has greater sums, products, quotients and roots, or the same (for every input that the statement's guards let in; the Go function returns true and leaves its arguments as they were). -/
import Derived.Test.YtibihicmhakacaaPFixRisesx2
set_option linter.unusedVariables false
set_option linter.unusedSimpArgs false
namespace Go.Proofs.Ytibihicmhakacaa.Pure
open Go.RowKit Go.Proofs.Ytibihicmhakacaa.PFixRises Go.Proofs.YtibihicmhakacaaW.PrintWords Go.Proofs.YtibihicmhakacaaW.PrintLast Go.Proofs.YtibihicmhakacaaW.PrintMore

theorem wf_u8 {a : Int} (h : (Lit.int .u8 a).wf = true) : 0 ≤ a ∧ a ≤ 255 := by
  simpa [Lit.wf, IntKind.min, IntKind.max, IntKind.signed, IntKind.bits] using h
theorem wf_u16 {a : Int} (h : (Lit.int .u16 a).wf = true) : 0 ≤ a ∧ a ≤ 65535 := by
  simpa [Lit.wf, IntKind.min, IntKind.max, IntKind.signed, IntKind.bits] using h
theorem wf_u32 {a : Int} (h : (Lit.int .u32 a).wf = true) : 0 ≤ a ∧ a ≤ 4294967295 := by
  simpa [Lit.wf, IntKind.min, IntKind.max, IntKind.signed, IntKind.bits] using h
theorem wf_u64 {a : Int} (h : (Lit.int .u64 a).wf = true) : 0 ≤ a ∧ a ≤ 18446744073709551615 := by
  simpa [Lit.wf, IntKind.min, IntKind.max, IntKind.signed, IntKind.bits] using h
theorem wf_i64 {a : Int} (h : (Lit.int .i64 a).wf = true) : -9223372036854775808 ≤ a ∧ a ≤ 9223372036854775807 := by
  simpa [Lit.wf, IntKind.min, IntKind.max, IntKind.signed, IntKind.bits] using h
theorem w64 {n : Int} (h : -9223372036854775808 ≤ n) (h' : n ≤ 9223372036854775807) : wrap64 n = n := by
  unfold wrap64; omega
theorem fuel {k n : Nat} (h : n < k) : ∃ m, k = m + 1 ∧ n ≤ m := ⟨k - 1, by omega, by omega⟩
theorem u64 {n : Int} (h : 0 ≤ n) (h' : n ≤ 18446744073709551615) : IntKind.u64.wrap n = n := by
  simp only [IntKind.wrap, IntKind.bits, IntKind.signed]; simp; omega
theorem wu (n : Int) : IntKind.u64.wrap n = n % 18446744073709551616 := by
  simp [IntKind.wrap, IntKind.bits, IntKind.signed]
theorem wraps_u64 (n : Int) (h0 : 0 ≤ n) (h1 : n < 2 ^ 64) : IntKind.u64.wrap n = n := by rw [wu]; omega
theorem and32 (x : Int) (h0 : 0 ≤ x) (h1 : x < 18446744073709551616) : Go.bits .and .u64 x 4294967295 = x % 4294967296 :=
  bits_mask .u64 64 (by decide) wraps_u64 32 (by decide) x h0 h1
theorem or_join (i : Nat) (x y : Int) (h0 : 0 ≤ x) (h1 : x % 2 ^ i = 0) (h2 : x < 18446744073709551616) (h3 : 0 ≤ y) (h4 : y < 2 ^ i) (h5 : y < 18446744073709551616) : Go.bits .or .u64 x y = x + y :=
  bits_join .u64 64 (by decide) wraps_u64 i x y h0 h1 h2 h3 h4 h5
theorem shl_u (x y : Int) (h0 : 0 ≤ y) (h1 : y ≤ 64) : shl .u64 x y = (x * 2 ^ y.toNat) % 18446744073709551616 := by
  unfold shl; rw [wu, show min y.toNat (IntKind.bits .u64) = y.toNat from Nat.min_eq_left (by simp [IntKind.bits]; omega)]
theorem shr_u (x y : Int) (h0 : 0 ≤ y) (h1 : y ≤ 64) : shr .u64 x y = x / 2 ^ y.toNat := by
  unfold shr; rw [show min y.toNat (IntKind.bits .u64) = y.toNat from Nat.min_eq_left (by simp [IntKind.bits]; omega)]
def addv (a b : Int) : Int := if a + b > 18446744073709551615 then 18446744073709551615 else a + b
theorem add_f (a b : Int) (ha : 0 ≤ a ∧ a ≤ 18446744073709551615) (hb : 0 ≤ b ∧ b ≤ 18446744073709551615) : fix_F_Add.f a b = some (addv a b) := by
  unfold fix_F_Add.f addv addC addS
  by_cases h : a + b > 18446744073709551615
  · rw [if_neg (by omega), if_pos h]
  · rw [if_pos (by omega), if_neg h]; congr 1; omega
theorem addv_range (a b : Int) (ha : 0 ≤ a ∧ a ≤ 18446744073709551615) (hb : 0 ≤ b ∧ b ≤ 18446744073709551615) : 0 ≤ addv a b ∧ addv a b ≤ 18446744073709551615 := by
  unfold addv; split <;> omega
def subv (a b : Int) : Int := if b > a then 0 else a - b
theorem sub_f (a b : Int) (ha : 0 ≤ a ∧ a ≤ 18446744073709551615) (hb : 0 ≤ b ∧ b ≤ 18446744073709551615) : fix_F_Sub.f a b = some (subv a b) := by
  unfold fix_F_Sub.f subv
  split
  · rfl
  · rw [wu]; congr 1; omega
/-- One digit of a long division by a number of 64 bits whose highest bit is set. -/
theorem digit_ok (q rhat yn1 yn0 un un1 : Int) (hy1 : 2147483648 ≤ yn1) (hy1' : yn1 ≤ 4294967295) (h0 : 0 ≤ yn0 ∧ yn0 ≤ 4294967295) (h1 : 0 ≤ un1 ∧ un1 ≤ 4294967295) (hu : 0 ≤ un) (hlt : un < yn1 * 4294967296 + yn0)
    (hq : q * yn1 + rhat = un) (hr : 0 ≤ rhat) (hge : un * 4294967296 + un1 < (q + 1) * (yn1 * 4294967296 + yn0)) (hle : q * yn0 ≤ 4294967296 * rhat + un1) :
    (un * 4294967296 + un1) / (yn1 * 4294967296 + yn0) = q := by
  have e1 : q * (yn1 * 4294967296 + yn0) ≤ un * 4294967296 + un1 := by
    have : q * (yn1 * 4294967296 + yn0) = (q * yn1) * 4294967296 + q * yn0 := by grind
    omega
  have hp : 0 < yn1 * 4294967296 + yn0 := by omega
  apply Int.le_antisymm
  · have := Int.ediv_lt_of_lt_mul hp hge
    omega
  · exact Int.le_ediv_of_mul_le hp e1
theorem q1_le (un yn1 yn0 : Int) (hy1 : 2147483648 ≤ yn1) (hy1' : yn1 ≤ 4294967295) (h0 : 0 ≤ yn0 ∧ yn0 ≤ 4294967295) (hu : 0 ≤ un) (hlt : un < yn1 * 4294967296 + yn0) : 0 ≤ un / yn1 ∧ un / yn1 ≤ 4294967297 := by
  refine ⟨Int.ediv_nonneg hu (by omega), ?_⟩
  have : un / yn1 < 4294967298 := Int.ediv_lt_of_lt_mul (by omega) (by omega)
  omega
/-- the estimate is not too small -/
theorem q_ge (q yn1 yn0 un un1 rhat : Int) (hy1 : 2147483648 ≤ yn1) (h0 : 0 ≤ yn0) (h1 : un1 ≤ 4294967295) (hq : q * yn1 + rhat = un) (hr : rhat < yn1) (hq0 : 0 ≤ q) :
    un * 4294967296 + un1 < (q + 1) * (yn1 * 4294967296 + yn0) := by
  have e : (q + 1) * (yn1 * 4294967296 + yn0) = (q * yn1) * 4294967296 + yn1 * 4294967296 + (q + 1) * yn0 := by grind
  have : 0 ≤ (q + 1) * yn0 := Int.mul_nonneg (by omega) h0
  omega
/-- one step down -/
theorem q_down (q yn1 yn0 un un1 rhat : Int) (hy1 : 2147483648 ≤ yn1) (h0 : 0 ≤ yn0 ∧ yn0 ≤ 4294967295) (h1 : 0 ≤ un1 ∧ un1 ≤ 4294967295) (hu : 0 ≤ un) (hlt : un < yn1 * 4294967296 + yn0) (hq : q * yn1 + rhat = un) (hd : q ≥ 4294967296 ∨ q * yn0 > 4294967296 * rhat + un1) :
    un * 4294967296 + un1 < (q - 1 + 1) * (yn1 * 4294967296 + yn0) ∧ (q - 1) * yn1 + (rhat + yn1) = un := by
  constructor
  · rw [Int.sub_add_cancel]
    rcases hd with hd | hd
    · have := Int.mul_le_mul_of_nonneg_right hd (show 0 ≤ yn1 * 4294967296 + yn0 by omega)
      omega
    · have : q * (yn1 * 4294967296 + yn0) = (q * yn1) * 4294967296 + q * yn0 := by grind
      omega
  · have : (q - 1) * yn1 = q * yn1 - yn1 := by grind
    omega
theorem mul_range (q y : Int) (hq : 0 ≤ q) (hq' : q ≤ 4294967297) (hy : 0 ≤ y) (hy' : y ≤ 4294967295) : 0 ≤ q * y ∧ q * y ≤ 18446744073709551615 := by
  refine ⟨Int.mul_nonneg hq hy, ?_⟩
  have := Int.mul_le_mul hq' hy' hy (by omega : (0 : Int) ≤ 4294967297)
  omega
/-- the first digit's loop: what it goes on with -/
theorem loop0 (s yn1 yn0 un un1 un0 : Int) (hy1 : 2147483648 ≤ yn1) (hy1' : yn1 ≤ 4294967295) (h0 : 0 ≤ yn0 ∧ yn0 ≤ 4294967295) (h1 : 0 ≤ un1 ∧ un1 ≤ 4294967295) (hu : 0 ≤ un) (hlt : un < yn1 * 4294967296 + yn0) (d : Nat) :
    ∀ (k : Nat) (q rhat : Int), 2 * d + 4 ≤ k → 0 ≤ q → q ≤ 4294967297 → q * yn1 + rhat = un → 0 ≤ rhat → rhat < 4294967296 → 4294967296 ≤ rhat + d * 2147483648 → un * 4294967296 + un1 < (q + 1) * (yn1 * 4294967296 + yn0) →
    ∃ k', k ≤ k' + 2 * d + 4 ∧ bits_Div64.l0 k (yn1 * 4294967296 + yn0) s yn1 yn0 un un1 un0 q rhat = bits_Div64.j2 k' (yn1 * 4294967296 + yn0) s yn1 yn0 un un1 un0 ((un * 4294967296 + un1) / (yn1 * 4294967296 + yn0)) := by
  induction d with
  | zero => intro k q rhat _ _ _ _ _ h2 h3; omega
  | succ d ih =>
    intro k q rhat hk hq0 hq1 hq hr hr1 hrd hge
    obtain ⟨k, rfl⟩ : ∃ m, k = m + 2 := ⟨k - 2, by omega⟩
    have hm := mul_range q yn0 hq0 hq1 h0.1 h0.2
    have hw : IntKind.u64.wrap (IntKind.u64.wrap (4294967296 * rhat) + un1) = 4294967296 * rhat + un1 := by rw [wu, wu]; omega
    have hw2 : IntKind.u64.wrap (q * yn0) = q * yn0 := by rw [wu]; omega
    have key : ∀ b, b = decide (q ≥ 4294967296 ∨ q * yn0 > 4294967296 * rhat + un1) →
        ∃ k', k + 2 ≤ k' + 2 * (d + 1) + 4 ∧ bits_Div64.j1 (k + 1) (yn1 * 4294967296 + yn0) s yn1 yn0 un un1 un0 q rhat b = bits_Div64.j2 k' (yn1 * 4294967296 + yn0) s yn1 yn0 un un1 un0 ((un * 4294967296 + un1) / (yn1 * 4294967296 + yn0)) := by
      intro b hb
      simp only [bits_Div64.j1]
      by_cases hd : q ≥ 4294967296 ∨ q * yn0 > 4294967296 * rhat + un1
      · rw [hb, if_pos (by simpa using hd)]
        obtain ⟨hg2, hq2⟩ := q_down q yn1 yn0 un un1 rhat hy1 h0 h1 hu hlt hq hd
        have hqp : 1 ≤ q := by
          rcases hd with hd | hd
          · omega
          · by_cases hz : q = 0
            · subst hz; omega
            · omega
        have hw3 : IntKind.u64.wrap (rhat + yn1) = rhat + yn1 := by rw [wu]; omega
        have hw4 : IntKind.u64.wrap (q - 1) = q - 1 := by rw [wu]; omega
        rw [hw3, hw4]
        by_cases hb2 : rhat + yn1 ≥ 4294967296
        · rw [if_pos hb2]
          have hm2 := mul_range (q - 1) yn0 (by omega) (by omega) h0.1 h0.2
          have hm3 : (q - 1) * yn0 ≤ 4294967296 * 4294967295 := Int.mul_le_mul (by omega) h0.2 h0.1 (by omega)
          have := digit_ok (q - 1) (rhat + yn1) yn1 yn0 un un1 hy1 hy1' h0 h1 hu hlt hq2 (by omega) hg2 (by omega)
          rw [this]
          exact ⟨k, by omega, rfl⟩
        · rw [if_neg hb2]
          obtain ⟨k', e1, e2⟩ := ih k (q - 1) (rhat + yn1) (by omega) (by omega) (by omega) hq2 (by omega) (by omega) (by omega) hg2
          exact ⟨k', by omega, e2⟩
      · rw [hb, if_neg (by simpa using hd)]
        have := digit_ok q rhat yn1 yn0 un un1 hy1 hy1' h0 h1 hu hlt hq hr hge (by omega)
        rw [this]
        exact ⟨k, by omega, rfl⟩
    simp only [bits_Div64.l0]
    by_cases hc : q ≥ 4294967296
    · rw [if_pos hc]; exact key true (by simp [hc])
    · rw [if_neg hc, hw, hw2]; exact key _ (by simp [hc])
/-- the second digit's loop -/
theorem loop1 (s yn1 yn0 un un1 q1 : Int) (hs : 0 ≤ s) (hy1 : 2147483648 ≤ yn1) (hy1' : yn1 ≤ 4294967295) (h0 : 0 ≤ yn0 ∧ yn0 ≤ 4294967295) (h1 : 0 ≤ un1 ∧ un1 ≤ 4294967295) (hu : 0 ≤ un) (hlt : un < yn1 * 4294967296 + yn0) (d : Nat) :
    ∀ (k : Nat) (q rhat : Int), 2 * d + 4 ≤ k → 0 ≤ q → q ≤ 4294967297 → q * yn1 + rhat = un → 0 ≤ rhat → rhat < 4294967296 → 4294967296 ≤ rhat + d * 2147483648 → un * 4294967296 + un1 < (q + 1) * (yn1 * 4294967296 + yn0) →
    ∃ r, bits_Div64.l1 k (yn1 * 4294967296 + yn0) s yn1 yn0 un1 q1 rhat un q = some (IntKind.u64.wrap ((IntKind.u64.wrap (q1 * 4294967296)) + ((un * 4294967296 + un1) / (yn1 * 4294967296 + yn0))), r) := by
  induction d with
  | zero => intro k q rhat _ _ _ _ _ h2 h3; omega
  | succ d ih =>
    intro k q rhat hk hq0 hq1 hq hr hr1 hrd hge
    obtain ⟨k, rfl⟩ : ∃ m, k = m + 2 := ⟨k - 2, by omega⟩
    have hm := mul_range q yn0 hq0 hq1 h0.1 h0.2
    have hw : IntKind.u64.wrap (IntKind.u64.wrap (4294967296 * rhat) + un1) = 4294967296 * rhat + un1 := by rw [wu, wu]; omega
    have hw2 : IntKind.u64.wrap (q * yn0) = q * yn0 := by rw [wu]; omega
    have key : ∀ b, b = decide (q ≥ 4294967296 ∨ q * yn0 > 4294967296 * rhat + un1) →
        ∃ r, bits_Div64.j4 (k + 1) (yn1 * 4294967296 + yn0) s yn1 yn0 un1 q1 rhat un q b = some (IntKind.u64.wrap ((IntKind.u64.wrap (q1 * 4294967296)) + ((un * 4294967296 + un1) / (yn1 * 4294967296 + yn0))), r) := by
      intro b hb
      simp only [bits_Div64.j4]
      by_cases hd : q ≥ 4294967296 ∨ q * yn0 > 4294967296 * rhat + un1
      · rw [hb, if_pos (by simpa using hd)]
        obtain ⟨hg2, hq2⟩ := q_down q yn1 yn0 un un1 rhat hy1 h0 h1 hu hlt hq hd
        have hqp : 1 ≤ q := by
          rcases hd with hd | hd
          · omega
          · by_cases hz : q = 0
            · subst hz; omega
            · omega
        have hw3 : IntKind.u64.wrap (rhat + yn1) = rhat + yn1 := by rw [wu]; omega
        have hw4 : IntKind.u64.wrap (q - 1) = q - 1 := by rw [wu]; omega
        rw [hw3, hw4]
        by_cases hb2 : rhat + yn1 ≥ 4294967296
        · rw [if_pos hb2, if_pos hs]
          have hm2 := mul_range (q - 1) yn0 (by omega) (by omega) h0.1 h0.2
          have hm3 : (q - 1) * yn0 ≤ 4294967296 * 4294967295 := Int.mul_le_mul (by omega) h0.2 h0.1 (by omega)
          have := digit_ok (q - 1) (rhat + yn1) yn1 yn0 un un1 hy1 hy1' h0 h1 hu hlt hq2 (by omega) hg2 (by omega)
          rw [this]
          exact ⟨_, rfl⟩
        · rw [if_neg hb2]
          exact ih k (q - 1) (rhat + yn1) (by omega) (by omega) (by omega) hq2 (by omega) (by omega) (by omega) hg2
      · rw [hb, if_neg (by simpa using hd), if_pos hs]
        have := digit_ok q rhat yn1 yn0 un un1 hy1 hy1' h0 h1 hu hlt hq hr hge (by omega)
        rw [this]
        exact ⟨_, rfl⟩
    simp only [bits_Div64.l1]
    by_cases hc : q ≥ 4294967296
    · rw [if_pos hc]; exact key true (by simp [hc])
    · rw [if_neg hc, hw, hw2]; exact key _ (by simp [hc])
theorem start_ok (un yn1 : Int) (hy1 : 2147483648 ≤ yn1) (hy1' : yn1 ≤ 4294967295) (hu : 0 ≤ un) (hu' : un ≤ 18446744073709551615) (hq : 0 ≤ un / yn1 ∧ un / yn1 ≤ 4294967297) :
    IntKind.u64.wrap (Int.tdiv un yn1) = un / yn1 ∧ IntKind.u64.wrap (un - IntKind.u64.wrap (un / yn1 * yn1)) = un % yn1 ∧ un / yn1 * yn1 + un % yn1 = un ∧ 0 ≤ un % yn1 ∧ un % yn1 < yn1 := by
  have e := Int.mul_ediv_add_emod un yn1
  rw [Int.mul_comm] at e
  have h1 := Int.emod_nonneg un (show yn1 ≠ 0 by omega)
  have h2 := Int.emod_lt_of_pos un (show 0 < yn1 by omega)
  rw [Int.tdiv_eq_ediv_of_nonneg hu]
  refine ⟨by rw [wu]; omega, ?_, e, h1, h2⟩
  have h3 : 0 ≤ un / yn1 * yn1 := Int.mul_nonneg hq.1 (by omega)
  rw [wu, wu]; omega
/-- both digits -/
theorem div_two (s y un un1 un0 : Int) (hs : 0 ≤ s) (hy : 9223372036854775808 ≤ y) (hy' : y ≤ 18446744073709551615) (h1 : 0 ≤ un1 ∧ un1 ≤ 4294967295) (h0 : 0 ≤ un0 ∧ un0 ≤ 4294967295) (hu : 0 ≤ un) (hlt : un < y) {k : Nat} (hk : 40 ≤ k) :
    ∃ r, bits_Div64.l0 k y s (y / 4294967296) (y % 4294967296) un un1 un0 (IntKind.u64.wrap (Int.tdiv un (y / 4294967296))) (IntKind.u64.wrap (un - IntKind.u64.wrap (IntKind.u64.wrap (Int.tdiv un (y / 4294967296)) * (y / 4294967296)))) = some ((un * 18446744073709551616 + un1 * 4294967296 + un0) / y, r) := by
  obtain ⟨yn1, hyn1⟩ : ∃ v, y / 4294967296 = v := ⟨_, rfl⟩
  obtain ⟨yn0, hyn0⟩ : ∃ v, y % 4294967296 = v := ⟨_, rfl⟩
  have ey : y = yn1 * 4294967296 + yn0 := by omega
  rw [hyn1, hyn0]
  have b1 : 2147483648 ≤ yn1 := by omega
  have b2 : yn1 ≤ 4294967295 := by omega
  have b3 : 0 ≤ yn0 ∧ yn0 ≤ 4294967295 := by omega
  rw [ey] at hlt ⊢
  have hq := q1_le un yn1 yn0 b1 b2 b3 hu hlt
  obtain ⟨s1, s2, s3, s4, s5⟩ := start_ok un yn1 b1 b2 hu (by omega) hq
  rw [s1, s2]
  obtain ⟨k', hk', e⟩ := loop0 s yn1 yn0 un un1 un0 b1 b2 b3 h1 hu hlt 2 k (un / yn1) (un % yn1) (by omega) hq.1 hq.2 s3 s4 (by omega) (by omega) (q_ge _ _ _ _ _ _ b1 b3.1 h1.2 s3 s5 hq.1)
  rw [e]
  obtain ⟨k', rfl⟩ : ∃ m, k' = m + 1 := ⟨k' - 1, by omega⟩
  have hp : 0 < yn1 * 4294967296 + yn0 := by omega
  obtain ⟨Q1, hQ1⟩ : ∃ v, (un * 4294967296 + un1) / (yn1 * 4294967296 + yn0) = v := ⟨_, rfl⟩
  obtain ⟨V, hV⟩ : ∃ v, (un * 4294967296 + un1) % (yn1 * 4294967296 + yn0) = v := ⟨_, rfl⟩
  have eN := Int.mul_ediv_add_emod (un * 4294967296 + un1) (yn1 * 4294967296 + yn0)
  have v0 := Int.emod_nonneg (un * 4294967296 + un1) (show yn1 * 4294967296 + yn0 ≠ 0 by omega)
  have v1 := Int.emod_lt_of_pos (un * 4294967296 + un1) hp
  rw [hQ1, hV] at eN
  rw [hV] at v0 v1
  rw [Int.mul_comm] at eN
  have hQ0 : 0 ≤ Q1 := by rw [← hQ1]; exact Int.ediv_nonneg (by omega) (by omega)
  have hQm : Q1 ≤ 4294967295 := by
    have : (un * 4294967296 + un1) / (yn1 * 4294967296 + yn0) < 4294967296 := Int.ediv_lt_of_lt_mul hp (by omega)
    omega
  rw [hQ1]
  simp only [bits_Div64.j2]
  rw [if_neg (by omega)]
  have hun : IntKind.u64.wrap (IntKind.u64.wrap (IntKind.u64.wrap (un * 4294967296) + un1) - IntKind.u64.wrap (Q1 * (yn1 * 4294967296 + yn0))) = V := by
    have : 0 ≤ Q1 * (yn1 * 4294967296 + yn0) := Int.mul_nonneg hQ0 (by omega)
    generalize Q1 * (yn1 * 4294967296 + yn0) = p at *
    rw [wu, wu, wu, wu]; omega
  rw [hun]
  have hq' := q1_le V yn1 yn0 b1 b2 b3 v0 v1
  obtain ⟨z1, z2, z3, z4, z5⟩ := start_ok V yn1 b1 b2 v0 (by omega) hq'
  rw [z1, z2]
  obtain ⟨r, hr⟩ := loop1 s yn1 yn0 V un0 Q1 hs b1 b2 b3 h0 v0 v1 2 k' (V / yn1) (V % yn1) (by omega) hq'.1 hq'.2 z3 z4 (by omega) (by omega) (q_ge _ _ _ _ _ _ b1 b3.1 h0.2 z3 z5 hq'.1)
  refine ⟨r, ?_⟩
  rw [hr]
  have hQ2 : 0 ≤ (V * 4294967296 + un0) / (yn1 * 4294967296 + yn0) := Int.ediv_nonneg (by omega) (by omega)
  have hQ3 : (V * 4294967296 + un0) / (yn1 * 4294967296 + yn0) < 4294967296 := Int.ediv_lt_of_lt_mul hp (by omega)
  have hfin : (un * 18446744073709551616 + un1 * 4294967296 + un0) / (yn1 * 4294967296 + yn0) = Q1 * 4294967296 + (V * 4294967296 + un0) / (yn1 * 4294967296 + yn0) := by
    have : un * 18446744073709551616 + un1 * 4294967296 + un0 = (V * 4294967296 + un0) + (yn1 * 4294967296 + yn0) * (Q1 * 4294967296) := by
      have : (yn1 * 4294967296 + yn0) * (Q1 * 4294967296) = Q1 * (yn1 * 4294967296 + yn0) * 4294967296 := by grind
      omega
    rw [this, Int.add_mul_ediv_left _ _ (by omega)]; omega
  rw [hfin, wu, wu]
  congr 2
  omega
def divv (a b : Int) : Int := if b ≤ a / 4294967296 then 18446744073709551615 else a * 4294967296 / b
theorem bl_spec : ∀ (f x : Nat), x < 2 ^ f → x ≠ 0 → 1 ≤ Lib.bitLenAux f x ∧ 2 ^ (Lib.bitLenAux f x - 1) ≤ x ∧ x < 2 ^ Lib.bitLenAux f x
  | 0, x, h, h0 => by omega
  | f + 1, x, h, h0 => by
    simp only [Lib.bitLenAux]
    rw [if_neg h0]
    by_cases hz : x / 2 = 0
    · have : x = 1 := by omega
      subst this
      cases f with
      | zero => simp [Lib.bitLenAux]
      | succ f => simp [Lib.bitLenAux]
    · obtain ⟨h1, h2, h3⟩ := bl_spec f (x / 2) (by rw [Nat.pow_succ] at h; omega) hz
      generalize Lib.bitLenAux f (x / 2) = m at *
      obtain ⟨m, rfl⟩ : ∃ j, m = j + 1 := ⟨m - 1, by omega⟩
      refine ⟨by omega, ?_, ?_⟩
      · rw [show 1 + (m + 1) - 1 = m + 1 from by omega, Nat.pow_succ]
        rw [Nat.add_sub_cancel] at h2; omega
      · rw [show 1 + (m + 1) = (m + 1) + 1 from by omega, Nat.pow_succ]; omega
theorem div64_f (hi lo y : Int) (h0 : 0 ≤ hi) (h1 : hi < y) (hl : 0 ≤ lo ∧ lo ≤ 18446744073709551615) (hy : y ≤ 18446744073709551615) {k : Nat} (hk : 40 ≤ k) :
    ∃ r, bits_Div64.f k hi lo y = some ((hi * 18446744073709551616 + lo) / y, r) := by
  unfold bits_Div64.f
  rw [if_neg (by omega), if_neg (by omega)]
  by_cases hz : hi = 0
  · rw [if_pos hz, hz]
    refine ⟨Int.tmod lo y, ?_⟩
    rw [Int.tdiv_eq_ediv_of_nonneg hl.1, wu]
    have a1 : 0 ≤ lo / y := Int.ediv_nonneg hl.1 (by omega)
    have a2 : lo / y ≤ lo := Int.ediv_le_self _ hl.1
    rw [show lo / y % 18446744073709551616 = lo / y from by omega]; simp
  · rw [if_neg hz]
    obtain ⟨b1, b2, b3⟩ := bl_spec 64 y.toNat (by omega) (by omega)
    have b4 : Lib.bitLen y.toNat ≤ 64 := Lib.bitLen_le y.toNat 64 (by omega) (by omega)
    change 1 ≤ Lib.bitLen y.toNat at b1
    change 2 ^ (Lib.bitLen y.toNat - 1) ≤ y.toNat at b2
    change y.toNat < 2 ^ Lib.bitLen y.toNat at b3
    have hlz : bits_LeadingZeros64.f y = some (64 - (Lib.bitLen y.toNat : Int)) := by
      unfold bits_LeadingZeros64.f
      rw [if_pos (by omega), if_pos hy]
    rw [hlz]
    generalize Lib.bitLen y.toNat = L at *
    clear hlz
    simp only [Option.bind_some]
    obtain ⟨s, hs⟩ : ∃ s : Nat, s = 64 - L := ⟨_, rfl⟩
    have hw : IntKind.u64.wrap (64 - (L : Int)) = (s : Int) := by rw [wu]; omega
    have hw2 : IntKind.u64.wrap (64 - (s : Int)) = (L : Int) := by rw [wu]; omega
    rw [hw, hw2, if_pos (by omega), if_pos (by omega)]
    rw [shl_u y s (by omega) (by omega), shl_u hi s (by omega) (by omega), shl_u lo s (by omega) (by omega), shr_u lo L (by omega) (by omega)]
    rw [Int.toNat_natCast, Int.toNat_natCast]
    have hP : (0 : Int) < 2 ^ s := Int.pow_pos (by omega)
    have hLs : (2 : Int) ^ L * 2 ^ s = 18446744073709551616 := by
      rw [← Int.pow_add, show L + s = 64 from by omega]; rfl
    have hLs1 : (2 : Int) ^ (L - 1) * 2 ^ s = 9223372036854775808 := by
      rw [← Int.pow_add, show L - 1 + s = 63 from by omega]; rfl
    have hPs : (2 : Int) ^ s < 18446744073709551616 := by
      have h1 : (0 : Int) < 2 ^ (L - 1) := Int.pow_pos (by omega)
      have := Int.mul_le_mul_of_nonneg_right (show (1 : Int) ≤ 2 ^ (L - 1) by omega) (show (0 : Int) ≤ 2 ^ s by omega)
      omega
    have y1 : y < 2 ^ L := by
      have : (y.toNat : Int) < ((2 ^ L : Nat) : Int) := by exact_mod_cast b3
      have e : ((2 ^ L : Nat) : Int) = 2 ^ L := by simp
      omega
    have y0 : 2 ^ (L - 1) ≤ y := by
      have : ((2 ^ (L - 1) : Nat) : Int) ≤ (y.toNat : Int) := by exact_mod_cast b2
      have e : ((2 ^ (L - 1) : Nat) : Int) = 2 ^ (L - 1) := by simp
      omega
    have z1 : y * 2 ^ s < 18446744073709551616 := by rw [← hLs]; exact Int.mul_lt_mul_of_pos_right y1 hP
    have z0 : 9223372036854775808 ≤ y * 2 ^ s := by rw [← hLs1]; exact Int.mul_le_mul_of_nonneg_right y0 (by omega)
    have x1 : (hi + 1) * 2 ^ s ≤ y * 2 ^ s := Int.mul_le_mul_of_nonneg_right (by omega) (by omega)
    have x2 : (hi + 1) * 2 ^ s = hi * 2 ^ s + 2 ^ s := by grind
    have x3 : 0 ≤ hi * 2 ^ s := Int.mul_nonneg h0 (by omega)
    have hLp : (0 : Int) < 2 ^ L := Int.pow_pos (by omega)
    have l1 : 0 ≤ lo / 2 ^ L := Int.ediv_nonneg hl.1 (by omega)
    have l2 : lo / 2 ^ L < 2 ^ s := Int.ediv_lt_of_lt_mul hLp (by rw [Int.mul_comm, hLs]; omega)
    have hm : hi * 2 ^ s % 2 ^ s = 0 := Int.mul_emod_left _ _
    have ll : lo * 2 ^ s / 18446744073709551616 = lo / 2 ^ L := by
      rw [← hLs]; exact Int.mul_ediv_mul_of_pos_left _ _ hP
    have ly : y * 2 ^ s % 18446744073709551616 = y * 2 ^ s := by omega
    have lh : hi * 2 ^ s % 18446744073709551616 = hi * 2 ^ s := by omega
    rw [ly, lh, or_join s (hi * 2 ^ s) (lo / 2 ^ L) x3 hm (by omega) l1 l2 (by omega), and32 (y * 2 ^ s) (by omega) z1, and32 _ (by omega) (by omega)]
    rw [if_neg (by omega)]
    have hun : hi * 2 ^ s + lo / 2 ^ L < y * 2 ^ s := by omega
    obtain ⟨r, hr⟩ := div_two s (y * 2 ^ s) (hi * 2 ^ s + lo / 2 ^ L) (lo * 2 ^ s % 18446744073709551616 / 4294967296) (lo * 2 ^ s % 18446744073709551616 % 4294967296) (by omega) z0 (by omega) (by omega) (by omega) (by omega) hun hk
    refine ⟨r, ?_⟩
    rw [hr]
    congr 2
    have hx : (hi * 2 ^ s + lo / 2 ^ L) * 18446744073709551616 + lo * 2 ^ s % 18446744073709551616 / 4294967296 * 4294967296 + lo * 2 ^ s % 18446744073709551616 % 4294967296 = (hi * 18446744073709551616 + lo) * 2 ^ s := by
      have e1 : (hi * 18446744073709551616 + lo) * 2 ^ s = hi * 2 ^ s * 18446744073709551616 + lo * 2 ^ s := by grind
      omega
    rw [hx]
    exact Int.mul_ediv_mul_of_pos_left _ _ hP
theorem quot_f (a b : Int) (ha : 0 ≤ a ∧ a ≤ 18446744073709551615) (hb : 0 ≤ b ∧ b ≤ 18446744073709551615) {k : Nat} (hk : 40 ≤ k) : fix_quotient.f k a b = some (divv a b) := by
  unfold fix_quotient.f divv
  split
  · rfl
  · rw [wu]
    obtain ⟨r, hr⟩ := div64_f (a / 4294967296) (a * 4294967296 % 18446744073709551616) b (by omega) (by omega) (by omega) hb.2 hk
    rw [hr]
    simp only [Option.bind_some]
    congr 2; omega
theorem divv_range (a b : Int) (ha : 0 ≤ a ∧ a ≤ 18446744073709551615) (hb : 0 ≤ b) : 0 ≤ divv a b ∧ divv a b ≤ 18446744073709551615 := by
  unfold divv
  split
  · omega
  · refine ⟨Int.ediv_nonneg (by omega) hb, ?_⟩
    have : a * 4294967296 / b < 18446744073709551616 := Int.ediv_lt_of_lt_mul (by omega) (by omega)
    omega
def mulv (a b : Int) : Int := if a * b / 79228162514264337593543950336 = 0 then a * b / 4294967296 else 18446744073709551615
theorem mul64_range (a b : Int) (ha : 0 ≤ a ∧ a ≤ 18446744073709551615) (hb : 0 ≤ b ∧ b ≤ 18446744073709551615) : 0 ≤ a * b ∧ a * b ≤ 340282366920938463426481119284349108225 := by
  refine ⟨Int.mul_nonneg ha.1 hb.1, ?_⟩
  have := Int.mul_le_mul ha.2 hb.2 hb.1 (by omega : (0 : Int) ≤ 18446744073709551615)
  omega
theorem shifted_f (p : Int) (h0 : 0 ≤ p) (h1 : p ≤ 340282366920938463426481119284349108225) : fix_shifted.f (p / 18446744073709551616) (p % 18446744073709551616) = some (if p / 79228162514264337593543950336 = 0 then p / 4294967296 else 18446744073709551615) := by
  unfold fix_shifted.f
  have e : p / 18446744073709551616 / 4294967296 = p / 79228162514264337593543950336 := by omega
  rw [e]
  by_cases h : p / 79228162514264337593543950336 = 0
  · rw [if_pos h, if_pos h, wu, or_join 32 _ _ (by omega) (by omega) (by omega) (by omega) (by omega) (by omega)]
    congr 1; omega
  · rw [if_neg h, if_neg h]
theorem mul64_f (a b : Int) (ha : 0 ≤ a ∧ a ≤ 18446744073709551615) (hb : 0 ≤ b ∧ b ≤ 18446744073709551615) : bits_Mul64.f a b = some (a * b / 18446744073709551616, a * b % 18446744073709551616) := by
  unfold bits_Mul64.f; rw [if_pos ⟨ha.1, ha.2, hb.1, hb.2⟩]
theorem mul_f (a b : Int) (ha : 0 ≤ a ∧ a ≤ 18446744073709551615) (hb : 0 ≤ b ∧ b ≤ 18446744073709551615) : fix_F_Mul.f a b = some (mulv a b) := by
  unfold fix_F_Mul.f mulv
  have h := mul64_range a b ha hb
  rw [mul64_f a b ha hb]; simp only [Option.bind_some]
  rw [shifted_f _ h.1 h.2]; rfl
theorem mulv_range (a b : Int) (ha : 0 ≤ a ∧ a ≤ 18446744073709551615) (hb : 0 ≤ b ∧ b ≤ 18446744073709551615) : 0 ≤ mulv a b ∧ mulv a b ≤ 18446744073709551615 := by
  have h := mul64_range a b ha hb
  unfold mulv; split <;> omega
/-- r is the square root of n, rounded down. -/
def IsRoot (n r : Int) : Prop := 0 ≤ r ∧ r * r ≤ n ∧ n < (r + 1) * (r + 1)
theorem root_l (a : Int) (ha : 0 ≤ a ∧ a ≤ 18446744073709551615) : ∀ (d k : Nat) (r : Int), d ≤ 48 → d < k → 0 ≤ r → r % 2 ^ d = 0 → r + 2 ^ d ≤ 281474976710656 → r * r ≤ a * 4294967296 → a * 4294967296 < (r + 2 ^ d) * (r + 2 ^ d) → ∃ q, fix_F_Root.l0 k a r ((d : Int) - 1) = some q ∧ IsRoot (a * 4294967296) q ∧ q < 281474976710656
  | 0, k, r, hd, hk, h0, hm, hr, h1, h2 => by
    obtain ⟨k, rfl⟩ : ∃ m, k = m + 1 := ⟨k - 1, by omega⟩
    refine ⟨r, ?_, ⟨h0, h1, by simpa using h2⟩, by simp at hr; omega⟩
    simp only [fix_F_Root.l0]
    rw [if_neg (by omega)]
  | d + 1, k, r, hd, hk, h0, hm, hr, h1, h2 => by
    obtain ⟨k, rfl⟩ : ∃ m, k = m + 1 := ⟨k - 1, by omega⟩
    have hP : (0 : Int) < 2 ^ d := Int.pow_pos (by omega)
    obtain ⟨P, hPe⟩ : ∃ P : Int, 2 ^ d = P := ⟨_, rfl⟩
    have e2 : (2 : Int) ^ (d + 1) = 2 * P := by rw [Int.pow_succ, hPe]; omega
    rw [e2] at hm hr h2
    rw [hPe] at hP
    have hs : shl .u64 1 (((d + 1 : Nat) : Int) - 1) = P := by
      rw [shl_u 1 _ (by omega) (by omega), show (((d + 1 : Nat) : Int) - 1).toNat = d from by omega, hPe]; omega
    have hmd : r % P = 0 := by
      have := Int.emod_emod_of_dvd r (show P ∣ 2 * P from ⟨2, by omega⟩)
      rw [hm] at this; simpa using this.symm
    have hj : Go.bits .or .u64 r P = r + P := or_join (d + 1) r P h0 (by rw [e2]; exact hm) (by omega) (by omega) (by rw [e2]; omega) (by omega)
    have hn : 0 ≤ r + P ∧ r + P ≤ 18446744073709551615 := by omega
    have hsq : 0 ≤ (r + P) * (r + P) := Int.mul_nonneg hn.1 hn.1
    have hsq2 : (r + P) * (r + P) ≤ 281474976710656 * 281474976710656 := Int.mul_le_mul (by omega) (by omega) (by omega) (by omega)
    simp only [fix_F_Root.l0]
    rw [if_pos (by omega), if_pos (by omega), hs, hj, mul64_f _ _ hn hn]
    simp only [Option.bind_some]
    rw [w64 (by omega) (by omega), wu]
    have ed : (((d + 1 : Nat) : Int) - 1 - 1) = (d : Int) - 1 := by omega
    rw [ed]
    by_cases hc : (r + P) * (r + P) ≤ a * 4294967296
    · obtain ⟨q, hq, hroot⟩ := root_l a ha d k (r + P) (by omega) (by omega) hn.1 (by rw [hPe, Int.add_emod, hmd]; simp) (by rw [hPe]; omega) hc (by rw [hPe, show r + P + P = r + 2 * P from by omega]; exact h2)
      refine ⟨q, ?_, hroot⟩
      generalize (r + P) * (r + P) = s at *
      split
      · exact hq
      · split
        · rw [if_pos (by omega)]; exact hq
        · omega
    · obtain ⟨q, hq, hroot⟩ := root_l a ha d k r (by omega) (by omega) h0 (by rw [hPe]; exact hmd) (by rw [hPe]; omega) h1 (by rw [hPe]; omega)
      refine ⟨q, ?_, hroot⟩
      generalize (r + P) * (r + P) = s at *
      split
      · omega
      · split
        · rw [if_neg (by omega)]; exact hq
        · exact hq
theorem root_f (a : Int) (ha : 0 ≤ a ∧ a ≤ 18446744073709551615) {k : Nat} (hk : 60 ≤ k) : ∃ q, fix_F_Root.f k a = some q ∧ IsRoot (a * 4294967296) q ∧ q < 281474976710656 := by
  unfold fix_F_Root.f
  exact root_l a ha 48 k 0 (by omega) (by omega) (by omega) (by simp) (by decide) (by omega) (by
    have : ((0 : Int) + 2 ^ 48) * (0 + 2 ^ 48) = 79228162514264337593543950336 := by decide
    omega)
theorem root_mono {m n q r : Int} (h : m ≤ n) (hq : IsRoot m q) (hr : IsRoot n r) : q ≤ r := by
  obtain ⟨q0, q1, q2⟩ := hq
  obtain ⟨r0, r1, r2⟩ := hr
  apply Int.not_lt.mp
  intro hlt
  have : (r + 1) * (r + 1) ≤ q * q := Int.mul_le_mul (by omega) (by omega) (by omega) (by omega)
  omega
theorem root_one {n q r : Int} (hq : IsRoot n q) (hr : IsRoot n r) : q = r := Int.le_antisymm (root_mono (Int.le_refl n) hq hr) (root_mono (Int.le_refl n) hr hq)
theorem awake_k {k : Nat} (hk : 100 ≤ k) : terracelaw01_awake.f k = some true :=
  at_rounds (g := fun k => terracelaw01_awake.f k) (fun k => terracelaw01_awake.mono k) hk (by decide +kernel)
theorem addv_le {x y c : Int} (h : x ≤ y) : addv x c ≤ addv y c := by unfold addv; split <;> split <;> omega
theorem subv_le {x y c : Int} (h : x ≤ y) : subv x c ≤ subv y c := by unfold subv; split <;> split <;> omega
theorem subv_ge {x y c : Int} (h : x ≤ y) (h0 : 0 ≤ x) : subv c y ≤ subv c x := by unfold subv; split <;> split <;> omega
theorem mulv_le {x y c : Int} (hx : 0 ≤ x ∧ x ≤ 18446744073709551615) (hy : 0 ≤ y ∧ y ≤ 18446744073709551615) (hc : 0 ≤ c ∧ c ≤ 18446744073709551615) (h : x ≤ y) : mulv x c ≤ mulv y c := by
  have h1 := mul64_range x c hx hc
  have h2 := mul64_range y c hy hc
  have h3 := Int.mul_le_mul_of_nonneg_right h hc.1
  unfold mulv; split <;> split <;> omega
theorem divv_le {x y c : Int} (hx : 0 ≤ x ∧ x ≤ 18446744073709551615) (hy : 0 ≤ y ∧ y ≤ 18446744073709551615) (hc : 0 ≤ c ∧ c ≤ 18446744073709551615) (h : x ≤ y) : divv x c ≤ divv y c := by
  have h1 := divv_range x c hx hc.1
  have h2 := divv_range y c hy hc.1
  unfold divv at *
  by_cases e1 : c ≤ x / 4294967296
  · rw [if_pos e1, if_pos (by omega)]; omega
  · rw [if_neg e1] at *
    by_cases e2 : c ≤ y / 4294967296
    · rw [if_pos e2]; omega
    · rw [if_neg e2]; exact Int.ediv_le_ediv (by omega) (by omega)
theorem divv_ge {x y c : Int} (hx : 0 ≤ x ∧ x ≤ 18446744073709551615) (hy : 0 ≤ y ∧ y ≤ 18446744073709551615) (hc : 0 ≤ c ∧ c ≤ 18446744073709551615) (h : x ≤ y) : divv c y ≤ divv c x := by
  have h1 := divv_range c x hc hx.1
  have h2 := divv_range c y hc hy.1
  unfold divv at *
  by_cases e1 : y ≤ c / 4294967296
  · rw [if_pos e1, if_pos (by omega)]; omega
  · rw [if_neg e1] at *
    by_cases e2 : x ≤ c / 4294967296
    · rw [if_pos e2]; omega
    · rw [if_neg e2]
      apply Int.le_ediv_of_mul_le (by omega)
      have e := Int.mul_ediv_add_emod (c * 4294967296) y
      have e3 := Int.emod_nonneg (c * 4294967296) (show y ≠ 0 by omega)
      have e4 : c * 4294967296 / y * x ≤ c * 4294967296 / y * y := Int.mul_le_mul_of_nonneg_left h (Int.ediv_nonneg (by omega) hy.1)
      rw [Int.mul_comm] at e
      omega
theorem FixRises : terracelaw01_FixRises.Pure := by
  intro a b c ha hb hc
  have ha := wf_u64 ha
  have hb := wf_u64 hb
  have hc := wf_u64 hc
  obtain ⟨k, hk⟩ : ∃ k, 500 < k := ⟨501, by omega⟩
  refine ⟨k, ?_⟩
  unfold terracelaw01_FixRises.f
  obtain ⟨x, hx⟩ : ∃ x, mn a b = x := ⟨_, rfl⟩
  obtain ⟨y, hy⟩ : ∃ y, mx a b = y := ⟨_, rfl⟩
  have hxy : x ≤ y ∧ (0 ≤ x ∧ x ≤ 18446744073709551615) ∧ (0 ≤ y ∧ y ≤ 18446744073709551615) := by
    unfold mn at hx; unfold mx at hy; split at hx <;> split at hy <;> omega
  obtain ⟨h, rx, ry⟩ := hxy
  rw [hx, hy, add_f x c rx hc, add_f y c ry hc, mul_f x c rx hc, mul_f y c ry hc, sub_f x c rx hc, sub_f y c ry hc, sub_f c x hc rx, sub_f c y hc ry, awake_k (by omega)]
  unfold fix_F_Div.f
  rw [quot_f x c rx hc (by omega), quot_f y c ry hc (by omega), quot_f c x hc rx (by omega), quot_f c y hc ry (by omega)]
  obtain ⟨p, h1, p1, _⟩ := root_f x rx (k := k) (by omega)
  obtain ⟨q, h2, q1, _⟩ := root_f y ry (k := k) (by omega)
  rw [h1, h2]
  simp only [Option.bind_some]
  rw [if_pos (addv_le h), if_pos (mulv_le rx ry hc h), if_pos (divv_le rx ry hc h), if_pos (divv_ge rx ry hc h), if_pos (subv_le h), if_pos (subv_ge h rx.1), if_pos (root_mono (by omega) p1 q1)]

end Go.Proofs.Ytibihicmhakacaa.Pure
