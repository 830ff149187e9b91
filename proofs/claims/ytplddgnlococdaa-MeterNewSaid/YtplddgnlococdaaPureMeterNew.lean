/- Proved: there are meters of just the windows that the document allows; a copy goes on by itself (for every input that the statement's guards let in; the Go function returns true and leaves its arguments as they were). -/
import Derived.Test.YtplddgnlococdaaPMeterNewx5
set_option linter.unusedVariables false
set_option linter.unusedSimpArgs false
namespace Go.Proofs.Ytplddgnlococdaa.Pure
open Go.RowKit Go.Proofs.Ytplddgnlococdaa.PMeterNew Go.Proofs.YtplddgnlococdaaW.PrintWords Go.Proofs.YtplddgnlococdaaW.PrintLast Go.Proofs.YtplddgnlococdaaW.PrintMore

theorem wf_u8 {a : Int} (h : (Lit.int .u8 a).wf = true) : 0 ≤ a ∧ a ≤ 255 := by
  simpa [Lit.wf, IntKind.min, IntKind.max, IntKind.signed, IntKind.bits] using h
theorem wf_u16 {a : Int} (h : (Lit.int .u16 a).wf = true) : 0 ≤ a ∧ a ≤ 65535 := by
  simpa [Lit.wf, IntKind.min, IntKind.max, IntKind.signed, IntKind.bits] using h
theorem wf_u32 {a : Int} (h : (Lit.int .u32 a).wf = true) : 0 ≤ a ∧ a ≤ 4294967295 := by
  simpa [Lit.wf, IntKind.min, IntKind.max, IntKind.signed, IntKind.bits] using h
theorem wf_u64 {a : Int} (h : (Lit.int .u64 a).wf = true) : 0 ≤ a ∧ a ≤ 18446744073709551615 := by
  simpa [Lit.wf, IntKind.min, IntKind.max, IntKind.signed, IntKind.bits] using h
theorem wf_i64 {a : Int} (h : (Lit.int .i64 a).wf = true) : -9223372036854775808 ≤ a ∧ a ≤ 9223372036854775807 := by
  simpa [Lit.wf, IntKind.min, IntKind.max, IntKind.signed, IntKind.bits] using h
theorem w64 {n : Int} (h : -9223372036854775808 ≤ n) (h' : n ≤ 9223372036854775807) : wrap64 n = n := by
  unfold wrap64; omega
theorem fuel {k n : Nat} (h : n < k) : ∃ m, k = m + 1 ∧ n ≤ m := ⟨k - 1, by omega, by omega⟩
theorem u64 {n : Int} (h : 0 ≤ n) (h' : n ≤ 18446744073709551615) : IntKind.u64.wrap n = n := by
  simp only [IntKind.wrap, IntKind.bits, IntKind.signed]; simp; omega
theorem wu (n : Int) : IntKind.u64.wrap n = n % 18446744073709551616 := by
  simp [IntKind.wrap, IntKind.bits, IntKind.signed]
theorem wraps_u64 (n : Int) (h0 : 0 ≤ n) (h1 : n < 2 ^ 64) : IntKind.u64.wrap n = n := by rw [wu]; omega
theorem and32 (x : Int) (h0 : 0 ≤ x) (h1 : x < 18446744073709551616) : Go.bits .and .u64 x 4294967295 = x % 4294967296 :=
  bits_mask .u64 64 (by decide) wraps_u64 32 (by decide) x h0 h1
theorem or_join (i : Nat) (x y : Int) (h0 : 0 ≤ x) (h1 : x % 2 ^ i = 0) (h2 : x < 18446744073709551616) (h3 : 0 ≤ y) (h4 : y < 2 ^ i) (h5 : y < 18446744073709551616) : Go.bits .or .u64 x y = x + y :=
  bits_join .u64 64 (by decide) wraps_u64 i x y h0 h1 h2 h3 h4 h5
theorem shl_u (x y : Int) (h0 : 0 ≤ y) (h1 : y ≤ 64) : shl .u64 x y = (x * 2 ^ y.toNat) % 18446744073709551616 := by
  unfold shl; rw [wu, show min y.toNat (IntKind.bits .u64) = y.toNat from Nat.min_eq_left (by simp [IntKind.bits]; omega)]
theorem shr_u (x y : Int) (h0 : 0 ≤ y) (h1 : y ≤ 64) : shr .u64 x y = x / 2 ^ y.toNat := by
  unfold shr; rw [show min y.toNat (IntKind.bits .u64) = y.toNat from Nat.min_eq_left (by simp [IntKind.bits]; omega)]
/-- one call behind another (no unfolding: the kernel need not look into what is called) -/
theorem bs {α β : Type} {x : Option α} {f : α → Option β} {a : α} {r : Option β} (h : x = some a) (h2 : f a = r) : x.bind f = r := by
  subst h; exact h2
/-- One digit of a long division by a number of 64 bits whose highest bit is set. -/
theorem digit_ok (q rhat yn1 yn0 un un1 : Int) (hy1 : 2147483648 ≤ yn1) (hy1' : yn1 ≤ 4294967295) (h0 : 0 ≤ yn0 ∧ yn0 ≤ 4294967295) (h1 : 0 ≤ un1 ∧ un1 ≤ 4294967295) (hu : 0 ≤ un) (hlt : un < yn1 * 4294967296 + yn0)
    (hq : q * yn1 + rhat = un) (hr : 0 ≤ rhat) (hge : un * 4294967296 + un1 < (q + 1) * (yn1 * 4294967296 + yn0)) (hle : q * yn0 ≤ 4294967296 * rhat + un1) :
    (un * 4294967296 + un1) / (yn1 * 4294967296 + yn0) = q := by
  have e1 : q * (yn1 * 4294967296 + yn0) ≤ un * 4294967296 + un1 := by
    have : q * (yn1 * 4294967296 + yn0) = (q * yn1) * 4294967296 + q * yn0 := by grind
    omega
  have hp : 0 < yn1 * 4294967296 + yn0 := by omega
  apply Int.le_antisymm
  · have := Int.ediv_lt_of_lt_mul hp hge
    omega
  · exact Int.le_ediv_of_mul_le hp e1
theorem q1_le (un yn1 yn0 : Int) (hy1 : 2147483648 ≤ yn1) (hy1' : yn1 ≤ 4294967295) (h0 : 0 ≤ yn0 ∧ yn0 ≤ 4294967295) (hu : 0 ≤ un) (hlt : un < yn1 * 4294967296 + yn0) : 0 ≤ un / yn1 ∧ un / yn1 ≤ 4294967297 := by
  refine ⟨Int.ediv_nonneg hu (by omega), ?_⟩
  have : un / yn1 < 4294967298 := Int.ediv_lt_of_lt_mul (by omega) (by omega)
  omega
/-- the estimate is not too small -/
theorem q_ge (q yn1 yn0 un un1 rhat : Int) (hy1 : 2147483648 ≤ yn1) (h0 : 0 ≤ yn0) (h1 : un1 ≤ 4294967295) (hq : q * yn1 + rhat = un) (hr : rhat < yn1) (hq0 : 0 ≤ q) :
    un * 4294967296 + un1 < (q + 1) * (yn1 * 4294967296 + yn0) := by
  have e : (q + 1) * (yn1 * 4294967296 + yn0) = (q * yn1) * 4294967296 + yn1 * 4294967296 + (q + 1) * yn0 := by grind
  have : 0 ≤ (q + 1) * yn0 := Int.mul_nonneg (by omega) h0
  omega
/-- one step down -/
theorem q_down (q yn1 yn0 un un1 rhat : Int) (hy1 : 2147483648 ≤ yn1) (h0 : 0 ≤ yn0 ∧ yn0 ≤ 4294967295) (h1 : 0 ≤ un1 ∧ un1 ≤ 4294967295) (hu : 0 ≤ un) (hlt : un < yn1 * 4294967296 + yn0) (hq : q * yn1 + rhat = un) (hd : q ≥ 4294967296 ∨ q * yn0 > 4294967296 * rhat + un1) :
    un * 4294967296 + un1 < (q - 1 + 1) * (yn1 * 4294967296 + yn0) ∧ (q - 1) * yn1 + (rhat + yn1) = un := by
  constructor
  · rw [Int.sub_add_cancel]
    rcases hd with hd | hd
    · have := Int.mul_le_mul_of_nonneg_right hd (show 0 ≤ yn1 * 4294967296 + yn0 by omega)
      omega
    · have : q * (yn1 * 4294967296 + yn0) = (q * yn1) * 4294967296 + q * yn0 := by grind
      omega
  · have : (q - 1) * yn1 = q * yn1 - yn1 := by grind
    omega
theorem mul_range (q y : Int) (hq : 0 ≤ q) (hq' : q ≤ 4294967297) (hy : 0 ≤ y) (hy' : y ≤ 4294967295) : 0 ≤ q * y ∧ q * y ≤ 18446744073709551615 := by
  refine ⟨Int.mul_nonneg hq hy, ?_⟩
  have := Int.mul_le_mul hq' hy' hy (by omega : (0 : Int) ≤ 4294967297)
  omega
/-- the first digit's loop: what it goes on with -/
theorem loop0 (s yn1 yn0 un un1 un0 : Int) (hy1 : 2147483648 ≤ yn1) (hy1' : yn1 ≤ 4294967295) (h0 : 0 ≤ yn0 ∧ yn0 ≤ 4294967295) (h1 : 0 ≤ un1 ∧ un1 ≤ 4294967295) (hu : 0 ≤ un) (hlt : un < yn1 * 4294967296 + yn0) (d : Nat) :
    ∀ (k : Nat) (q rhat : Int), 2 * d + 4 ≤ k → 0 ≤ q → q ≤ 4294967297 → q * yn1 + rhat = un → 0 ≤ rhat → rhat < 4294967296 → 4294967296 ≤ rhat + d * 2147483648 → un * 4294967296 + un1 < (q + 1) * (yn1 * 4294967296 + yn0) →
    ∃ k', k ≤ k' + 2 * d + 4 ∧ bits_Div64.l0 k (yn1 * 4294967296 + yn0) s yn1 yn0 un un1 un0 q rhat = bits_Div64.j2 k' (yn1 * 4294967296 + yn0) s yn1 yn0 un un1 un0 ((un * 4294967296 + un1) / (yn1 * 4294967296 + yn0)) := by
  induction d with
  | zero => intro k q rhat _ _ _ _ _ h2 h3; omega
  | succ d ih =>
    intro k q rhat hk hq0 hq1 hq hr hr1 hrd hge
    obtain ⟨k, rfl⟩ : ∃ m, k = m + 2 := ⟨k - 2, by omega⟩
    have hm := mul_range q yn0 hq0 hq1 h0.1 h0.2
    have hw : IntKind.u64.wrap (IntKind.u64.wrap (4294967296 * rhat) + un1) = 4294967296 * rhat + un1 := by rw [wu, wu]; omega
    have hw2 : IntKind.u64.wrap (q * yn0) = q * yn0 := by rw [wu]; omega
    have key : ∀ b, b = decide (q ≥ 4294967296 ∨ q * yn0 > 4294967296 * rhat + un1) →
        ∃ k', k + 2 ≤ k' + 2 * (d + 1) + 4 ∧ bits_Div64.j1 (k + 1) (yn1 * 4294967296 + yn0) s yn1 yn0 un un1 un0 q rhat b = bits_Div64.j2 k' (yn1 * 4294967296 + yn0) s yn1 yn0 un un1 un0 ((un * 4294967296 + un1) / (yn1 * 4294967296 + yn0)) := by
      intro b hb
      simp only [bits_Div64.j1]
      by_cases hd : q ≥ 4294967296 ∨ q * yn0 > 4294967296 * rhat + un1
      · rw [hb, if_pos (by simpa using hd)]
        obtain ⟨hg2, hq2⟩ := q_down q yn1 yn0 un un1 rhat hy1 h0 h1 hu hlt hq hd
        have hqp : 1 ≤ q := by
          rcases hd with hd | hd
          · omega
          · by_cases hz : q = 0
            · subst hz; omega
            · omega
        have hw3 : IntKind.u64.wrap (rhat + yn1) = rhat + yn1 := by rw [wu]; omega
        have hw4 : IntKind.u64.wrap (q - 1) = q - 1 := by rw [wu]; omega
        rw [hw3, hw4]
        by_cases hb2 : rhat + yn1 ≥ 4294967296
        · rw [if_pos hb2]
          have hm2 := mul_range (q - 1) yn0 (by omega) (by omega) h0.1 h0.2
          have hm3 : (q - 1) * yn0 ≤ 4294967296 * 4294967295 := Int.mul_le_mul (by omega) h0.2 h0.1 (by omega)
          have := digit_ok (q - 1) (rhat + yn1) yn1 yn0 un un1 hy1 hy1' h0 h1 hu hlt hq2 (by omega) hg2 (by omega)
          rw [this]
          exact ⟨k, by omega, rfl⟩
        · rw [if_neg hb2]
          obtain ⟨k', e1, e2⟩ := ih k (q - 1) (rhat + yn1) (by omega) (by omega) (by omega) hq2 (by omega) (by omega) (by omega) hg2
          exact ⟨k', by omega, e2⟩
      · rw [hb, if_neg (by simpa using hd)]
        have := digit_ok q rhat yn1 yn0 un un1 hy1 hy1' h0 h1 hu hlt hq hr hge (by omega)
        rw [this]
        exact ⟨k, by omega, rfl⟩
    simp only [bits_Div64.l0]
    by_cases hc : q ≥ 4294967296
    · rw [if_pos hc]; exact key true (by simp [hc])
    · rw [if_neg hc, hw, hw2]; exact key _ (by simp [hc])
/-- the second digit's loop -/
theorem loop1 (s yn1 yn0 un un1 q1 : Int) (hs : 0 ≤ s) (hy1 : 2147483648 ≤ yn1) (hy1' : yn1 ≤ 4294967295) (h0 : 0 ≤ yn0 ∧ yn0 ≤ 4294967295) (h1 : 0 ≤ un1 ∧ un1 ≤ 4294967295) (hu : 0 ≤ un) (hlt : un < yn1 * 4294967296 + yn0) (d : Nat) :
    ∀ (k : Nat) (q rhat : Int), 2 * d + 4 ≤ k → 0 ≤ q → q ≤ 4294967297 → q * yn1 + rhat = un → 0 ≤ rhat → rhat < 4294967296 → 4294967296 ≤ rhat + d * 2147483648 → un * 4294967296 + un1 < (q + 1) * (yn1 * 4294967296 + yn0) →
    ∃ r, bits_Div64.l1 k (yn1 * 4294967296 + yn0) s yn1 yn0 un1 q1 rhat un q = some (IntKind.u64.wrap ((IntKind.u64.wrap (q1 * 4294967296)) + ((un * 4294967296 + un1) / (yn1 * 4294967296 + yn0))), r) := by
  induction d with
  | zero => intro k q rhat _ _ _ _ _ h2 h3; omega
  | succ d ih =>
    intro k q rhat hk hq0 hq1 hq hr hr1 hrd hge
    obtain ⟨k, rfl⟩ : ∃ m, k = m + 2 := ⟨k - 2, by omega⟩
    have hm := mul_range q yn0 hq0 hq1 h0.1 h0.2
    have hw : IntKind.u64.wrap (IntKind.u64.wrap (4294967296 * rhat) + un1) = 4294967296 * rhat + un1 := by rw [wu, wu]; omega
    have hw2 : IntKind.u64.wrap (q * yn0) = q * yn0 := by rw [wu]; omega
    have key : ∀ b, b = decide (q ≥ 4294967296 ∨ q * yn0 > 4294967296 * rhat + un1) →
        ∃ r, bits_Div64.j4 (k + 1) (yn1 * 4294967296 + yn0) s yn1 yn0 un1 q1 rhat un q b = some (IntKind.u64.wrap ((IntKind.u64.wrap (q1 * 4294967296)) + ((un * 4294967296 + un1) / (yn1 * 4294967296 + yn0))), r) := by
      intro b hb
      simp only [bits_Div64.j4]
      by_cases hd : q ≥ 4294967296 ∨ q * yn0 > 4294967296 * rhat + un1
      · rw [hb, if_pos (by simpa using hd)]
        obtain ⟨hg2, hq2⟩ := q_down q yn1 yn0 un un1 rhat hy1 h0 h1 hu hlt hq hd
        have hqp : 1 ≤ q := by
          rcases hd with hd | hd
          · omega
          · by_cases hz : q = 0
            · subst hz; omega
            · omega
        have hw3 : IntKind.u64.wrap (rhat + yn1) = rhat + yn1 := by rw [wu]; omega
        have hw4 : IntKind.u64.wrap (q - 1) = q - 1 := by rw [wu]; omega
        rw [hw3, hw4]
        by_cases hb2 : rhat + yn1 ≥ 4294967296
        · rw [if_pos hb2, if_pos hs]
          have hm2 := mul_range (q - 1) yn0 (by omega) (by omega) h0.1 h0.2
          have hm3 : (q - 1) * yn0 ≤ 4294967296 * 4294967295 := Int.mul_le_mul (by omega) h0.2 h0.1 (by omega)
          have := digit_ok (q - 1) (rhat + yn1) yn1 yn0 un un1 hy1 hy1' h0 h1 hu hlt hq2 (by omega) hg2 (by omega)
          rw [this]
          exact ⟨_, rfl⟩
        · rw [if_neg hb2]
          exact ih k (q - 1) (rhat + yn1) (by omega) (by omega) (by omega) hq2 (by omega) (by omega) (by omega) hg2
      · rw [hb, if_neg (by simpa using hd), if_pos hs]
        have := digit_ok q rhat yn1 yn0 un un1 hy1 hy1' h0 h1 hu hlt hq hr hge (by omega)
        rw [this]
        exact ⟨_, rfl⟩
    simp only [bits_Div64.l1]
    by_cases hc : q ≥ 4294967296
    · rw [if_pos hc]; exact key true (by simp [hc])
    · rw [if_neg hc, hw, hw2]; exact key _ (by simp [hc])
theorem start_ok (un yn1 : Int) (hy1 : 2147483648 ≤ yn1) (hy1' : yn1 ≤ 4294967295) (hu : 0 ≤ un) (hu' : un ≤ 18446744073709551615) (hq : 0 ≤ un / yn1 ∧ un / yn1 ≤ 4294967297) :
    IntKind.u64.wrap (Int.tdiv un yn1) = un / yn1 ∧ IntKind.u64.wrap (un - IntKind.u64.wrap (un / yn1 * yn1)) = un % yn1 ∧ un / yn1 * yn1 + un % yn1 = un ∧ 0 ≤ un % yn1 ∧ un % yn1 < yn1 := by
  have e := Int.mul_ediv_add_emod un yn1
  rw [Int.mul_comm] at e
  have h1 := Int.emod_nonneg un (show yn1 ≠ 0 by omega)
  have h2 := Int.emod_lt_of_pos un (show 0 < yn1 by omega)
  rw [Int.tdiv_eq_ediv_of_nonneg hu]
  refine ⟨by rw [wu]; omega, ?_, e, h1, h2⟩
  have h3 : 0 ≤ un / yn1 * yn1 := Int.mul_nonneg hq.1 (by omega)
  rw [wu, wu]; omega
/-- both digits -/
theorem div_two (s y un un1 un0 : Int) (hs : 0 ≤ s) (hy : 9223372036854775808 ≤ y) (hy' : y ≤ 18446744073709551615) (h1 : 0 ≤ un1 ∧ un1 ≤ 4294967295) (h0 : 0 ≤ un0 ∧ un0 ≤ 4294967295) (hu : 0 ≤ un) (hlt : un < y) {k : Nat} (hk : 40 ≤ k) :
    ∃ r, bits_Div64.l0 k y s (y / 4294967296) (y % 4294967296) un un1 un0 (IntKind.u64.wrap (Int.tdiv un (y / 4294967296))) (IntKind.u64.wrap (un - IntKind.u64.wrap (IntKind.u64.wrap (Int.tdiv un (y / 4294967296)) * (y / 4294967296)))) = some ((un * 18446744073709551616 + un1 * 4294967296 + un0) / y, r) := by
  obtain ⟨yn1, hyn1⟩ : ∃ v, y / 4294967296 = v := ⟨_, rfl⟩
  obtain ⟨yn0, hyn0⟩ : ∃ v, y % 4294967296 = v := ⟨_, rfl⟩
  have ey : y = yn1 * 4294967296 + yn0 := by omega
  rw [hyn1, hyn0]
  have b1 : 2147483648 ≤ yn1 := by omega
  have b2 : yn1 ≤ 4294967295 := by omega
  have b3 : 0 ≤ yn0 ∧ yn0 ≤ 4294967295 := by omega
  rw [ey] at hlt ⊢
  have hq := q1_le un yn1 yn0 b1 b2 b3 hu hlt
  obtain ⟨s1, s2, s3, s4, s5⟩ := start_ok un yn1 b1 b2 hu (by omega) hq
  rw [s1, s2]
  obtain ⟨k', hk', e⟩ := loop0 s yn1 yn0 un un1 un0 b1 b2 b3 h1 hu hlt 2 k (un / yn1) (un % yn1) (by omega) hq.1 hq.2 s3 s4 (by omega) (by omega) (q_ge _ _ _ _ _ _ b1 b3.1 h1.2 s3 s5 hq.1)
  rw [e]
  obtain ⟨k', rfl⟩ : ∃ m, k' = m + 1 := ⟨k' - 1, by omega⟩
  have hp : 0 < yn1 * 4294967296 + yn0 := by omega
  obtain ⟨Q1, hQ1⟩ : ∃ v, (un * 4294967296 + un1) / (yn1 * 4294967296 + yn0) = v := ⟨_, rfl⟩
  obtain ⟨V, hV⟩ : ∃ v, (un * 4294967296 + un1) % (yn1 * 4294967296 + yn0) = v := ⟨_, rfl⟩
  have eN := Int.mul_ediv_add_emod (un * 4294967296 + un1) (yn1 * 4294967296 + yn0)
  have v0 := Int.emod_nonneg (un * 4294967296 + un1) (show yn1 * 4294967296 + yn0 ≠ 0 by omega)
  have v1 := Int.emod_lt_of_pos (un * 4294967296 + un1) hp
  rw [hQ1, hV] at eN
  rw [hV] at v0 v1
  rw [Int.mul_comm] at eN
  have hQ0 : 0 ≤ Q1 := by rw [← hQ1]; exact Int.ediv_nonneg (by omega) (by omega)
  have hQm : Q1 ≤ 4294967295 := by
    have : (un * 4294967296 + un1) / (yn1 * 4294967296 + yn0) < 4294967296 := Int.ediv_lt_of_lt_mul hp (by omega)
    omega
  rw [hQ1]
  simp only [bits_Div64.j2]
  rw [if_neg (by omega)]
  have hun : IntKind.u64.wrap (IntKind.u64.wrap (IntKind.u64.wrap (un * 4294967296) + un1) - IntKind.u64.wrap (Q1 * (yn1 * 4294967296 + yn0))) = V := by
    have : 0 ≤ Q1 * (yn1 * 4294967296 + yn0) := Int.mul_nonneg hQ0 (by omega)
    generalize Q1 * (yn1 * 4294967296 + yn0) = p at *
    rw [wu, wu, wu, wu]; omega
  rw [hun]
  have hq' := q1_le V yn1 yn0 b1 b2 b3 v0 v1
  obtain ⟨z1, z2, z3, z4, z5⟩ := start_ok V yn1 b1 b2 v0 (by omega) hq'
  rw [z1, z2]
  obtain ⟨r, hr⟩ := loop1 s yn1 yn0 V un0 Q1 hs b1 b2 b3 h0 v0 v1 2 k' (V / yn1) (V % yn1) (by omega) hq'.1 hq'.2 z3 z4 (by omega) (by omega) (q_ge _ _ _ _ _ _ b1 b3.1 h0.2 z3 z5 hq'.1)
  refine ⟨r, ?_⟩
  rw [hr]
  have hQ2 : 0 ≤ (V * 4294967296 + un0) / (yn1 * 4294967296 + yn0) := Int.ediv_nonneg (by omega) (by omega)
  have hQ3 : (V * 4294967296 + un0) / (yn1 * 4294967296 + yn0) < 4294967296 := Int.ediv_lt_of_lt_mul hp (by omega)
  have hfin : (un * 18446744073709551616 + un1 * 4294967296 + un0) / (yn1 * 4294967296 + yn0) = Q1 * 4294967296 + (V * 4294967296 + un0) / (yn1 * 4294967296 + yn0) := by
    have : un * 18446744073709551616 + un1 * 4294967296 + un0 = (V * 4294967296 + un0) + (yn1 * 4294967296 + yn0) * (Q1 * 4294967296) := by
      have : (yn1 * 4294967296 + yn0) * (Q1 * 4294967296) = Q1 * (yn1 * 4294967296 + yn0) * 4294967296 := by grind
      omega
    rw [this, Int.add_mul_ediv_left _ _ (by omega)]; omega
  rw [hfin, wu, wu]
  congr 2
  omega
def divv (a b : Int) : Int := if b ≤ a / 4294967296 then 18446744073709551615 else a * 4294967296 / b
theorem bl_spec : ∀ (f x : Nat), x < 2 ^ f → x ≠ 0 → 1 ≤ Lib.bitLenAux f x ∧ 2 ^ (Lib.bitLenAux f x - 1) ≤ x ∧ x < 2 ^ Lib.bitLenAux f x
  | 0, x, h, h0 => by omega
  | f + 1, x, h, h0 => by
    simp only [Lib.bitLenAux]
    rw [if_neg h0]
    by_cases hz : x / 2 = 0
    · have : x = 1 := by omega
      subst this
      cases f with
      | zero => simp [Lib.bitLenAux]
      | succ f => simp [Lib.bitLenAux]
    · obtain ⟨h1, h2, h3⟩ := bl_spec f (x / 2) (by rw [Nat.pow_succ] at h; omega) hz
      generalize Lib.bitLenAux f (x / 2) = m at *
      obtain ⟨m, rfl⟩ : ∃ j, m = j + 1 := ⟨m - 1, by omega⟩
      refine ⟨by omega, ?_, ?_⟩
      · rw [show 1 + (m + 1) - 1 = m + 1 from by omega, Nat.pow_succ]
        rw [Nat.add_sub_cancel] at h2; omega
      · rw [show 1 + (m + 1) = (m + 1) + 1 from by omega, Nat.pow_succ]; omega
theorem div64_f (hi lo y : Int) (h0 : 0 ≤ hi) (h1 : hi < y) (hl : 0 ≤ lo ∧ lo ≤ 18446744073709551615) (hy : y ≤ 18446744073709551615) {k : Nat} (hk : 40 ≤ k) :
    ∃ r, bits_Div64.f k hi lo y = some ((hi * 18446744073709551616 + lo) / y, r) := by
  unfold bits_Div64.f
  rw [if_neg (by omega), if_neg (by omega)]
  by_cases hz : hi = 0
  · rw [if_pos hz, hz]
    refine ⟨Int.tmod lo y, ?_⟩
    rw [Int.tdiv_eq_ediv_of_nonneg hl.1, wu]
    have a1 : 0 ≤ lo / y := Int.ediv_nonneg hl.1 (by omega)
    have a2 : lo / y ≤ lo := Int.ediv_le_self _ hl.1
    rw [show lo / y % 18446744073709551616 = lo / y from by omega]; simp
  · rw [if_neg hz]
    obtain ⟨b1, b2, b3⟩ := bl_spec 64 y.toNat (by omega) (by omega)
    have b4 : Lib.bitLen y.toNat ≤ 64 := Lib.bitLen_le y.toNat 64 (by omega) (by omega)
    change 1 ≤ Lib.bitLen y.toNat at b1
    change 2 ^ (Lib.bitLen y.toNat - 1) ≤ y.toNat at b2
    change y.toNat < 2 ^ Lib.bitLen y.toNat at b3
    have hlz : bits_LeadingZeros64.f y = some (64 - (Lib.bitLen y.toNat : Int)) := by
      unfold bits_LeadingZeros64.f
      rw [if_pos (by omega), if_pos hy]
    rw [hlz]
    generalize Lib.bitLen y.toNat = L at *
    clear hlz
    simp only [Option.bind_some]
    obtain ⟨s, hs⟩ : ∃ s : Nat, s = 64 - L := ⟨_, rfl⟩
    have hw : IntKind.u64.wrap (64 - (L : Int)) = (s : Int) := by rw [wu]; omega
    have hw2 : IntKind.u64.wrap (64 - (s : Int)) = (L : Int) := by rw [wu]; omega
    rw [hw, hw2, if_pos (by omega), if_pos (by omega)]
    rw [shl_u y s (by omega) (by omega), shl_u hi s (by omega) (by omega), shl_u lo s (by omega) (by omega), shr_u lo L (by omega) (by omega)]
    rw [Int.toNat_natCast, Int.toNat_natCast]
    have hP : (0 : Int) < 2 ^ s := Int.pow_pos (by omega)
    have hLs : (2 : Int) ^ L * 2 ^ s = 18446744073709551616 := by
      rw [← Int.pow_add, show L + s = 64 from by omega]; rfl
    have hLs1 : (2 : Int) ^ (L - 1) * 2 ^ s = 9223372036854775808 := by
      rw [← Int.pow_add, show L - 1 + s = 63 from by omega]; rfl
    have hPs : (2 : Int) ^ s < 18446744073709551616 := by
      have h1 : (0 : Int) < 2 ^ (L - 1) := Int.pow_pos (by omega)
      have := Int.mul_le_mul_of_nonneg_right (show (1 : Int) ≤ 2 ^ (L - 1) by omega) (show (0 : Int) ≤ 2 ^ s by omega)
      omega
    have y1 : y < 2 ^ L := by
      have : (y.toNat : Int) < ((2 ^ L : Nat) : Int) := by exact_mod_cast b3
      have e : ((2 ^ L : Nat) : Int) = 2 ^ L := by simp
      omega
    have y0 : 2 ^ (L - 1) ≤ y := by
      have : ((2 ^ (L - 1) : Nat) : Int) ≤ (y.toNat : Int) := by exact_mod_cast b2
      have e : ((2 ^ (L - 1) : Nat) : Int) = 2 ^ (L - 1) := by simp
      omega
    have z1 : y * 2 ^ s < 18446744073709551616 := by rw [← hLs]; exact Int.mul_lt_mul_of_pos_right y1 hP
    have z0 : 9223372036854775808 ≤ y * 2 ^ s := by rw [← hLs1]; exact Int.mul_le_mul_of_nonneg_right y0 (by omega)
    have x1 : (hi + 1) * 2 ^ s ≤ y * 2 ^ s := Int.mul_le_mul_of_nonneg_right (by omega) (by omega)
    have x2 : (hi + 1) * 2 ^ s = hi * 2 ^ s + 2 ^ s := by grind
    have x3 : 0 ≤ hi * 2 ^ s := Int.mul_nonneg h0 (by omega)
    have hLp : (0 : Int) < 2 ^ L := Int.pow_pos (by omega)
    have l1 : 0 ≤ lo / 2 ^ L := Int.ediv_nonneg hl.1 (by omega)
    have l2 : lo / 2 ^ L < 2 ^ s := Int.ediv_lt_of_lt_mul hLp (by rw [Int.mul_comm, hLs]; omega)
    have hm : hi * 2 ^ s % 2 ^ s = 0 := Int.mul_emod_left _ _
    have ll : lo * 2 ^ s / 18446744073709551616 = lo / 2 ^ L := by
      rw [← hLs]; exact Int.mul_ediv_mul_of_pos_left _ _ hP
    have ly : y * 2 ^ s % 18446744073709551616 = y * 2 ^ s := by omega
    have lh : hi * 2 ^ s % 18446744073709551616 = hi * 2 ^ s := by omega
    rw [ly, lh, or_join s (hi * 2 ^ s) (lo / 2 ^ L) x3 hm (by omega) l1 l2 (by omega), and32 (y * 2 ^ s) (by omega) z1, and32 _ (by omega) (by omega)]
    rw [if_neg (by omega)]
    have hun : hi * 2 ^ s + lo / 2 ^ L < y * 2 ^ s := by omega
    obtain ⟨r, hr⟩ := div_two s (y * 2 ^ s) (hi * 2 ^ s + lo / 2 ^ L) (lo * 2 ^ s % 18446744073709551616 / 4294967296) (lo * 2 ^ s % 18446744073709551616 % 4294967296) (by omega) z0 (by omega) (by omega) (by omega) (by omega) hun hk
    refine ⟨r, ?_⟩
    rw [hr]
    congr 2
    have hx : (hi * 2 ^ s + lo / 2 ^ L) * 18446744073709551616 + lo * 2 ^ s % 18446744073709551616 / 4294967296 * 4294967296 + lo * 2 ^ s % 18446744073709551616 % 4294967296 = (hi * 18446744073709551616 + lo) * 2 ^ s := by
      have e1 : (hi * 18446744073709551616 + lo) * 2 ^ s = hi * 2 ^ s * 18446744073709551616 + lo * 2 ^ s := by grind
      omega
    rw [hx]
    exact Int.mul_ediv_mul_of_pos_left _ _ hP
theorem quot_f (a b : Int) (ha : 0 ≤ a ∧ a ≤ 18446744073709551615) (hb : 0 ≤ b ∧ b ≤ 18446744073709551615) {k : Nat} (hk : 40 ≤ k) : fix_quotient.f k a b = some (divv a b) := by
  unfold fix_quotient.f divv
  split
  · rfl
  · rw [wu]
    obtain ⟨r, hr⟩ := div64_f (a / 4294967296) (a * 4294967296 % 18446744073709551616) b (by omega) (by omega) (by omega) hb.2 hk
    rw [hr]
    simp only [Option.bind_some]
    congr 2; omega
theorem divv_range (a b : Int) (ha : 0 ≤ a ∧ a ≤ 18446744073709551615) (hb : 0 ≤ b) : 0 ≤ divv a b ∧ divv a b ≤ 18446744073709551615 := by
  unfold divv
  split
  · omega
  · refine ⟨Int.ediv_nonneg (by omega) hb, ?_⟩
    have : a * 4294967296 / b < 18446744073709551616 := Int.ediv_lt_of_lt_mul (by omega) (by omega)
    omega
theorem awake04_k {k : Nat} (hk : 1000 ≤ k) : terracelaw04_awake.f k = some true :=
  at_rounds (g := fun k => terracelaw04_awake.f k) (fun k => terracelaw04_awake.mono k) hk (by decide +kernel)
theorem mratio_f (a b : Int) (ha : 0 ≤ a ∧ a ≤ 18446744073709551615) (hb : 0 ≤ b ∧ b ≤ 18446744073709551615) {k : Nat} (hk : 40 ≤ k) : fix_Ratio.f k a b = some (divv a b) := by
  unfold fix_Ratio.f
  exact bs (quot_f a b ha hb hk) rfl
/-- what an amount is to the window up to t -/
def sm (w t f0 f1 : Int) : Int := if f0 ≤ t ∧ t - w < f0 then f1 else 0
def sum51 (w t : Int) : List S51 → Int
  | [] => 0
  | y :: r => sm w t y.f0 y.f1 + sum51 w t r
def sum39 (w t : Int) : List S39 → Int
  | [] => 0
  | y :: r => sm w t y.f0 y.f1 + sum39 w t r
def ok51 (y : S51) : Prop := 0 ≤ y.f0 ∧ y.f0 ≤ 1099511627776 ∧ 0 ≤ y.f1 ∧ y.f1 ≤ 1048576
def ok39 (y : S39) : Prop := 0 ≤ y.f0 ∧ y.f0 ≤ 1099511627776 ∧ 0 ≤ y.f1 ∧ y.f1 ≤ 1048576
theorem sm_le {w t f0 f1 : Int} (h : 0 ≤ f1 ∧ f1 ≤ 1048576) : 0 ≤ sm w t f0 f1 ∧ sm w t f0 f1 ≤ 1048576 := by
  unfold sm; split <;> omega
theorem at51 (L : List S51) (m : Nat) (h : m < L.length) : L.drop m = rd_T51 L (m : Int) :: L.drop (m + 1) := by
  rw [List.drop_eq_getElem_cons h]
  simp [rd_T51, List.getD_eq_getElem?_getD, List.getElem?_eq_getElem h]
theorem in51 (L : List S51) (m : Nat) (h : m < L.length) : rd_T51 L (m : Int) ∈ L := by
  simp only [rd_T51, Int.toNat_natCast, List.getD_eq_getElem?_getD, List.getElem?_eq_getElem h, Option.getD_some]
  exact List.getElem_mem _
theorem at39 (L : List S39) (m : Nat) (h : m < L.length) : L.drop m = rd_T39 L (m : Int) :: L.drop (m + 1) := by
  rw [List.drop_eq_getElem_cons h]
  simp [rd_T39, List.getD_eq_getElem?_getD, List.getElem?_eq_getElem h]
theorem in39 (L : List S39) (m : Nat) (h : m < L.length) : rd_T39 L (m : Int) ∈ L := by
  simp only [rd_T39, Int.toNat_natCast, List.getD_eq_getElem?_getD, List.getElem?_eq_getElem h, Option.getD_some]
  exact List.getElem_mem _
theorem sum_l (w t s1 : Int) (hw : 1 ≤ w ∧ w ≤ 64) (ht : 0 ≤ t ∧ t ≤ 1099511628900) (L : List S51) (hL : L.length ≤ 1000) (hok : ∀ y ∈ L, ok51 y) (d : Nat) :
    ∀ (k m : Nat) (acc : Int), m + d = L.length → d < k → 0 ≤ acc → acc ≤ m * 1048576 → meter_Meter_Sum.l0 k t acc L (L.length : Int) (m : Int) w s1 L = some (acc + sum51 w t (L.drop m)) := by
  induction d with
  | zero =>
    intro k m acc h hk h0 h1
    obtain ⟨k, rfl, hk⟩ := fuel hk
    simp only [meter_Meter_Sum.l0]
    rw [if_neg (by omega), List.drop_of_length_le (by omega), sum51, Int.add_zero]
  | succ d ih =>
    intro k m acc h hk h0 h1
    obtain ⟨k, rfl, hk⟩ := fuel hk
    have hlt : m < L.length := by omega
    have ho := hok _ (in51 L m hlt)
    rw [at51 L m hlt]
    simp only [meter_Meter_Sum.l0]
    generalize rd_T51 L (m : Int) = y at ho
    have hs := sm_le (w := w) (t := t) (f0 := y.f0) ho.2.2
    have ho' := ho
    unfold ok51 at ho
    rw [if_pos (by omega), if_pos (by omega), if_pos (by omega), sum51, w64 (n := (m : Int) + 1) (by omega) (by omega), w64 (n := -w) (by omega) (by omega), w64 (n := y.f0 - t) (by omega) (by omega), w64 (n := acc + y.f1) (by omega) (by omega)]
    have e := fun acc h0 h1 => ih k (m + 1) acc (by omega) (by omega) h0 h1
    simp only [Int.natCast_add, Int.natCast_one] at e
    by_cases c1 : y.f0 ≤ t
    · rw [if_pos c1]
      by_cases c2 : y.f0 - t > -w
      · rw [if_pos c2, e _ (by omega) (by omega), sm, if_pos (by omega)]
        congr 1; omega
      · rw [if_neg c2, e _ (by omega) (by omega), sm, if_neg (by omega)]
        congr 1; omega
    · rw [if_neg c1, e _ (by omega) (by omega), sm, if_neg (by omega)]
      congr 1; omega
theorem sum_f (w t s1 : Int) (hw : 1 ≤ w ∧ w ≤ 64) (ht : 0 ≤ t ∧ t ≤ 1099511628900) (L : List S51) (hL : L.length ≤ 1000) (hok : ∀ y ∈ L, ok51 y) {k : Nat} (hk : L.length < k) : meter_Meter_Sum.f k w s1 L t = some (sum51 w t L) := by
  unfold meter_Meter_Sum.f
  have := sum_l w t s1 hw ht L hL hok L.length k 0 0 (by omega) hk (by omega) (by omega)
  simpa using this
theorem sum39_le (w t : Int) : ∀ (L : List S39), (∀ y ∈ L, ok39 y) → 0 ≤ sum39 w t L ∧ sum39 w t L ≤ L.length * 1048576
  | [], _ => by simp [sum39]
  | y :: r, h => by
    have ih := sum39_le w t r (fun z hz => h z (List.mem_cons_of_mem _ hz))
    have hs := sm_le (w := w) (t := t) (f0 := y.f0) (h y (List.mem_cons_self ..)).2.2
    simp only [sum39, List.length_cons]
    omega
def tr (y : S39) : S51 := ⟨y.f0, y.f1⟩
/-- what is dropped counts nothing any more -/
theorem sum_keeps (w t last : Int) (hw : w ≤ 64) (ht : last ≤ t) : ∀ (L : List S39), sum51 w t ((L.map tr).filter fun y => decide (last - 128 < y.f0)) = sum39 w t L
  | [] => rfl
  | y :: r => by
    have ih := sum_keeps w t last hw ht r
    rw [List.map_cons, List.filter_cons]
    by_cases c : last - 128 < (tr y).f0
    · rw [if_pos (by simpa using c), sum51, sum39, ih]; rfl
    · rw [if_neg (by simpa using c), sum39, ih]
      have : sm w t y.f0 y.f1 = 0 := by
        have c' : ¬ last - 128 < y.f0 := c
        unfold sm; rw [if_neg (by omega)]
      omega
theorem sum_late (w t last : Int) (ht : last ≤ t - w) : ∀ (L : List S51), (∀ y ∈ L, y.f0 ≤ last) → sum51 w t L = 0
  | [], _ => rfl
  | y :: r, h => by
    have h1 := h y (List.mem_cons_self ..)
    rw [sum51, sum_late w t last ht r (fun z hz => h z (List.mem_cons_of_mem _ hz)), sm, if_neg (by omega)]; rfl
def lst : List S39 → Int → Int
  | [], m => m
  | y :: r, m => lst r (if y.f0 > m then y.f0 else m)
theorem lst_snoc (y : S39) : ∀ (l : List S39) (m : Int), lst (l ++ [y]) m = if y.f0 > lst l m then y.f0 else lst l m
  | [], m => rfl
  | z :: r, m => lst_snoc y r _
structure Inv (last : Int) (l : List S51) (xs : List S39) : Prop where
  h0 : 0 ≤ last ∧ last ≤ 1099511627776
  hl : lst xs 0 = last
  hb : ∀ y ∈ xs, ok39 y ∧ y.f0 ≤ last
  he : l = (xs.map tr).filter fun y => decide (last - 128 < y.f0)
theorem Inv.start : Inv 0 [] [] := ⟨by omega, rfl, (fun _ h => by cases h), rfl⟩
theorem Inv.ok {last : Int} {l : List S51} {xs : List S39} (h : Inv last l xs) : (∀ y ∈ l, ok51 y ∧ y.f0 ≤ last) ∧ l.length ≤ xs.length := by
  rw [h.he]
  refine ⟨fun y hy => ?_, ?_⟩
  · have h1 := (List.mem_filter.1 hy).1
    obtain ⟨z, hz, rfl⟩ := List.mem_map.1 h1
    exact h.hb z hz
  · have := List.length_filter_le (fun y => decide (last - 128 < y.f0)) (xs.map tr)
    rwa [List.length_map] at this
theorem Inv.sum {last : Int} {l : List S51} {xs : List S39} (h : Inv last l xs) (w t : Int) (hw : w ≤ 64) (ht : last ≤ t) : sum51 w t l = sum39 w t xs := by
  rw [h.he]; exact sum_keeps w t last hw ht xs
def bad (a b : Int) : Prop := a < 0 ∨ a > 1099511627776 ∨ b < 0 ∨ b > 1048576
instance (a b : Int) : Decidable (bad a b) := by unfold bad; infer_instance
theorem Inv.add {last : Int} {l : List S51} {xs : List S39} (h : Inv last l xs) (a b : Int) (hb : ¬ bad a b) (hl : ¬ a < last) :
    Inv a ((l ++ [(⟨a, b⟩ : S51)]).filter fun y => !meter_amount_21.p a y) (xs ++ [⟨a, b⟩]) := by
  unfold bad at hb
  refine ⟨by omega, ?_, ?_, ?_⟩
  · rw [lst_snoc, h.hl]; show (if a > last then a else last) = a; split <;> omega
  · intro y hy
    rcases List.mem_append.1 hy with hy | hy
    · exact ⟨(h.hb y hy).1, by have := (h.hb y hy).2; omega⟩
    · obtain rfl := List.mem_singleton.1 hy
      unfold ok39
      simp only
      omega
  · have hp : (fun y : S51 => !meter_amount_21.p a y) = fun y => decide (a - 128 < y.f0) := by
      funext y
      unfold meter_amount_21.p
      rw [w64 (n := a - 128) (by omega) (by omega)]
      by_cases c : y.f0 ≤ a - 128
      · rw [decide_eq_true c, decide_eq_false (by omega)]; rfl
      · rw [decide_eq_false c, decide_eq_true (by omega)]; rfl
    rw [hp, h.he, List.map_append, List.filter_append, List.filter_append, List.filter_filter]
    congr 1
    apply List.filter_congr
    intro y _
    by_cases c : a - 128 < y.f0
    · rw [decide_eq_true c, decide_eq_true (show last - 128 < y.f0 by omega)]; rfl
    · rw [decide_eq_false c]; rfl
theorem madd_f (w last a b : Int) (l : List S51) (hl : l.length ≤ 1000) {k : Nat} (hk : 1 < k) :
    meter_Meter_Add.f k w last l a b = some (if bad a b then (11, w, last, l) else if a < last then (23, w, last, l) else (0, w, a, (l ++ [(⟨a, b⟩ : S51)]).filter fun y => !meter_amount_21.p a y)) := by
  obtain ⟨k, rfl, hk⟩ := fuel hk
  have key : ∀ x, meter_Meter_Add.j0 (k + 1) b x w last l a = some (if x = true then (11, w, last, l) else if a < last then (23, w, last, l) else (0, w, a, (l ++ [(⟨a, b⟩ : S51)]).filter fun y => !meter_amount_21.p a y)) := by
    intro x
    simp only [meter_Meter_Add.j0]
    by_cases c : x = true
    · rw [if_pos c, if_pos c]
    rw [if_neg c, if_neg c]
    by_cases c2 : a < last
    · rw [if_pos c2, if_pos c2]
    rw [if_neg c2, if_neg c2, if_pos (by omega)]
    rfl
  unfold meter_Meter_Add.f
  by_cases c1 : a < 0
  · rw [if_pos c1, key, if_pos rfl, if_pos (show bad a b by unfold bad; omega)]
  rw [if_neg c1]
  by_cases c2 : a > 1099511627776
  · rw [if_pos c2, key, if_pos rfl, if_pos (show bad a b by unfold bad; omega)]
  rw [if_neg c2]
  by_cases c3 : b < 0
  · rw [if_pos c3, key, if_pos rfl, if_pos (show bad a b by unfold bad; omega)]
  rw [if_neg c3, key]
  by_cases c4 : b > 1048576
  · rw [if_pos (by simpa using c4), if_pos (show bad a b by unfold bad; omega)]
  · rw [if_neg (by simpa using c4), if_neg (show ¬ bad a b by unfold bad; omega)]
theorem mnew_ok {w : Int} (h : 1 ≤ w ∧ w ≤ 64) : meter_New.f w = some (w, 0, [], 0) := by
  unfold meter_New.f
  rw [if_neg (by omega), if_neg (by omega)]
theorem new_l (w : Int) (hw : 1 ≤ w ∧ w ≤ 64) (L : List S39) (hL : L.length ≤ 40) (d : Nat) :
    ∀ (m : Nat) (u last : Int) (l : List S51), l.length ≤ m → m + d = L.length → ∀ k, d + 1001 ≤ k → terracelaw04_MeterNew.l0 k L (L.length : Int) (m : Int) w 0 [] u last l = some true := by
  induction d with
  | zero =>
    intro m u last l hl h k hk
    obtain ⟨k, rfl, hk⟩ := fuel (show 1000 < k by omega)
    simp only [terracelaw04_MeterNew.l0]
    rw [if_neg (by omega)]
    refine bs (rfl : meter_Meter_Last.f _ _ _ = some _) ?_
    rw [if_pos rfl]
    refine bs (sum_f w 0 0 hw (by omega) [] (by simp) (fun _ h => by cases h) (by simp; omega)) ?_
    rw [if_pos (by rfl)]
    refine bs (sum_f w 5 0 hw (by omega) [] (by simp) (fun _ h => by cases h) (by simp; omega)) ?_
    rw [if_pos (by rfl)]
    exact bs (awake04_k (by omega)) rfl
  | succ d ih =>
    intro m u last l hl h k hk
    obtain ⟨k, rfl, hk⟩ := fuel (show d + 1001 < k by omega)
    simp only [terracelaw04_MeterNew.l0]
    rw [if_pos (by omega), if_pos (by omega), if_pos (by omega)]
    refine bs (madd_f u last _ _ l (by omega) (by omega)) ?_
    rw [w64 (n := (m : Int) + 1) (by omega) (by omega)]
    have := fun u last l hl => ih (m + 1) u last l hl (by omega) k (by omega)
    simp only [Int.natCast_add, Int.natCast_one] at this
    split
    · exact this _ _ _ (by simp only; omega)
    split
    · exact this _ _ _ (by simp only; omega)
    · refine this _ _ _ ?_
      refine Nat.le_trans (List.length_filter_le _ _) ?_
      simp; omega
theorem MeterNew : terracelaw04_MeterNew.Pure := by
  intro a0 L h0 hL hok
  have r0 := wf_i64 h0
  refine ⟨3000, ?_⟩
  unfold terracelaw04_MeterNew.f
  by_cases c1 : (L.length : Int) > 40
  · rw [if_pos c1]; exact bs (awake04_k (by omega)) rfl
  rw [if_neg c1]
  by_cases hw : 1 ≤ a0 ∧ a0 ≤ 64
  · rw [if_pos (by unfold meter_New.ok; rw [mnew_ok hw]; rfl)]
    refine bs (mnew_ok hw) ?_
    rw [if_neg (by omega), show decide (a0 > 64) = false by simp; omega]
    simp only [terracelaw04_MeterNew.j0]
    rw [if_neg (by simp), if_pos trivial]
    simp only [terracelaw04_MeterNew.j1]
    rw [if_neg (by simp)]
    refine bs (rfl : meter_Meter_Copy.f a0 0 [] = some (a0, 0, [])) ?_
    have := new_l a0 hw L (by omega) L.length 0 a0 0 [] (by simp) (by omega) 2998 (by omega)
    simpa using this
  · have hn : meter_New.f a0 = none := by
      unfold meter_New.f
      by_cases c : a0 < 1
      · rw [if_pos c]
      · rw [if_neg c, if_pos (by omega)]
    have hno : meter_New_no.f a0 = some 11 := by
      unfold meter_New_no.f
      by_cases c : a0 < 1
      · rw [if_pos c]
      · rw [if_neg c, if_pos (by omega)]
    rw [if_neg (by unfold meter_New.ok; rw [hn]; simp)]
    refine bs hno ?_
    have key : ∀ x, x = true → terracelaw04_MeterNew.j3 3000 11 x = some true := by
      rintro x rfl
      simp only [terracelaw04_MeterNew.j3]
      rw [if_pos trivial, if_pos trivial]
      exact bs (awake04_k (by omega)) rfl
    by_cases c : a0 < 1
    · rw [if_pos c]; exact key _ rfl
    · rw [if_neg c]; exact key _ (by simp; omega)

end Go.Proofs.Ytplddgnlococdaa.Pure
