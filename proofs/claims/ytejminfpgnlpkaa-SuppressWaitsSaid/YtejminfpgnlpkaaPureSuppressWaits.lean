/- Proved: any wait is what the document says, and no longer than the most (for every input that the statement's guards let in; the Go function returns true and leaves its arguments as they were). -/
import Derived.Test.YtejminfpgnlpkaaPSuppressWaitsx5
set_option linter.unusedVariables false
set_option linter.unusedSimpArgs false
namespace Go.Proofs.Ytejminfpgnlpkaa.Pure
open Go.RowKit Go.Proofs.Ytejminfpgnlpkaa.PSuppressWaits Go.Proofs.YtejminfpgnlpkaaW.PrintWords Go.Proofs.YtejminfpgnlpkaaW.PrintLast Go.Proofs.YtejminfpgnlpkaaW.PrintMore

theorem wf_u8 {a : Int} (h : (Lit.int .u8 a).wf = true) : 0 ≤ a ∧ a ≤ 255 := by
  simpa [Lit.wf, IntKind.min, IntKind.max, IntKind.signed, IntKind.bits] using h
theorem wf_u16 {a : Int} (h : (Lit.int .u16 a).wf = true) : 0 ≤ a ∧ a ≤ 65535 := by
  simpa [Lit.wf, IntKind.min, IntKind.max, IntKind.signed, IntKind.bits] using h
theorem wf_u32 {a : Int} (h : (Lit.int .u32 a).wf = true) : 0 ≤ a ∧ a ≤ 4294967295 := by
  simpa [Lit.wf, IntKind.min, IntKind.max, IntKind.signed, IntKind.bits] using h
theorem wf_u64 {a : Int} (h : (Lit.int .u64 a).wf = true) : 0 ≤ a ∧ a ≤ 18446744073709551615 := by
  simpa [Lit.wf, IntKind.min, IntKind.max, IntKind.signed, IntKind.bits] using h
theorem wf_i64 {a : Int} (h : (Lit.int .i64 a).wf = true) : -9223372036854775808 ≤ a ∧ a ≤ 9223372036854775807 := by
  simpa [Lit.wf, IntKind.min, IntKind.max, IntKind.signed, IntKind.bits] using h
theorem w64 {n : Int} (h : -9223372036854775808 ≤ n) (h' : n ≤ 9223372036854775807) : wrap64 n = n := by
  unfold wrap64; omega
theorem fuel {k n : Nat} (h : n < k) : ∃ m, k = m + 1 ∧ n ≤ m := ⟨k - 1, by omega, by omega⟩
theorem u64 {n : Int} (h : 0 ≤ n) (h' : n ≤ 18446744073709551615) : IntKind.u64.wrap n = n := by
  simp only [IntKind.wrap, IntKind.bits, IntKind.signed]; simp; omega
theorem wu (n : Int) : IntKind.u64.wrap n = n % 18446744073709551616 := by
  simp [IntKind.wrap, IntKind.bits, IntKind.signed]
theorem wraps_u64 (n : Int) (h0 : 0 ≤ n) (h1 : n < 2 ^ 64) : IntKind.u64.wrap n = n := by rw [wu]; omega
theorem and32 (x : Int) (h0 : 0 ≤ x) (h1 : x < 18446744073709551616) : Go.bits .and .u64 x 4294967295 = x % 4294967296 :=
  bits_mask .u64 64 (by decide) wraps_u64 32 (by decide) x h0 h1
theorem or_join (i : Nat) (x y : Int) (h0 : 0 ≤ x) (h1 : x % 2 ^ i = 0) (h2 : x < 18446744073709551616) (h3 : 0 ≤ y) (h4 : y < 2 ^ i) (h5 : y < 18446744073709551616) : Go.bits .or .u64 x y = x + y :=
  bits_join .u64 64 (by decide) wraps_u64 i x y h0 h1 h2 h3 h4 h5
theorem shl_u (x y : Int) (h0 : 0 ≤ y) (h1 : y ≤ 64) : shl .u64 x y = (x * 2 ^ y.toNat) % 18446744073709551616 := by
  unfold shl; rw [wu, show min y.toNat (IntKind.bits .u64) = y.toNat from Nat.min_eq_left (by simp [IntKind.bits]; omega)]
theorem shr_u (x y : Int) (h0 : 0 ≤ y) (h1 : y ≤ 64) : shr .u64 x y = x / 2 ^ y.toNat := by
  unfold shr; rw [show min y.toNat (IntKind.bits .u64) = y.toNat from Nat.min_eq_left (by simp [IntKind.bits]; omega)]
/-- one call behind another (no unfolding: the kernel need not look into what is called) -/
theorem bs {α β : Type} {x : Option α} {f : α → Option β} {a : α} {r : Option β} (h : x = some a) (h2 : f a = r) : x.bind f = r := by
  subst h; exact h2
/-- One digit of a long division by a number of 64 bits whose highest bit is set. -/
theorem digit_ok (q rhat yn1 yn0 un un1 : Int) (hy1 : 2147483648 ≤ yn1) (hy1' : yn1 ≤ 4294967295) (h0 : 0 ≤ yn0 ∧ yn0 ≤ 4294967295) (h1 : 0 ≤ un1 ∧ un1 ≤ 4294967295) (hu : 0 ≤ un) (hlt : un < yn1 * 4294967296 + yn0)
    (hq : q * yn1 + rhat = un) (hr : 0 ≤ rhat) (hge : un * 4294967296 + un1 < (q + 1) * (yn1 * 4294967296 + yn0)) (hle : q * yn0 ≤ 4294967296 * rhat + un1) :
    (un * 4294967296 + un1) / (yn1 * 4294967296 + yn0) = q := by
  have e1 : q * (yn1 * 4294967296 + yn0) ≤ un * 4294967296 + un1 := by
    have : q * (yn1 * 4294967296 + yn0) = (q * yn1) * 4294967296 + q * yn0 := by grind
    omega
  have hp : 0 < yn1 * 4294967296 + yn0 := by omega
  apply Int.le_antisymm
  · have := Int.ediv_lt_of_lt_mul hp hge
    omega
  · exact Int.le_ediv_of_mul_le hp e1
theorem q1_le (un yn1 yn0 : Int) (hy1 : 2147483648 ≤ yn1) (hy1' : yn1 ≤ 4294967295) (h0 : 0 ≤ yn0 ∧ yn0 ≤ 4294967295) (hu : 0 ≤ un) (hlt : un < yn1 * 4294967296 + yn0) : 0 ≤ un / yn1 ∧ un / yn1 ≤ 4294967297 := by
  refine ⟨Int.ediv_nonneg hu (by omega), ?_⟩
  have : un / yn1 < 4294967298 := Int.ediv_lt_of_lt_mul (by omega) (by omega)
  omega
/-- the estimate is not too small -/
theorem q_ge (q yn1 yn0 un un1 rhat : Int) (hy1 : 2147483648 ≤ yn1) (h0 : 0 ≤ yn0) (h1 : un1 ≤ 4294967295) (hq : q * yn1 + rhat = un) (hr : rhat < yn1) (hq0 : 0 ≤ q) :
    un * 4294967296 + un1 < (q + 1) * (yn1 * 4294967296 + yn0) := by
  have e : (q + 1) * (yn1 * 4294967296 + yn0) = (q * yn1) * 4294967296 + yn1 * 4294967296 + (q + 1) * yn0 := by grind
  have : 0 ≤ (q + 1) * yn0 := Int.mul_nonneg (by omega) h0
  omega
/-- one step down -/
theorem q_down (q yn1 yn0 un un1 rhat : Int) (hy1 : 2147483648 ≤ yn1) (h0 : 0 ≤ yn0 ∧ yn0 ≤ 4294967295) (h1 : 0 ≤ un1 ∧ un1 ≤ 4294967295) (hu : 0 ≤ un) (hlt : un < yn1 * 4294967296 + yn0) (hq : q * yn1 + rhat = un) (hd : q ≥ 4294967296 ∨ q * yn0 > 4294967296 * rhat + un1) :
    un * 4294967296 + un1 < (q - 1 + 1) * (yn1 * 4294967296 + yn0) ∧ (q - 1) * yn1 + (rhat + yn1) = un := by
  constructor
  · rw [Int.sub_add_cancel]
    rcases hd with hd | hd
    · have := Int.mul_le_mul_of_nonneg_right hd (show 0 ≤ yn1 * 4294967296 + yn0 by omega)
      omega
    · have : q * (yn1 * 4294967296 + yn0) = (q * yn1) * 4294967296 + q * yn0 := by grind
      omega
  · have : (q - 1) * yn1 = q * yn1 - yn1 := by grind
    omega
theorem mul_range (q y : Int) (hq : 0 ≤ q) (hq' : q ≤ 4294967297) (hy : 0 ≤ y) (hy' : y ≤ 4294967295) : 0 ≤ q * y ∧ q * y ≤ 18446744073709551615 := by
  refine ⟨Int.mul_nonneg hq hy, ?_⟩
  have := Int.mul_le_mul hq' hy' hy (by omega : (0 : Int) ≤ 4294967297)
  omega
/-- the first digit's loop: what it goes on with -/
theorem loop0 (s yn1 yn0 un un1 un0 : Int) (hy1 : 2147483648 ≤ yn1) (hy1' : yn1 ≤ 4294967295) (h0 : 0 ≤ yn0 ∧ yn0 ≤ 4294967295) (h1 : 0 ≤ un1 ∧ un1 ≤ 4294967295) (hu : 0 ≤ un) (hlt : un < yn1 * 4294967296 + yn0) (d : Nat) :
    ∀ (k : Nat) (q rhat : Int), 2 * d + 4 ≤ k → 0 ≤ q → q ≤ 4294967297 → q * yn1 + rhat = un → 0 ≤ rhat → rhat < 4294967296 → 4294967296 ≤ rhat + d * 2147483648 → un * 4294967296 + un1 < (q + 1) * (yn1 * 4294967296 + yn0) →
    ∃ k', k ≤ k' + 2 * d + 4 ∧ bits_Div64.l0 k (yn1 * 4294967296 + yn0) s yn1 yn0 un un1 un0 q rhat = bits_Div64.j2 k' (yn1 * 4294967296 + yn0) s yn1 yn0 un un1 un0 ((un * 4294967296 + un1) / (yn1 * 4294967296 + yn0)) := by
  induction d with
  | zero => intro k q rhat _ _ _ _ _ h2 h3; omega
  | succ d ih =>
    intro k q rhat hk hq0 hq1 hq hr hr1 hrd hge
    obtain ⟨k, rfl⟩ : ∃ m, k = m + 2 := ⟨k - 2, by omega⟩
    have hm := mul_range q yn0 hq0 hq1 h0.1 h0.2
    have hw : IntKind.u64.wrap (IntKind.u64.wrap (4294967296 * rhat) + un1) = 4294967296 * rhat + un1 := by rw [wu, wu]; omega
    have hw2 : IntKind.u64.wrap (q * yn0) = q * yn0 := by rw [wu]; omega
    have key : ∀ b, b = decide (q ≥ 4294967296 ∨ q * yn0 > 4294967296 * rhat + un1) →
        ∃ k', k + 2 ≤ k' + 2 * (d + 1) + 4 ∧ bits_Div64.j1 (k + 1) (yn1 * 4294967296 + yn0) s yn1 yn0 un un1 un0 q rhat b = bits_Div64.j2 k' (yn1 * 4294967296 + yn0) s yn1 yn0 un un1 un0 ((un * 4294967296 + un1) / (yn1 * 4294967296 + yn0)) := by
      intro b hb
      simp only [bits_Div64.j1]
      by_cases hd : q ≥ 4294967296 ∨ q * yn0 > 4294967296 * rhat + un1
      · rw [hb, if_pos (by simpa using hd)]
        obtain ⟨hg2, hq2⟩ := q_down q yn1 yn0 un un1 rhat hy1 h0 h1 hu hlt hq hd
        have hqp : 1 ≤ q := by
          rcases hd with hd | hd
          · omega
          · by_cases hz : q = 0
            · subst hz; omega
            · omega
        have hw3 : IntKind.u64.wrap (rhat + yn1) = rhat + yn1 := by rw [wu]; omega
        have hw4 : IntKind.u64.wrap (q - 1) = q - 1 := by rw [wu]; omega
        rw [hw3, hw4]
        by_cases hb2 : rhat + yn1 ≥ 4294967296
        · rw [if_pos hb2]
          have hm2 := mul_range (q - 1) yn0 (by omega) (by omega) h0.1 h0.2
          have hm3 : (q - 1) * yn0 ≤ 4294967296 * 4294967295 := Int.mul_le_mul (by omega) h0.2 h0.1 (by omega)
          have := digit_ok (q - 1) (rhat + yn1) yn1 yn0 un un1 hy1 hy1' h0 h1 hu hlt hq2 (by omega) hg2 (by omega)
          rw [this]
          exact ⟨k, by omega, rfl⟩
        · rw [if_neg hb2]
          obtain ⟨k', e1, e2⟩ := ih k (q - 1) (rhat + yn1) (by omega) (by omega) (by omega) hq2 (by omega) (by omega) (by omega) hg2
          exact ⟨k', by omega, e2⟩
      · rw [hb, if_neg (by simpa using hd)]
        have := digit_ok q rhat yn1 yn0 un un1 hy1 hy1' h0 h1 hu hlt hq hr hge (by omega)
        rw [this]
        exact ⟨k, by omega, rfl⟩
    simp only [bits_Div64.l0]
    by_cases hc : q ≥ 4294967296
    · rw [if_pos hc]; exact key true (by simp [hc])
    · rw [if_neg hc, hw, hw2]; exact key _ (by simp [hc])
/-- the second digit's loop -/
theorem loop1 (s yn1 yn0 un un1 q1 : Int) (hs : 0 ≤ s) (hy1 : 2147483648 ≤ yn1) (hy1' : yn1 ≤ 4294967295) (h0 : 0 ≤ yn0 ∧ yn0 ≤ 4294967295) (h1 : 0 ≤ un1 ∧ un1 ≤ 4294967295) (hu : 0 ≤ un) (hlt : un < yn1 * 4294967296 + yn0) (d : Nat) :
    ∀ (k : Nat) (q rhat : Int), 2 * d + 4 ≤ k → 0 ≤ q → q ≤ 4294967297 → q * yn1 + rhat = un → 0 ≤ rhat → rhat < 4294967296 → 4294967296 ≤ rhat + d * 2147483648 → un * 4294967296 + un1 < (q + 1) * (yn1 * 4294967296 + yn0) →
    ∃ r, bits_Div64.l1 k (yn1 * 4294967296 + yn0) s yn1 yn0 un1 q1 rhat un q = some (IntKind.u64.wrap ((IntKind.u64.wrap (q1 * 4294967296)) + ((un * 4294967296 + un1) / (yn1 * 4294967296 + yn0))), r) := by
  induction d with
  | zero => intro k q rhat _ _ _ _ _ h2 h3; omega
  | succ d ih =>
    intro k q rhat hk hq0 hq1 hq hr hr1 hrd hge
    obtain ⟨k, rfl⟩ : ∃ m, k = m + 2 := ⟨k - 2, by omega⟩
    have hm := mul_range q yn0 hq0 hq1 h0.1 h0.2
    have hw : IntKind.u64.wrap (IntKind.u64.wrap (4294967296 * rhat) + un1) = 4294967296 * rhat + un1 := by rw [wu, wu]; omega
    have hw2 : IntKind.u64.wrap (q * yn0) = q * yn0 := by rw [wu]; omega
    have key : ∀ b, b = decide (q ≥ 4294967296 ∨ q * yn0 > 4294967296 * rhat + un1) →
        ∃ r, bits_Div64.j4 (k + 1) (yn1 * 4294967296 + yn0) s yn1 yn0 un1 q1 rhat un q b = some (IntKind.u64.wrap ((IntKind.u64.wrap (q1 * 4294967296)) + ((un * 4294967296 + un1) / (yn1 * 4294967296 + yn0))), r) := by
      intro b hb
      simp only [bits_Div64.j4]
      by_cases hd : q ≥ 4294967296 ∨ q * yn0 > 4294967296 * rhat + un1
      · rw [hb, if_pos (by simpa using hd)]
        obtain ⟨hg2, hq2⟩ := q_down q yn1 yn0 un un1 rhat hy1 h0 h1 hu hlt hq hd
        have hqp : 1 ≤ q := by
          rcases hd with hd | hd
          · omega
          · by_cases hz : q = 0
            · subst hz; omega
            · omega
        have hw3 : IntKind.u64.wrap (rhat + yn1) = rhat + yn1 := by rw [wu]; omega
        have hw4 : IntKind.u64.wrap (q - 1) = q - 1 := by rw [wu]; omega
        rw [hw3, hw4]
        by_cases hb2 : rhat + yn1 ≥ 4294967296
        · rw [if_pos hb2, if_pos hs]
          have hm2 := mul_range (q - 1) yn0 (by omega) (by omega) h0.1 h0.2
          have hm3 : (q - 1) * yn0 ≤ 4294967296 * 4294967295 := Int.mul_le_mul (by omega) h0.2 h0.1 (by omega)
          have := digit_ok (q - 1) (rhat + yn1) yn1 yn0 un un1 hy1 hy1' h0 h1 hu hlt hq2 (by omega) hg2 (by omega)
          rw [this]
          exact ⟨_, rfl⟩
        · rw [if_neg hb2]
          exact ih k (q - 1) (rhat + yn1) (by omega) (by omega) (by omega) hq2 (by omega) (by omega) (by omega) hg2
      · rw [hb, if_neg (by simpa using hd), if_pos hs]
        have := digit_ok q rhat yn1 yn0 un un1 hy1 hy1' h0 h1 hu hlt hq hr hge (by omega)
        rw [this]
        exact ⟨_, rfl⟩
    simp only [bits_Div64.l1]
    by_cases hc : q ≥ 4294967296
    · rw [if_pos hc]; exact key true (by simp [hc])
    · rw [if_neg hc, hw, hw2]; exact key _ (by simp [hc])
theorem start_ok (un yn1 : Int) (hy1 : 2147483648 ≤ yn1) (hy1' : yn1 ≤ 4294967295) (hu : 0 ≤ un) (hu' : un ≤ 18446744073709551615) (hq : 0 ≤ un / yn1 ∧ un / yn1 ≤ 4294967297) :
    IntKind.u64.wrap (Int.tdiv un yn1) = un / yn1 ∧ IntKind.u64.wrap (un - IntKind.u64.wrap (un / yn1 * yn1)) = un % yn1 ∧ un / yn1 * yn1 + un % yn1 = un ∧ 0 ≤ un % yn1 ∧ un % yn1 < yn1 := by
  have e := Int.mul_ediv_add_emod un yn1
  rw [Int.mul_comm] at e
  have h1 := Int.emod_nonneg un (show yn1 ≠ 0 by omega)
  have h2 := Int.emod_lt_of_pos un (show 0 < yn1 by omega)
  rw [Int.tdiv_eq_ediv_of_nonneg hu]
  refine ⟨by rw [wu]; omega, ?_, e, h1, h2⟩
  have h3 : 0 ≤ un / yn1 * yn1 := Int.mul_nonneg hq.1 (by omega)
  rw [wu, wu]; omega
/-- both digits -/
theorem div_two (s y un un1 un0 : Int) (hs : 0 ≤ s) (hy : 9223372036854775808 ≤ y) (hy' : y ≤ 18446744073709551615) (h1 : 0 ≤ un1 ∧ un1 ≤ 4294967295) (h0 : 0 ≤ un0 ∧ un0 ≤ 4294967295) (hu : 0 ≤ un) (hlt : un < y) {k : Nat} (hk : 40 ≤ k) :
    ∃ r, bits_Div64.l0 k y s (y / 4294967296) (y % 4294967296) un un1 un0 (IntKind.u64.wrap (Int.tdiv un (y / 4294967296))) (IntKind.u64.wrap (un - IntKind.u64.wrap (IntKind.u64.wrap (Int.tdiv un (y / 4294967296)) * (y / 4294967296)))) = some ((un * 18446744073709551616 + un1 * 4294967296 + un0) / y, r) := by
  obtain ⟨yn1, hyn1⟩ : ∃ v, y / 4294967296 = v := ⟨_, rfl⟩
  obtain ⟨yn0, hyn0⟩ : ∃ v, y % 4294967296 = v := ⟨_, rfl⟩
  have ey : y = yn1 * 4294967296 + yn0 := by omega
  rw [hyn1, hyn0]
  have b1 : 2147483648 ≤ yn1 := by omega
  have b2 : yn1 ≤ 4294967295 := by omega
  have b3 : 0 ≤ yn0 ∧ yn0 ≤ 4294967295 := by omega
  rw [ey] at hlt ⊢
  have hq := q1_le un yn1 yn0 b1 b2 b3 hu hlt
  obtain ⟨s1, s2, s3, s4, s5⟩ := start_ok un yn1 b1 b2 hu (by omega) hq
  rw [s1, s2]
  obtain ⟨k', hk', e⟩ := loop0 s yn1 yn0 un un1 un0 b1 b2 b3 h1 hu hlt 2 k (un / yn1) (un % yn1) (by omega) hq.1 hq.2 s3 s4 (by omega) (by omega) (q_ge _ _ _ _ _ _ b1 b3.1 h1.2 s3 s5 hq.1)
  rw [e]
  obtain ⟨k', rfl⟩ : ∃ m, k' = m + 1 := ⟨k' - 1, by omega⟩
  have hp : 0 < yn1 * 4294967296 + yn0 := by omega
  obtain ⟨Q1, hQ1⟩ : ∃ v, (un * 4294967296 + un1) / (yn1 * 4294967296 + yn0) = v := ⟨_, rfl⟩
  obtain ⟨V, hV⟩ : ∃ v, (un * 4294967296 + un1) % (yn1 * 4294967296 + yn0) = v := ⟨_, rfl⟩
  have eN := Int.mul_ediv_add_emod (un * 4294967296 + un1) (yn1 * 4294967296 + yn0)
  have v0 := Int.emod_nonneg (un * 4294967296 + un1) (show yn1 * 4294967296 + yn0 ≠ 0 by omega)
  have v1 := Int.emod_lt_of_pos (un * 4294967296 + un1) hp
  rw [hQ1, hV] at eN
  rw [hV] at v0 v1
  rw [Int.mul_comm] at eN
  have hQ0 : 0 ≤ Q1 := by rw [← hQ1]; exact Int.ediv_nonneg (by omega) (by omega)
  have hQm : Q1 ≤ 4294967295 := by
    have : (un * 4294967296 + un1) / (yn1 * 4294967296 + yn0) < 4294967296 := Int.ediv_lt_of_lt_mul hp (by omega)
    omega
  rw [hQ1]
  simp only [bits_Div64.j2]
  rw [if_neg (by omega)]
  have hun : IntKind.u64.wrap (IntKind.u64.wrap (IntKind.u64.wrap (un * 4294967296) + un1) - IntKind.u64.wrap (Q1 * (yn1 * 4294967296 + yn0))) = V := by
    have : 0 ≤ Q1 * (yn1 * 4294967296 + yn0) := Int.mul_nonneg hQ0 (by omega)
    generalize Q1 * (yn1 * 4294967296 + yn0) = p at *
    rw [wu, wu, wu, wu]; omega
  rw [hun]
  have hq' := q1_le V yn1 yn0 b1 b2 b3 v0 v1
  obtain ⟨z1, z2, z3, z4, z5⟩ := start_ok V yn1 b1 b2 v0 (by omega) hq'
  rw [z1, z2]
  obtain ⟨r, hr⟩ := loop1 s yn1 yn0 V un0 Q1 hs b1 b2 b3 h0 v0 v1 2 k' (V / yn1) (V % yn1) (by omega) hq'.1 hq'.2 z3 z4 (by omega) (by omega) (q_ge _ _ _ _ _ _ b1 b3.1 h0.2 z3 z5 hq'.1)
  refine ⟨r, ?_⟩
  rw [hr]
  have hQ2 : 0 ≤ (V * 4294967296 + un0) / (yn1 * 4294967296 + yn0) := Int.ediv_nonneg (by omega) (by omega)
  have hQ3 : (V * 4294967296 + un0) / (yn1 * 4294967296 + yn0) < 4294967296 := Int.ediv_lt_of_lt_mul hp (by omega)
  have hfin : (un * 18446744073709551616 + un1 * 4294967296 + un0) / (yn1 * 4294967296 + yn0) = Q1 * 4294967296 + (V * 4294967296 + un0) / (yn1 * 4294967296 + yn0) := by
    have : un * 18446744073709551616 + un1 * 4294967296 + un0 = (V * 4294967296 + un0) + (yn1 * 4294967296 + yn0) * (Q1 * 4294967296) := by
      have : (yn1 * 4294967296 + yn0) * (Q1 * 4294967296) = Q1 * (yn1 * 4294967296 + yn0) * 4294967296 := by grind
      omega
    rw [this, Int.add_mul_ediv_left _ _ (by omega)]; omega
  rw [hfin, wu, wu]
  congr 2
  omega
def divv (a b : Int) : Int := if b ≤ a / 4294967296 then 18446744073709551615 else a * 4294967296 / b
theorem bl_spec : ∀ (f x : Nat), x < 2 ^ f → x ≠ 0 → 1 ≤ Lib.bitLenAux f x ∧ 2 ^ (Lib.bitLenAux f x - 1) ≤ x ∧ x < 2 ^ Lib.bitLenAux f x
  | 0, x, h, h0 => by omega
  | f + 1, x, h, h0 => by
    simp only [Lib.bitLenAux]
    rw [if_neg h0]
    by_cases hz : x / 2 = 0
    · have : x = 1 := by omega
      subst this
      cases f with
      | zero => simp [Lib.bitLenAux]
      | succ f => simp [Lib.bitLenAux]
    · obtain ⟨h1, h2, h3⟩ := bl_spec f (x / 2) (by rw [Nat.pow_succ] at h; omega) hz
      generalize Lib.bitLenAux f (x / 2) = m at *
      obtain ⟨m, rfl⟩ : ∃ j, m = j + 1 := ⟨m - 1, by omega⟩
      refine ⟨by omega, ?_, ?_⟩
      · rw [show 1 + (m + 1) - 1 = m + 1 from by omega, Nat.pow_succ]
        rw [Nat.add_sub_cancel] at h2; omega
      · rw [show 1 + (m + 1) = (m + 1) + 1 from by omega, Nat.pow_succ]; omega
theorem div64_f (hi lo y : Int) (h0 : 0 ≤ hi) (h1 : hi < y) (hl : 0 ≤ lo ∧ lo ≤ 18446744073709551615) (hy : y ≤ 18446744073709551615) {k : Nat} (hk : 40 ≤ k) :
    ∃ r, bits_Div64.f k hi lo y = some ((hi * 18446744073709551616 + lo) / y, r) := by
  unfold bits_Div64.f
  rw [if_neg (by omega), if_neg (by omega)]
  by_cases hz : hi = 0
  · rw [if_pos hz, hz]
    refine ⟨Int.tmod lo y, ?_⟩
    rw [Int.tdiv_eq_ediv_of_nonneg hl.1, wu]
    have a1 : 0 ≤ lo / y := Int.ediv_nonneg hl.1 (by omega)
    have a2 : lo / y ≤ lo := Int.ediv_le_self _ hl.1
    rw [show lo / y % 18446744073709551616 = lo / y from by omega]; simp
  · rw [if_neg hz]
    obtain ⟨b1, b2, b3⟩ := bl_spec 64 y.toNat (by omega) (by omega)
    have b4 : Lib.bitLen y.toNat ≤ 64 := Lib.bitLen_le y.toNat 64 (by omega) (by omega)
    change 1 ≤ Lib.bitLen y.toNat at b1
    change 2 ^ (Lib.bitLen y.toNat - 1) ≤ y.toNat at b2
    change y.toNat < 2 ^ Lib.bitLen y.toNat at b3
    have hlz : bits_LeadingZeros64.f y = some (64 - (Lib.bitLen y.toNat : Int)) := by
      unfold bits_LeadingZeros64.f
      rw [if_pos (by omega), if_pos hy]
    rw [hlz]
    generalize Lib.bitLen y.toNat = L at *
    clear hlz
    simp only [Option.bind_some]
    obtain ⟨s, hs⟩ : ∃ s : Nat, s = 64 - L := ⟨_, rfl⟩
    have hw : IntKind.u64.wrap (64 - (L : Int)) = (s : Int) := by rw [wu]; omega
    have hw2 : IntKind.u64.wrap (64 - (s : Int)) = (L : Int) := by rw [wu]; omega
    rw [hw, hw2, if_pos (by omega), if_pos (by omega)]
    rw [shl_u y s (by omega) (by omega), shl_u hi s (by omega) (by omega), shl_u lo s (by omega) (by omega), shr_u lo L (by omega) (by omega)]
    rw [Int.toNat_natCast, Int.toNat_natCast]
    have hP : (0 : Int) < 2 ^ s := Int.pow_pos (by omega)
    have hLs : (2 : Int) ^ L * 2 ^ s = 18446744073709551616 := by
      rw [← Int.pow_add, show L + s = 64 from by omega]; rfl
    have hLs1 : (2 : Int) ^ (L - 1) * 2 ^ s = 9223372036854775808 := by
      rw [← Int.pow_add, show L - 1 + s = 63 from by omega]; rfl
    have hPs : (2 : Int) ^ s < 18446744073709551616 := by
      have h1 : (0 : Int) < 2 ^ (L - 1) := Int.pow_pos (by omega)
      have := Int.mul_le_mul_of_nonneg_right (show (1 : Int) ≤ 2 ^ (L - 1) by omega) (show (0 : Int) ≤ 2 ^ s by omega)
      omega
    have y1 : y < 2 ^ L := by
      have : (y.toNat : Int) < ((2 ^ L : Nat) : Int) := by exact_mod_cast b3
      have e : ((2 ^ L : Nat) : Int) = 2 ^ L := by simp
      omega
    have y0 : 2 ^ (L - 1) ≤ y := by
      have : ((2 ^ (L - 1) : Nat) : Int) ≤ (y.toNat : Int) := by exact_mod_cast b2
      have e : ((2 ^ (L - 1) : Nat) : Int) = 2 ^ (L - 1) := by simp
      omega
    have z1 : y * 2 ^ s < 18446744073709551616 := by rw [← hLs]; exact Int.mul_lt_mul_of_pos_right y1 hP
    have z0 : 9223372036854775808 ≤ y * 2 ^ s := by rw [← hLs1]; exact Int.mul_le_mul_of_nonneg_right y0 (by omega)
    have x1 : (hi + 1) * 2 ^ s ≤ y * 2 ^ s := Int.mul_le_mul_of_nonneg_right (by omega) (by omega)
    have x2 : (hi + 1) * 2 ^ s = hi * 2 ^ s + 2 ^ s := by grind
    have x3 : 0 ≤ hi * 2 ^ s := Int.mul_nonneg h0 (by omega)
    have hLp : (0 : Int) < 2 ^ L := Int.pow_pos (by omega)
    have l1 : 0 ≤ lo / 2 ^ L := Int.ediv_nonneg hl.1 (by omega)
    have l2 : lo / 2 ^ L < 2 ^ s := Int.ediv_lt_of_lt_mul hLp (by rw [Int.mul_comm, hLs]; omega)
    have hm : hi * 2 ^ s % 2 ^ s = 0 := Int.mul_emod_left _ _
    have ll : lo * 2 ^ s / 18446744073709551616 = lo / 2 ^ L := by
      rw [← hLs]; exact Int.mul_ediv_mul_of_pos_left _ _ hP
    have ly : y * 2 ^ s % 18446744073709551616 = y * 2 ^ s := by omega
    have lh : hi * 2 ^ s % 18446744073709551616 = hi * 2 ^ s := by omega
    rw [ly, lh, or_join s (hi * 2 ^ s) (lo / 2 ^ L) x3 hm (by omega) l1 l2 (by omega), and32 (y * 2 ^ s) (by omega) z1, and32 _ (by omega) (by omega)]
    rw [if_neg (by omega)]
    have hun : hi * 2 ^ s + lo / 2 ^ L < y * 2 ^ s := by omega
    obtain ⟨r, hr⟩ := div_two s (y * 2 ^ s) (hi * 2 ^ s + lo / 2 ^ L) (lo * 2 ^ s % 18446744073709551616 / 4294967296) (lo * 2 ^ s % 18446744073709551616 % 4294967296) (by omega) z0 (by omega) (by omega) (by omega) (by omega) hun hk
    refine ⟨r, ?_⟩
    rw [hr]
    congr 2
    have hx : (hi * 2 ^ s + lo / 2 ^ L) * 18446744073709551616 + lo * 2 ^ s % 18446744073709551616 / 4294967296 * 4294967296 + lo * 2 ^ s % 18446744073709551616 % 4294967296 = (hi * 18446744073709551616 + lo) * 2 ^ s := by
      have e1 : (hi * 18446744073709551616 + lo) * 2 ^ s = hi * 2 ^ s * 18446744073709551616 + lo * 2 ^ s := by grind
      omega
    rw [hx]
    exact Int.mul_ediv_mul_of_pos_left _ _ hP
theorem quot_f (a b : Int) (ha : 0 ≤ a ∧ a ≤ 18446744073709551615) (hb : 0 ≤ b ∧ b ≤ 18446744073709551615) {k : Nat} (hk : 40 ≤ k) : fix_quotient.f k a b = some (divv a b) := by
  unfold fix_quotient.f divv
  split
  · rfl
  · rw [wu]
    obtain ⟨r, hr⟩ := div64_f (a / 4294967296) (a * 4294967296 % 18446744073709551616) b (by omega) (by omega) (by omega) hb.2 hk
    rw [hr]
    simp only [Option.bind_some]
    congr 2; omega
theorem divv_range (a b : Int) (ha : 0 ≤ a ∧ a ≤ 18446744073709551615) (hb : 0 ≤ b) : 0 ≤ divv a b ∧ divv a b ≤ 18446744073709551615 := by
  unfold divv
  split
  · omega
  · refine ⟨Int.ediv_nonneg (by omega) hb, ?_⟩
    have : a * 4294967296 / b < 18446744073709551616 := Int.ediv_lt_of_lt_mul (by omega) (by omega)
    omega
theorem log_bl (x : Nat) (h0 : x ≠ 0) (h1 : x < 2 ^ 64) : 1 ≤ Lib.bitLen x ∧ 2 ^ (Lib.bitLen x - 1) ≤ x ∧ x < 2 ^ Lib.bitLen x := bl_spec 64 x h1 h0
/-- of a number above 0: how many halvings, and it doubled till its highest bit is the 63th -/
theorem log_parts (a : Int) (h0 : 1 ≤ a) (h1 : a ≤ 18446744073709551615) : ∃ e : Nat, e ≤ 63 ∧ logs_Log.L a = e + 1 ∧ 2 ^ e ≤ a ∧ a < 2 ^ (e + 1) ∧ logs_Log.m a = a * 2 ^ (63 - e) ∧ 9223372036854775808 ≤ logs_Log.m a ∧ logs_Log.m a ≤ 18446744073709551615 := by
  obtain ⟨x, rfl⟩ := Int.eq_ofNat_of_zero_le (show 0 ≤ a by omega)
  obtain ⟨b1, b2, b3⟩ := log_bl x (by omega) (by omega)
  have b4 : Lib.bitLen x ≤ 64 := Lib.bitLen_le x 64 (by omega) (by omega)
  obtain ⟨e, he⟩ : ∃ e, Lib.bitLen x = e + 1 := ⟨Lib.bitLen x - 1, by omega⟩
  rw [he, Nat.add_sub_cancel] at b2
  rw [he] at b3
  have hL : logs_Log.L (x : Int) = e + 1 := by unfold logs_Log.L; rw [Int.toNat_natCast, he]; omega
  have c2 : (2 : Int) ^ e ≤ x := by exact_mod_cast b2
  have c3 : (x : Int) < 2 ^ (e + 1) := by exact_mod_cast b3
  have hp : (0 : Int) < 2 ^ (63 - e) := Int.pow_pos (by omega)
  have d1 : (2 : Int) ^ e * 2 ^ (63 - e) = 9223372036854775808 := by rw [← Int.pow_add, show e + (63 - e) = 63 by omega]; decide
  have d2 : (2 : Int) ^ (e + 1) * 2 ^ (63 - e) = 18446744073709551616 := by rw [← Int.pow_add, show e + 1 + (63 - e) = 64 by omega]; decide
  have g1 : 9223372036854775808 ≤ (x : Int) * 2 ^ (63 - e) := by rw [← d1]; exact Int.mul_le_mul_of_nonneg_right c2 (by omega)
  have g2 : (x : Int) * 2 ^ (63 - e) < 18446744073709551616 := by rw [← d2]; exact Int.mul_lt_mul_of_pos_right c3 hp
  have hm : logs_Log.m (x : Int) = x * 2 ^ (63 - e) := by
    unfold logs_Log.m
    rw [hL, show (63 - ((e : Int) + 1 - 1)).toNat = 63 - e by omega, u64 (by omega) (by omega)]
  exact ⟨e, by omega, hL, c2, c3, hm, by rw [hm]; exact g1, by rw [hm]; omega⟩
theorem tb_le (k : Nat) (hk : k < 16) : logs_Shelf_Table.tb k ≤ logs_Shelf_Table.tb (k + 1) := logs_Log.tb_le k hk
theorem tb_mono (j : Nat) : ∀ k, k + j ≤ 16 → logs_Shelf_Table.tb k ≤ logs_Shelf_Table.tb (k + j) := by
  induction j with
  | zero => intro k _; exact Int.le_refl _
  | succ j ih => intro k h; exact Int.le_trans (ih k (by omega)) (tb_le (k + j) (by omega))
/-- the part behind the point -/
def frac (m : Int) : Int := logs_Shelf_Table.tb (m / 576460752303423488 % 16).toNat + (logs_Shelf_Table.tb ((m / 576460752303423488 % 16).toNat + 1) - logs_Shelf_Table.tb (m / 576460752303423488 % 16).toNat) * (m / 2147483648 % 268435456) / 268435456
theorem v_eq (a : Int) : logs_Log.v a = (logs_Log.L a - 33) * 65536 + frac (logs_Log.m a) := by
  unfold logs_Log.v logs_Log.r logs_Log.i frac; omega
theorem frac_range (m : Int) (h0 : 9223372036854775808 ≤ m) (h1 : m ≤ 18446744073709551615) : logs_Shelf_Table.tb (m / 576460752303423488 % 16).toNat ≤ frac m ∧ frac m ≤ logs_Shelf_Table.tb ((m / 576460752303423488 % 16).toNat + 1) := by
  unfold frac
  have hi : (m / 576460752303423488 % 16).toNat < 16 := by omega
  generalize (m / 576460752303423488 % 16).toNat = i at *
  have hr : 0 ≤ m / 2147483648 % 268435456 ∧ m / 2147483648 % 268435456 ≤ 268435455 := by omega
  generalize m / 2147483648 % 268435456 = r at *
  have ht := tb_le i hi
  generalize logs_Shelf_Table.tb i = t0 at *
  generalize logs_Shelf_Table.tb (i + 1) = t1 at *
  have h2 : 0 ≤ (t1 - t0) * r := Int.mul_nonneg (by omega) hr.1
  have h3 : (t1 - t0) * r ≤ (t1 - t0) * 268435455 := Int.mul_le_mul_of_nonneg_left hr.2 (by omega)
  omega
theorem frac_le {m n : Int} (h0 : 9223372036854775808 ≤ m) (h1 : n ≤ 18446744073709551615) (h : m ≤ n) : frac m ≤ frac n := by
  have r1 := frac_range m h0 (by omega)
  have r2 := frac_range n (by omega) h1
  by_cases e : (m / 576460752303423488 % 16).toNat = (n / 576460752303423488 % 16).toNat
  · unfold frac
    rw [e]
    have hr : m / 2147483648 % 268435456 ≤ n / 2147483648 % 268435456 := by omega
    have ht := tb_le (n / 576460752303423488 % 16).toNat (by omega)
    have := Int.mul_le_mul_of_nonneg_left hr (show 0 ≤ logs_Shelf_Table.tb ((n / 576460752303423488 % 16).toNat + 1) - logs_Shelf_Table.tb (n / 576460752303423488 % 16).toNat by omega)
    omega
  · obtain ⟨j, hj⟩ : ∃ j, (n / 576460752303423488 % 16).toNat = (m / 576460752303423488 % 16).toNat + 1 + j := ⟨(n / 576460752303423488 % 16).toNat - ((m / 576460752303423488 % 16).toNat + 1), by omega⟩
    have := tb_mono j ((m / 576460752303423488 % 16).toNat + 1) (by omega)
    rw [hj] at r2
    omega
theorem tb_range (k : Nat) : 0 ≤ logs_Shelf_Table.tb k ∧ logs_Shelf_Table.tb k ≤ 65536 := logs_Shelf_Table.tab_range k
theorem v_range (a : Int) (h0 : 1 ≤ a) (h1 : a ≤ 18446744073709551615) : -2097152 ≤ logs_Log.v a ∧ logs_Log.v a ≤ 2097152 := by
  obtain ⟨e, he, hL, _, _, hm, g1, g2⟩ := log_parts a h0 h1
  rw [v_eq, hL]
  have r1 := frac_range _ g1 g2
  have t0 := tb_range (logs_Log.m a / 576460752303423488 % 16).toNat
  have t1 := tb_range ((logs_Log.m a / 576460752303423488 % 16).toNat + 1)
  omega
theorem v_le {a b : Int} (h0 : 1 ≤ a) (h1 : b ≤ 18446744073709551615) (h : a ≤ b) : logs_Log.v a ≤ logs_Log.v b := by
  obtain ⟨e, he, hL, p1, p2, hm, g1, g2⟩ := log_parts a h0 (by omega)
  obtain ⟨f, hf, hM, q1, q2, hn, k1, k2⟩ := log_parts b (by omega) h1
  rw [v_eq, v_eq, hL, hM]
  by_cases hef : e = f
  · subst hef
    have : logs_Log.m a ≤ logs_Log.m b := by rw [hm, hn]; exact Int.mul_le_mul_of_nonneg_right h (Int.le_of_lt (Int.pow_pos (by omega)))
    have := frac_le g1 k2 this
    omega
  · have hlt : e < f := by
      by_cases h2 : e < f
      · exact h2
      · have h3 : (2 : Int) ^ (f + 1) ≤ 2 ^ e := by exact_mod_cast Nat.pow_le_pow_right (by omega) (show f + 1 ≤ e by omega)
        omega
    have r1 := frac_range _ g1 g2
    have r2 := frac_range _ k1 k2
    have t0 := tb_range ((logs_Log.m a / 576460752303423488 % 16).toNat + 1)
    have t1 := tb_range (logs_Log.m b / 576460752303423488 % 16).toNat
    omega
theorem log_f (a : Int) (h0 : 1 ≤ a) (h1 : a ≤ 18446744073709551615) : logs_Log.f a = some (logs_Log.v a, true) := by
  obtain ⟨e, he, hL, _⟩ := log_parts a h0 h1
  unfold logs_Log.f
  rw [if_neg (by omega), if_pos (by rw [hL]; omega)]
def negv (a : Int) : Int := if logs_Log.v a ≥ 0 then 0 else (-logs_Log.v a) * 65536
theorem neg_f (a : Int) (h0 : 1 ≤ a) (h1 : a ≤ 18446744073709551615) {k : Nat} (hk : 60 ≤ k) : logs_Neg.f k a = some (negv a) := by
  unfold logs_Neg.f negv
  refine bs (log_f a h0 h1) ?_
  have hr := v_range a h0 h1
  rw [if_pos rfl]
  by_cases h : logs_Log.v a ≥ 0
  · rw [if_pos h, if_pos h]
  · rw [if_neg h, if_neg h, w64 (n := -logs_Log.v a) (by omega) (by omega), u64 (by omega) (by omega)]
    have e : fix_Ratio.f k (-logs_Log.v a) 65536 = some (divv (-logs_Log.v a) 65536) := by
      unfold fix_Ratio.f; exact bs (quot_f _ _ (by omega) (by omega) (by omega)) rfl
    refine bs e ?_
    congr 1
    unfold divv
    rw [if_neg (by omega)]; omega
theorem neg_ge {a b : Int} (h0 : 1 ≤ a) (h1 : b ≤ 18446744073709551615) (h : a ≤ b) : negv b ≤ negv a := by
  have := v_le h0 h1 h
  unfold negv; split <;> split <;> omega
theorem mul64_range (a b : Int) (ha : 0 ≤ a ∧ a ≤ 18446744073709551615) (hb : 0 ≤ b ∧ b ≤ 18446744073709551615) : 0 ≤ a * b ∧ a * b ≤ 340282366920938463426481119284349108225 := by
  refine ⟨Int.mul_nonneg ha.1 hb.1, ?_⟩
  have := Int.mul_le_mul ha.2 hb.2 hb.1 (by omega : (0 : Int) ≤ 18446744073709551615)
  omega
theorem shifted_f (p : Int) (h0 : 0 ≤ p) (h1 : p ≤ 340282366920938463426481119284349108225) : fix_shifted.f (p / 18446744073709551616) (p % 18446744073709551616) = some (if p / 79228162514264337593543950336 = 0 then p / 4294967296 else 18446744073709551615) := by
  unfold fix_shifted.f
  have e : p / 18446744073709551616 / 4294967296 = p / 79228162514264337593543950336 := by omega
  rw [e]
  by_cases h : p / 79228162514264337593543950336 = 0
  · rw [if_pos h, if_pos h, wu, or_join 32 _ _ (by omega) (by omega) (by omega) (by omega) (by omega) (by omega)]
    congr 1; omega
  · rw [if_neg h, if_neg h]
theorem mul64_f (a b : Int) (ha : 0 ≤ a ∧ a ≤ 18446744073709551615) (hb : 0 ≤ b ∧ b ≤ 18446744073709551615) : bits_Mul64.f a b = some (a * b / 18446744073709551616, a * b % 18446744073709551616) := by
  unfold bits_Mul64.f; rw [if_pos ⟨ha.1, ha.2, hb.1, hb.2⟩]
theorem awake17_k {k : Nat} (hk : 100 ≤ k) : terracelaw17_awake.f k = some true :=
  at_rounds (g := fun k => terracelaw17_awake.f k) (fun k => terracelaw17_awake.mono k) hk (by decide +kernel)
theorem v_one : logs_Log.v 4294967296 = 0 := by decide +kernel
theorem v_half : logs_Log.v 2147483648 = -65536 := by decide +kernel
theorem negv_le (a : Int) (h0 : 1 ≤ a) (h1 : a ≤ 4294967296) : negv a = (-logs_Log.v a) * 65536 ∧ 0 ≤ negv a ∧ negv a ≤ 137438953472 := by
  have h2 := v_le h0 (show (4294967296 : Int) ≤ 18446744073709551615 by omega) h1
  have h3 := v_range a h0 (by omega)
  rw [v_one] at h2
  unfold negv; split <;> omega
/-- the logarithm of one part of n -/
def part (n : Int) : Int := negv (4294967296 / n)
theorem part_range (n : Int) (h : 2 ≤ n ∧ n ≤ 65536) : 65536 ≤ 4294967296 / n ∧ 4294967296 / n ≤ 2147483648 := by
  refine ⟨Int.le_ediv_of_mul_le (by omega) (by omega), ?_⟩
  have : 4294967296 / n < 2147483649 := Int.ediv_lt_of_lt_mul (by omega) (by omega)
  omega
theorem part_ge (n : Int) (h : 2 ≤ n ∧ n ≤ 65536) : 4294967296 ≤ part n ∧ part n ≤ 137438953472 := by
  have hp := part_range n h
  obtain ⟨h1, h2, h3⟩ := negv_le (4294967296 / n) (by omega) (by omega)
  have h4 := v_le (show 1 ≤ 4294967296 / n by omega) (show (2147483648 : Int) ≤ 18446744073709551615 by omega) hp.2
  rw [v_half] at h4
  unfold part
  omega
def waitv (a most n : Int) : Int := if negv a ≥ part n then 0 else (4294967296 - negv a * 4294967296 / part n) * most / 4294967296
theorem wait_d (a n : Int) (ha : 1 ≤ a ∧ a ≤ 4294967296) (hn : 2 ≤ n ∧ n ≤ 65536) (h : ¬ negv a ≥ part n) : divv (negv a) (part n) = negv a * 4294967296 / part n ∧ 0 ≤ negv a * 4294967296 / part n ∧ negv a * 4294967296 / part n < 4294967296 := by
  obtain ⟨_, h2, h3⟩ := negv_le a ha.1 ha.2
  have h4 := part_ge n hn
  refine ⟨by unfold divv; rw [if_neg (by omega)], Int.ediv_nonneg (by omega) (by omega), Int.ediv_lt_of_lt_mul (by omega) ?_⟩
  rw [Int.mul_comm]
  exact Int.mul_lt_mul_of_pos_left (by omega) (by omega)
theorem wait_range (a most n : Int) (ha : 1 ≤ a ∧ a ≤ 4294967296) (hm : 0 ≤ most ∧ most ≤ 1048576) (hn : 2 ≤ n ∧ n ≤ 65536) : 0 ≤ waitv a most n ∧ waitv a most n ≤ most := by
  unfold waitv
  split
  · omega
  · rename_i h
    obtain ⟨_, h1, h2⟩ := wait_d a n ha hn h
    have h3 : 0 ≤ (4294967296 - negv a * 4294967296 / part n) * most := Int.mul_nonneg (by omega) hm.1
    have h4 : (4294967296 - negv a * 4294967296 / part n) * most ≤ 4294967296 * most := Int.mul_le_mul_of_nonneg_right (by omega) hm.1
    omega
def right (a most n : Int) : Prop := (1 ≤ a ∧ a ≤ 4294967296) ∧ (0 ≤ most ∧ most ≤ 1048576) ∧ (2 ≤ n ∧ n ≤ 65536)
instance (a most n : Int) : Decidable (right a most n) := by unfold right; infer_instance
theorem wait_f (a most n : Int) (ha : 0 ≤ a) {k : Nat} (hk : 100 ≤ k) : suppress_Wait.f k a most n = some (if right a most n then (waitv a most n, 0) else (0, 11)) := by
  obtain ⟨k, rfl⟩ : ∃ m, k = m + 1 := ⟨k - 1, by omega⟩
  have bad : ∀ c, c = true → suppress_Wait.j0 (k + 1) a most n c = some (0, 11) := by
    rintro c rfl
    simp only [suppress_Wait.j0]; rw [if_pos trivial]
  unfold suppress_Wait.f
  by_cases c1 : a = 0
  · rw [if_pos c1, if_neg (fun h => by unfold right at h; omega)]; exact bad _ rfl
  rw [if_neg c1]
  by_cases c2 : a > 4294967296
  · rw [if_pos c2, if_neg (fun h => by unfold right at h; omega)]; exact bad _ rfl
  rw [if_neg c2]
  by_cases c3 : most < 0
  · rw [if_pos c3, if_neg (fun h => by unfold right at h; omega)]; exact bad _ rfl
  rw [if_neg c3]
  by_cases c4 : most > 1048576
  · rw [if_pos c4, if_neg (fun h => by unfold right at h; omega)]; exact bad _ rfl
  rw [if_neg c4]
  by_cases c5 : n < 2
  · rw [if_pos c5, if_neg (fun h => by unfold right at h; omega)]; exact bad _ rfl
  rw [if_neg c5]
  by_cases c6 : n > 65536
  · rw [if_neg (fun h => by unfold right at h; omega)]; exact bad _ (by simpa using c6)
  have hr : right a most n := by unfold right; omega
  rw [if_pos hr]
  obtain ⟨ra, rm, rn⟩ := hr
  simp only [suppress_Wait.j0]
  rw [if_neg (by simpa using c6), u64 (n := n) (by omega) (by omega), u64 (n := most) (by omega) (by omega)]
  refine bs (neg_f a ra.1 (by omega) (by omega)) ?_
  have hp := part_range n rn
  have e1 : fix_Ratio.f k 1 n = some (4294967296 / n) := by
    unfold fix_Ratio.f
    refine bs (quot_f 1 n (by omega) (by omega) (by omega)) ?_
    unfold divv; rw [if_neg (by omega)]; rfl
  refine bs e1 (bs (neg_f _ (by omega) (by omega) (by omega)) ?_)
  change (if negv a ≥ part n then _ else _) = _
  have hx := negv_le a ra.1 ra.2
  have hl := part_ge n rn
  unfold waitv
  by_cases c7 : negv a ≥ part n
  · rw [if_pos c7, if_pos c7]
  rw [if_neg c7, if_neg c7]
  obtain ⟨d0, d1, d2⟩ := wait_d a n ra rn c7
  have e2 : fix_F_Div.f k (negv a) (part n) = some (negv a * 4294967296 / part n) := by
    unfold fix_F_Div.f
    refine bs (quot_f _ _ (by omega) (by omega) (by omega)) ?_
    rw [d0]
  refine bs e2 ?_
  generalize negv a * 4294967296 / part n = d at *
  have e3 : fix_F_Sub.f 4294967296 d = some (4294967296 - d) := by
    unfold fix_F_Sub.f; rw [if_neg (by omega), u64 (by omega) (by omega)]
  refine bs e3 ?_
  have h3 : 0 ≤ (4294967296 - d) * most := Int.mul_nonneg (by omega) rm.1
  have h4 : (4294967296 - d) * most ≤ 4294967296 * 1048576 := Int.mul_le_mul (by omega) rm.2 rm.1 (by omega)
  have e4 : fix_F_Times.f (4294967296 - d) most = some ((4294967296 - d) * most / 4294967296) := by
    unfold fix_F_Times.f
    refine bs (mul64_f _ _ (by omega) (by omega)) ?_
    refine bs (shifted_f _ h3 (by omega)) ?_
    rw [if_pos (by omega)]
  refine bs e4 ?_
  rw [w64 (by omega) (by omega)]
theorem wait_le {a b most n : Int} (ha : 1 ≤ a) (hb : b ≤ 4294967296) (h : a ≤ b) (hm : 0 ≤ most ∧ most ≤ 1048576) (hn : 2 ≤ n ∧ n ≤ 65536) : waitv a most n ≤ waitv b most n := by
  have hx := neg_ge ha (show b ≤ 18446744073709551615 by omega) h
  have hb0 := wait_range b most n (by omega) hm hn
  by_cases c : negv a ≥ part n
  · have : waitv a most n = 0 := by unfold waitv; rw [if_pos c]
    omega
  · have c2 : ¬ negv b ≥ part n := by omega
    have hl := part_ge n hn
    unfold waitv
    rw [if_neg c, if_neg c2]
    have h1 : negv b * 4294967296 / part n ≤ negv a * 4294967296 / part n := Int.ediv_le_ediv (by omega) (by omega)
    have h2 : (4294967296 - negv a * 4294967296 / part n) * most ≤ (4294967296 - negv b * 4294967296 / part n) * most := Int.mul_le_mul_of_nonneg_right (by omega) hm.1
    omega
theorem rv_eq (a : Int) (h0 : 1 ≤ a) (h1 : a ≤ 18446744073709551615) : terraceref02_Log.v a = logs_Log.v a := by
  obtain ⟨e, he, hL, p1, p2, hm, g1, g2⟩ := log_parts a h0 h1
  have hlog : terraceref02_Log.e a = e := by
    unfold terraceref02_Log.e
    obtain ⟨x, rfl⟩ := Int.eq_ofNat_of_zero_le (show 0 ≤ a by omega)
    rw [Int.toNat_natCast]
    have p1' : 2 ^ e ≤ x := by exact_mod_cast p1
    have p2' : x < 2 ^ (e + 1) := by exact_mod_cast p2
    have hx : x ≠ 0 := by have := Nat.two_pow_pos e; omega
    have l1 := (Nat.le_log2 hx).2 p1'
    have l2 := (Nat.log2_lt hx).2 p2'
    omega
  have hq : terraceref02_Log.q a = logs_Log.m a - 9223372036854775808 := by unfold terraceref02_Log.q; rw [hlog, hm]
  have hi : terraceref02_Log.i a = logs_Log.m a / 576460752303423488 % 16 := by unfold terraceref02_Log.i; rw [hq]; omega
  have hr : terraceref02_Log.r a = logs_Log.m a / 2147483648 % 268435456 := by unfold terraceref02_Log.r; rw [hq]; omega
  have ht : ∀ k, terraceref02_Log.tb k = logs_Shelf_Table.tb k := fun k => rfl
  rw [v_eq]
  unfold terraceref02_Log.v frac
  rw [hlog, hi, hr, hL, ht, ht]
  omega
theorem rlog_f (a : Int) (h0 : 1 ≤ a) (h1 : a ≤ 18446744073709551615) : terraceref02_Log.f a = some (logs_Log.v a) := by
  unfold terraceref02_Log.f
  rw [if_pos ⟨h0, h1⟩, rv_eq a h0 h1]
/-! digits of the base 2^16, the lowest first -/
def val : List Int → Int
  | [] => 0
  | d :: r => d + 65536 * val r
def Dig (l : List Int) : Prop := ∀ x ∈ l, 0 ≤ x ∧ x ≤ 65535
/-- no nought at the end: the number is as great as its length says -/
def Norm (l : List Int) : Prop := Dig l ∧ (l = [] ∨ 65536 ^ (l.length - 1) ≤ val l)
theorem val_append : ∀ a b : List Int, val (a ++ b) = val a + 65536 ^ a.length * val b
  | [], b => by simp [val]
  | d :: r, b => by
    rw [List.cons_append, val, val_append r b, val, List.length_cons, Int.pow_succ]; grind
theorem val_range : ∀ l : List Int, Dig l → 0 ≤ val l ∧ val l < 65536 ^ l.length
  | [], _ => by simp [val]
  | d :: r, h => by
    obtain ⟨h1, h2⟩ := val_range r (fun x hx => h x (List.mem_cons_of_mem _ hx))
    have := h d List.mem_cons_self
    rw [val, List.length_cons, Int.pow_succ]
    omega
theorem Dig.append {a b : List Int} (ha : Dig a) (hb : Dig b) : Dig (a ++ b) := fun x hx => by
  rcases List.mem_append.1 hx with h | h
  · exact ha x h
  · exact hb x h
theorem Dig.take {a : List Int} (ha : Dig a) (n : Nat) : Dig (a.take n) := fun x hx => ha x (List.mem_of_mem_take hx)
theorem Dig.one {d : Int} (h : 0 ≤ d ∧ d ≤ 65535) : Dig [d] := fun x hx => by
  have : x = d := by simpa using hx
  subst this; exact h
theorem Dig.nil : Dig [] := fun x hx => by cases hx
theorem pw_pos (n : Nat) : (0 : Int) < 65536 ^ n := Int.pow_pos (by omega)
theorem pw_le {m n : Nat} (h : m ≤ n) : (65536 : Int) ^ m ≤ 65536 ^ n := by
  obtain ⟨d, rfl⟩ := Nat.exists_eq_add_of_le h
  rw [Int.pow_add]
  have h1 := pw_pos m
  have h2 := pw_pos d
  have := Int.mul_le_mul_of_nonneg_left (show (1 : Int) ≤ 65536 ^ d by omega) (show (0 : Int) ≤ 65536 ^ m by omega)
  omega
/-- a number's digit, noughts behind its end -/
def dg (l : List Int) (i : Int) : Int := if i < (l.length : Int) then rd l i else 0
theorem dg_range {l : List Int} (h : Dig l) (i : Int) (h0 : 0 ≤ i) : 0 ≤ dg l i ∧ dg l i ≤ 65535 := by
  unfold dg
  split
  · unfold rd
    rw [List.getD_eq_getElem?_getD, List.getElem?_eq_getElem (by omega), Option.getD_some]
    exact h _ (List.getElem_mem _)
  · omega
theorem val_take (l : List Int) (i : Int) (h0 : 0 ≤ i) : val (l.take (i + 1).toNat) = val (l.take i.toNat) + 65536 ^ i.toNat * dg l i := by
  unfold dg
  rw [show (i + 1).toNat = i.toNat + 1 from by omega]
  by_cases h : i < (l.length : Int)
  · rw [if_pos h, List.take_succ_eq_append_getElem (by omega), val_append, List.length_take, Nat.min_eq_left (by omega)]
    unfold rd
    rw [List.getD_eq_getElem?_getD, List.getElem?_eq_getElem (by omega), Option.getD_some]
    simp [val]
  · rw [if_neg h, List.take_of_length_le (by omega), List.take_of_length_le (by omega)]; omega
theorem val_set : ∀ (l : List Int) (i : Nat) (v : Int), i < l.length → val (l.set i v) = val l + 65536 ^ i * (v - l.getD i 0)
  | [], i, v, h => by simp at h
  | d :: r, 0, v, _ => by simp [val]; omega
  | d :: r, i + 1, v, h => by
    rw [List.set_cons_succ, val, val_set r i v (by simpa using h), val, List.getD_cons_succ, Int.pow_succ]; grind
theorem Dig.set {l : List Int} (h : Dig l) (i : Nat) {v : Int} (hv : 0 ≤ v ∧ v ≤ 65535) : Dig (l.set i v) := fun x hx => by
  rcases List.mem_or_eq_of_mem_set hx with hm | rfl
  · exact h x hm
  · exact hv
theorem len_le {l : List Int} (h : Norm l) (n : Nat) (hv : val l < 65536 ^ n) : l.length ≤ n := by
  rcases h.2 with rfl | h2
  · simp
  · apply Nat.not_lt.mp
    intro hlt
    have := pw_le (show n ≤ l.length - 1 by omega)
    omega
/-! trim -/
theorem trim_l (l : List Int) (hd : Dig l) (hl : l.length ≤ 100000) (d : Nat) : ∀ (k : Nat) (i : Int), i = d → i ≤ l.length → d < k → val (l.take d) = val l → ∃ r, terraceref01_trim.l0 k l i = some r ∧ Norm r ∧ val r = val l ∧ r.length ≤ l.length := by
  induction d with
  | zero =>
    intro k i hi hle hk hv
    obtain ⟨k, rfl, hk⟩ := fuel hk
    subst hi
    simp only [terraceref01_trim.l0]
    rw [if_neg (by omega), if_pos (by omega), if_pos (by omega)]
    refine ⟨_, rfl, ⟨by simp; exact Dig.nil, .inl (by simp)⟩, by simpa using hv, by simp⟩
  | succ d ih =>
    intro k i hi hle hk hv
    obtain ⟨k, rfl, hk⟩ := fuel hk
    simp only [terraceref01_trim.l0]
    rw [if_pos (by omega), w64 (by omega) (by omega), if_pos (by omega), if_pos (by omega)]
    have e := val_take l (i - 1) (by omega)
    rw [show (i - 1 + 1).toNat = d + 1 from by omega, show (i - 1).toNat = d from by omega] at e
    unfold dg at e
    rw [if_pos (by omega)] at e
    have hg := dg_range hd (i - 1) (by omega)
    unfold dg at hg
    rw [if_pos (by omega)] at hg
    by_cases h : rd l (i - 1) = 0
    · rw [if_pos h]
      rw [h] at e
      exact ih k (i - 1) (by omega) (by omega) (by omega) (by omega)
    · rw [if_neg h, if_pos (by omega), if_pos (by omega)]
      have hi2 : (i : Int).toNat = d + 1 := by omega
      refine ⟨_, rfl, ⟨hd.take _, .inr ?_⟩, by rw [hi2]; exact hv, by simp; omega⟩
      rw [hi2, List.length_take, Nat.min_eq_left (by omega), Nat.add_sub_cancel, e]
      have h1 := (val_range _ (hd.take d)).1
      have h2 := Int.mul_le_mul_of_nonneg_left (show (1 : Int) ≤ rd l (i - 1) by omega) (show (0 : Int) ≤ 65536 ^ d by have := pw_pos d; omega)
      omega
theorem trim_f (l : List Int) (hd : Dig l) (hl : l.length ≤ 100000) {k : Nat} (hk : l.length < k) : ∃ r, terraceref01_trim.f k l = some r ∧ Norm r ∧ val r = val l ∧ r.length ≤ l.length := by
  unfold terraceref01_trim.f
  exact trim_l l hd hl l.length k (l.length : Int) rfl (by omega) hk (by simp)
/-! Of -/
theorem of_l : ∀ (d k : Nat) (n : Int) (out : List Int), d < k → 0 ≤ n → n < 65536 ^ d → n ≤ 18446744073709551615 → Dig out → out.length + d ≤ 100 → (0 < n ∨ out = [] ∨ 65536 ^ (out.length - 1) ≤ val out) →
    ∃ r, terraceref01_Of.l0 k n out = some r ∧ Norm r ∧ val r = val out + 65536 ^ out.length * n
  | 0, k, n, out, hk, h0, h1, h2, hd, hl, hn => by
    obtain ⟨k, rfl, hk⟩ := fuel hk
    have : n = 0 := by simp at h1; omega
    subst this
    simp only [terraceref01_Of.l0]
    refine ⟨out, by rw [if_neg (by omega)], ⟨hd, ?_⟩, by omega⟩
    rcases hn with hn | hn
    · omega
    · exact hn
  | d + 1, k, n, out, hk, h0, h1, h2, hd, hl, hn => by
    obtain ⟨k, rfl, hk⟩ := fuel hk
    simp only [terraceref01_Of.l0]
    by_cases hz : n > 0
    · rw [if_pos hz, if_pos (by omega), Int.tdiv_eq_ediv_of_nonneg h0, Int.tmod_eq_emod_of_nonneg h0, w64 (by omega) (by omega), wu]
      have e1 : n / 65536 % 18446744073709551616 = n / 65536 := by omega
      rw [e1]
      have hval : val (out ++ [n % 65536]) = val out + 65536 ^ out.length * (n % 65536) := by rw [val_append]; simp [val]
      have hp := pw_pos out.length
      have h0' := (val_range out hd).1
      obtain ⟨r, hr, hn2, hv⟩ := of_l d k (n / 65536) (out ++ [n % 65536]) (by omega) (by omega) (by rw [Int.pow_succ] at h1; omega) (by omega) (hd.append (Dig.one (by omega))) (by simp; omega) (by
        by_cases hq : 0 < n / 65536
        · exact .inl hq
        · right; right
          rw [hval, List.length_append, List.length_singleton, Nat.add_sub_cancel]
          have : n % 65536 = n := by omega
          rw [this]
          have := Int.mul_le_mul_of_nonneg_left (show (1 : Int) ≤ n by omega) (show (0 : Int) ≤ 65536 ^ out.length by omega)
          omega)
      refine ⟨r, hr, hn2, ?_⟩
      rw [hv, hval, List.length_append, List.length_singleton, Int.pow_succ]
      have : n = 65536 * (n / 65536) + n % 65536 := by omega
      generalize (65536 : Int) ^ out.length = p at *
      have e : p * n = p * (65536 * (n / 65536) + n % 65536) := by rw [← this]
      rw [e]; grind
    · have : n = 0 := by omega
      subst this
      refine ⟨out, by rw [if_neg (by omega)], ⟨hd, ?_⟩, by omega⟩
      rcases hn with hn | hn
      · omega
      · exact hn
theorem of_f (n : Int) (h : 0 ≤ n ∧ n ≤ 18446744073709551615) {k : Nat} (hk : 10 ≤ k) : ∃ r, terraceref01_Of.f k n = some r ∧ Norm r ∧ val r = n ∧ r.length ≤ 4 := by
  unfold terraceref01_Of.f
  have e : (65536 : Int) ^ 4 = 18446744073709551616 := by decide
  obtain ⟨r, hr, hn, hv⟩ := of_l 4 k n [] (by omega) h.1 (by omega) h.2 Dig.nil (by simp) (.inr (.inl rfl))
  have hv' : val r = n := by rw [hv]; simp [val]
  exact ⟨r, hr, hn, hv', len_le hn 4 (by omega)⟩
/-! Cmp -/
theorem cmp_l (a b : List Int) (ha : Dig a) (hb : Dig b) (hab : a.length = b.length) (hl : a.length ≤ 100000) (d : Nat) : ∀ (k : Nat) (i : Int), i = (d : Int) - 1 → d ≤ a.length → d < k → ∃ c, terraceref01_Cmp.l0 k a b i = some c ∧ (c > 0 ↔ val (a.take d) > val (b.take d)) ∧ (c = 0 ↔ val (a.take d) = val (b.take d)) := by
  induction d with
  | zero =>
    intro k i hi hle hk
    obtain ⟨k, rfl, hk⟩ := fuel hk
    simp only [terraceref01_Cmp.l0]
    rw [if_neg (by omega)]
    exact ⟨0, rfl, by simp, by simp⟩
  | succ d ih =>
    intro k i hi hle hk
    obtain ⟨k, rfl, hk⟩ := fuel hk
    simp only [terraceref01_Cmp.l0]
    rw [if_pos (by omega), if_pos (by omega), if_pos (by omega), if_pos (by omega), w64 (by omega) (by omega)]
    have e1 := val_take a i (by omega)
    have e2 := val_take b i (by omega)
    rw [show (i + 1).toNat = d + 1 from by omega, show i.toNat = d from by omega] at e1 e2
    unfold dg at e1 e2
    rw [if_pos (by omega)] at e1 e2
    have r1 := val_range _ (ha.take d)
    have r2 := val_range _ (hb.take d)
    rw [List.length_take, Nat.min_eq_left (by omega)] at r1 r2
    have hp := pw_pos d
    by_cases h1 : rd a i < rd b i
    · rw [if_pos h1]
      have : (65536 : Int) ^ d * (rd a i + 1) ≤ 65536 ^ d * rd b i := Int.mul_le_mul_of_nonneg_left (by omega) (by omega)
      have e3 : (65536 : Int) ^ d * (rd a i + 1) = 65536 ^ d * rd a i + 65536 ^ d := by grind
      exact ⟨-1, rfl, by omega, by omega⟩
    · rw [if_neg h1]
      by_cases h2 : rd a i > rd b i
      · rw [if_pos h2]
        have : (65536 : Int) ^ d * (rd b i + 1) ≤ 65536 ^ d * rd a i := Int.mul_le_mul_of_nonneg_left (by omega) (by omega)
        have e3 : (65536 : Int) ^ d * (rd b i + 1) = 65536 ^ d * rd b i + 65536 ^ d := by grind
        exact ⟨1, rfl, by omega, by omega⟩
      · rw [if_neg h2]
        have : rd a i = rd b i := by omega
        rw [this] at e1
        obtain ⟨c, hc, h3, h4⟩ := ih k (i - 1) (by omega) (by omega) (by omega)
        exact ⟨c, hc, by rw [h3]; omega, by rw [h4]; omega⟩
theorem cmp_f (a b : List Int) (ha : Norm a) (hb : Norm b) (hl : a.length ≤ 100) (hl2 : b.length ≤ 100) {k : Nat} (hk : 110 ≤ k) : ∃ c, terraceref01_Cmp.f k a b = some c ∧ (c > 0 ↔ val a > val b) ∧ (c = 0 ↔ val a = val b) := by
  unfold terraceref01_Cmp.f
  have ra := val_range a ha.1
  have rb := val_range b hb.1
  by_cases h : (a.length : Int) = (b.length : Int)
  · rw [if_pos h, w64 (by omega) (by omega)]
    obtain ⟨c, hc, h3, h4⟩ := cmp_l a b ha.1 hb.1 (by omega) (by omega) a.length k ((a.length : Int) - 1) rfl (by omega) (by omega)
    rw [List.take_of_length_le (Nat.le_refl _), List.take_of_length_le (by omega)] at h3 h4
    exact ⟨c, hc, h3, h4⟩
  · rw [if_neg h]
    by_cases h2 : (a.length : Int) < (b.length : Int)
    · rw [if_pos h2]
      have hb2 : 65536 ^ (b.length - 1) ≤ val b := by
        rcases hb.2 with rfl | hb2
        · simp only [List.length_nil] at h2; omega
        · exact hb2
      have := pw_le (show a.length ≤ b.length - 1 by omega)
      exact ⟨-1, rfl, by omega, by omega⟩
    · rw [if_neg h2]
      have ha2 : 65536 ^ (a.length - 1) ≤ val a := by
        rcases ha.2 with rfl | ha2
        · simp only [List.length_nil] at h h2; omega
        · exact ha2
      have := pw_le (show b.length ≤ a.length - 1 by omega)
      exact ⟨1, rfl, by omega, by omega⟩
/-! Mul -/
theorem rd_set (l : List Int) (i : Nat) (v : Int) (m : Int) (hi : i < l.length) : rd (l.set i v) m = if m.toNat = i then v else rd l m := by
  unfold rd
  rw [List.getD_eq_getElem?_getD, List.getD_eq_getElem?_getD, List.getElem?_set]
  by_cases h : i = m.toNat
  · rw [if_pos h, if_pos (by omega), if_pos h.symm]; rfl
  · rw [if_neg h, if_neg (fun e => h e.symm)]
theorem rd_range {l : List Int} (h : Dig l) (i : Int) (h0 : 0 ≤ i) (h1 : i < (l.length : Int)) : 0 ≤ rd l i ∧ rd l i ≤ 65535 := by
  have := dg_range h i h0
  unfold dg at this; rwa [if_pos h1] at this
theorem val_set' (l : List Int) (i : Int) (v : Int) (h0 : 0 ≤ i) (h : i < (l.length : Int)) : val (l.set i.toNat v) = val l + 65536 ^ i.toNat * (v - rd l i) := by
  rw [val_set l i.toNat v (by omega)]; rfl
theorem mul_in (a b : List Int) (ha : Dig a) (hb : Dig b) (hla : a.length ≤ 20) (hlb : b.length ≤ 20) (i : Int) (hi0 : 0 ≤ i) (hi1 : i < (a.length : Int)) (V : Int) (d : Nat) : ∀ (k : Nat) (out : List Int) (c j : Int), 0 ≤ j → j ≤ (b.length : Int) + 1 → j + d = (b.length : Int) + 1 → (out.length : Int) = a.length + b.length + 1 → Dig out → 0 ≤ c → c ≤ 65535 → (j = (b.length : Int) + 1 → c = 0) →
    val out + 65536 ^ (i + j).toNat * c = V + 65536 ^ i.toNat * (rd a i * val (b.take j.toNat)) → (∀ m : Int, i + b.length + (if j = (b.length : Int) + 1 then 1 else 0) ≤ m → rd out m = 0) → 2 * d + 4 ≤ k →
    ∃ k' out', k ≤ k' + 2 * d + 4 ∧ terraceref01_Mul.l1 k a b out i c j = terraceref01_Mul.l0 k' a b out' (i + 1) ∧ (out'.length : Int) = a.length + b.length + 1 ∧ Dig out' ∧ val out' = V + 65536 ^ i.toNat * (rd a i * val b) ∧ (∀ m : Int, i + 1 + b.length ≤ m → rd out' m = 0) := by
  have ra := rd_range ha i hi0 hi1
  induction d with
  | zero =>
    intro k out c j h0 h1 hd hl hdig hc0 hc1 hc2 hv hz hk
    obtain ⟨k, rfl⟩ : ∃ m, k = m + 2 := ⟨k - 2, by omega⟩
    have hj : j = (b.length : Int) + 1 := by omega
    have hc := hc2 hj
    simp only [terraceref01_Mul.l1, terraceref01_Mul.j2]
    rw [if_neg (by omega), if_neg (by simp; omega), w64 (n := i + 1) (by omega) (by omega)]
    refine ⟨k, out, by omega, rfl, hl, hdig, ?_, ?_⟩
    · rw [hc, List.take_of_length_le (by omega)] at hv; omega
    · intro m hm; exact hz m (by rw [if_pos hj]; omega)
  | succ d ih =>
    intro k out c j h0 h1 hd hl hdig hc0 hc1 hc2 hv hz hk
    obtain ⟨k, rfl⟩ : ∃ m, k = m + 2 := ⟨k - 2, by omega⟩
    have hjn : ¬ j = (b.length : Int) + 1 := by omega
    simp only [if_neg hjn] at hz
    have ro := rd_range hdig (i + j) (by omega) (by omega)
    simp only [terraceref01_Mul.l1]
    by_cases hj : j < (b.length : Int)
    · rw [if_pos hj]
      simp only [terraceref01_Mul.j2]
      have rb := rd_range hb j h0 hj
      have hp0 : 0 ≤ rd a i * rd b j := Int.mul_nonneg ra.1 rb.1
      have hp1 : rd a i * rd b j ≤ 65535 * 65535 := Int.mul_le_mul ra.2 rb.2 rb.1 (by omega)
      rw [if_pos trivial, w64 (n := i + j) (by omega) (by omega), if_pos (by omega), if_pos (by omega), if_pos hj, if_pos hi0, if_pos hi1, if_pos h0, w64 (n := rd out (i + j) + c) (by omega) (by omega), w64 (n := rd a i * rd b j) (by omega) (by omega), w64 (n := rd out (i + j) + c + rd a i * rd b j) (by omega) (by omega), Int.tdiv_eq_ediv_of_nonneg (by omega), Int.tmod_eq_emod_of_nonneg (by omega), w64 (by omega) (by omega), w64 (n := j + 1) (by omega) (by omega)]
      obtain ⟨n, hn⟩ : ∃ n, rd out (i + j) + c + rd a i * rd b j = n := ⟨_, rfl⟩
      rw [hn]
      have hcn : n / 65536 ≤ 65535 := by omega
      obtain ⟨k', out', h2, h3, h4, h5, h6, h7⟩ := ih k (out.set (i + j).toNat (n % 65536)) (n / 65536) (j + 1) (by omega) (by omega) (by omega) (by rw [List.length_set]; exact hl) (hdig.set _ (by omega)) (by omega) (by omega) (by
          intro hh; exfalso; omega) (by
          rw [val_set' out (i + j) (n % 65536) (by omega) (by omega), show (i + (j + 1)).toNat = (i + j).toNat + 1 from by omega, Int.pow_succ, val_take b j h0]
          unfold dg; rw [if_pos hj]
          have e : n = 65536 * (n / 65536) + n % 65536 := by omega
          have e0 : (65536 : Int) ^ (i + j).toNat = 65536 ^ i.toNat * 65536 ^ j.toNat := by rw [← Int.pow_add]; congr 1; omega
          rw [e0] at hv ⊢
          generalize n / 65536 = x at *
          generalize n % 65536 = y at *
          generalize (65536 : Int) ^ i.toNat = p at *
          generalize (65536 : Int) ^ j.toNat = q at *
          generalize rd a i = u at *
          generalize rd b j = v at *
          generalize rd out (i + j) = o at *
          generalize val (b.take j.toNat) = t at *
          have e2 : y = o + c + u * v - 65536 * x := by omega
          rw [e2]
          have e3 : p * q * (o + c + u * v - 65536 * x - o) + p * q * 65536 * x = p * q * c + p * (u * (q * v)) := by grind
          have e4 : p * (u * (t + q * v)) = p * (u * t) + p * (u * (q * v)) := by grind
          omega) (by
          intro m hm
          rw [rd_set _ _ _ _ (by omega)]
          rw [if_neg (by split at hm <;> omega)]
          exact hz m (by split at hm <;> omega)) (by omega)
      exact ⟨k', out', by omega, h3, h4, h5, h6, h7⟩
    · rw [if_neg hj]
      simp only [terraceref01_Mul.j2]
      have hjl : j = b.length := by omega
      have hzo : rd out (i + j) = 0 := hz _ (by omega)
      by_cases hc : c > 0
      · rw [if_pos (by simp; omega), w64 (n := i + j) (by omega) (by omega), if_pos (by omega), if_pos (by omega), if_neg hj, w64 (n := rd out (i + j) + c) (by omega) (by omega), Int.tdiv_eq_ediv_of_nonneg (by omega), Int.tmod_eq_emod_of_nonneg (by omega), w64 (by omega) (by omega), w64 (n := j + 1) (by omega) (by omega), hzo]
        have e1 : (0 + c) / 65536 = 0 := by omega
        have e2 : (0 + c) % 65536 = c := by omega
        rw [e1, e2]
        obtain ⟨k', out', h2, h3, h4, h5, h6, h7⟩ := ih k (out.set (i + j).toNat c) 0 (j + 1) (by omega) (by omega) (by omega) (by rw [List.length_set]; exact hl) (hdig.set _ (by omega)) (by omega) (by omega) (by intro _; rfl) (by
            rw [val_set' out (i + j) c (by omega) (by omega), hzo, List.take_of_length_le (by omega)]
            rw [List.take_of_length_le (by omega)] at hv
            have : (65536 : Int) ^ (i + j).toNat * (c - 0) = 65536 ^ (i + j).toNat * c := by grind
            omega) (by
            intro m hm
            rw [if_pos (by omega)] at hm
            rw [rd_set _ _ _ _ (by omega), if_neg (by omega)]
            exact hz m (by omega)) (by omega)
        exact ⟨k', out', by omega, h3, h4, h5, h6, h7⟩
      · rw [if_neg (by simp; omega), w64 (n := i + 1) (by omega) (by omega)]
        have hc' : c = 0 := by omega
        refine ⟨k, out, by omega, rfl, hl, hdig, ?_, ?_⟩
        · rw [hc', List.take_of_length_le (by omega)] at hv; omega
        · intro m hm; exact hz m (by omega)
theorem mul_out (a b : List Int) (ha : Dig a) (hb : Dig b) (hla : a.length ≤ 20) (hlb : b.length ≤ 20) (d : Nat) : ∀ (k : Nat) (out : List Int) (i : Int), 0 ≤ i → i + d = (a.length : Int) → (out.length : Int) = a.length + b.length + 1 → Dig out → val out = val (a.take i.toNat) * val b → (∀ m : Int, i + b.length ≤ m → rd out m = 0) → 60 * d + 200 ≤ k →
    ∃ r, terraceref01_Mul.l0 k a b out i = some r ∧ Norm r ∧ val r = val a * val b ∧ r.length ≤ a.length + b.length + 1 := by
  induction d with
  | zero =>
    intro k out i h0 hd hl hdig hv hz hk
    obtain ⟨k, rfl⟩ : ∃ m, k = m + 1 := ⟨k - 1, by omega⟩
    simp only [terraceref01_Mul.l0]
    rw [if_neg (by omega)]
    obtain ⟨r, hr, hn, hrv, hrl⟩ := trim_f out hdig (by omega) (k := k) (by omega)
    rw [hr]; simp only [Option.bind_some]
    rw [List.take_of_length_le (by omega)] at hv
    exact ⟨r, rfl, hn, by omega, by omega⟩
  | succ d ih =>
    intro k out i h0 hd hl hdig hv hz hk
    obtain ⟨k, rfl⟩ : ∃ m, k = m + 1 := ⟨k - 1, by omega⟩
    simp only [terraceref01_Mul.l0]
    rw [if_pos (by omega)]
    obtain ⟨k', out', h2, h3, h4, h5, h6, h7⟩ := mul_in a b ha hb hla hlb i h0 (by omega) (val out) (b.length + 1) k out 0 0 (by omega) (by omega) (by omega) hl hdig (by omega) (by omega) (by omega) (by simp [val]) (by
      intro m hm; rw [if_neg (by omega)] at hm; exact hz m (by omega)) (by omega)
    rw [h3]
    refine ih k' out' (i + 1) (by omega) (by omega) h4 h5 ?_ (by intro m hm; exact h7 m (by omega)) (by omega)
    rw [h6, hv, val_take a i h0]
    unfold dg; rw [if_pos (by omega)]; grind
theorem val_replicate (n : Nat) : val (List.replicate n 0) = 0 := by
  induction n with
  | zero => rfl
  | succ n ih => rw [List.replicate_succ, val, ih]; rfl
theorem mul_f1 (a b : List Int) (ha : Norm a) (hb : Norm b) (hla : a.length ≤ 20) (hlb : b.length ≤ 20) {k : Nat} (hk : 1400 ≤ k) : ∃ r, terraceref01_Mul.f k a b = some r ∧ Norm r ∧ val r = val a * val b ∧ r.length ≤ a.length + b.length + 1 := by
  unfold terraceref01_Mul.f
  rw [w64 (n := (a.length : Int) + b.length) (by omega) (by omega), w64 (by omega) (by omega), if_pos (by omega), if_pos (by omega)]
  refine mul_out a b ha.1 hb.1 hla hlb a.length k _ 0 (by omega) (by omega) (by simp; omega) ?_ ?_ ?_ (by omega)
  · intro x hx
    have := List.eq_of_mem_replicate hx
    omega
  · rw [val_replicate]; simp [val]
  · intro m hm
    unfold rd
    rw [List.getD_eq_getElem?_getD, List.getElem?_replicate]
    split <;> rfl
theorem norm_small : Norm [1] ∧ Norm [0, 0, 1] := by
  constructor
  · exact ⟨Dig.one (by omega), .inr (by decide)⟩
  · refine ⟨fun x hx => ?_, .inr (by decide)⟩
    simp at hx; omega
theorem up_f (a : List Int) (ha : Norm a) (hl : a.length ≤ 12) {k : Nat} (hk : 1400 ≤ k) : ∃ r, terraceref01_Up.f k a = some r ∧ Norm r ∧ val r = val a * 4294967296 ∧ r.length ≤ a.length + 4 := by
  unfold terraceref01_Up.f
  obtain ⟨r, hr, hn, hv, hl2⟩ := mul_f1 a [0, 0, 1] ha norm_small.2 (by omega) (by decide) hk
  have e : val [0, 0, 1] = 4294967296 := by simp [val]
  exact ⟨r, bs hr rfl, hn, by rw [hv, e], hl2⟩
def U (a : Int) : Prop := 0 ≤ a ∧ a ≤ 18446744073709551615
theorem U_lit {a : Int} (h : 0 ≤ a ∧ a ≤ 18446744073709551615) : U a := h
theorem prodcmp (n b : Int) (hn : U n) (hb : U b) (u : List Int) (hu : Norm u) (hl : u.length ≤ 20) {k : Nat} (hk : 1400 ≤ k) : ∃ la lb lp c, terraceref01_Of.f k n = some la ∧ terraceref01_Of.f k b = some lb ∧ terraceref01_Mul.f k la lb = some lp ∧ terraceref01_Cmp.f k lp u = some c ∧ (c ≤ 0 ↔ n * b ≤ val u) := by
  obtain ⟨la, h1, n1, v1, l1⟩ := of_f n hn (k := k) (by omega)
  obtain ⟨lb, h2, n2, v2, l2⟩ := of_f b hb (k := k) (by omega)
  obtain ⟨p, h3, n3, v3, l3⟩ := mul_f1 la lb n1 n2 (by omega) (by omega) (k := k) (by omega)
  obtain ⟨c, h4, c1, c2⟩ := cmp_f p u n3 hu (by omega) (by omega) (k := k) (by omega)
  refine ⟨la, lb, p, c, h1, h2, h3, h4, ?_⟩
  rw [v1, v2] at v3
  rw [← v3]; omega
theorem refdiv_l (b A : Int) (hb : U b) (u : List Int) (hu : Norm u) (hl : u.length ≤ 20) (hv : val u = A) : ∀ (d k : Nat) (r : Int), d ≤ 64 → d + 1500 < k → 0 ≤ r → r + 2 ^ d ≤ 18446744073709551616 → r * b ≤ A → (r + 2 ^ d = 18446744073709551616 ∨ A < (r + 2 ^ d) * b) → ∃ q, terraceref03_Div.l0 k b u r ((d : Int) - 1) = some q ∧ 0 ≤ q ∧ q ≤ 18446744073709551615 ∧ q * b ≤ A ∧ (q = 18446744073709551615 ∨ A < (q + 1) * b)
  | 0, k, r, hd, hk, h0, hr, h1, h2 => by
    obtain ⟨k, rfl⟩ : ∃ m, k = m + 1 := ⟨k - 1, by omega⟩
    have e1 : (2 : Int) ^ 0 = 1 := rfl
    rw [e1] at hr h2
    refine ⟨r, ?_, h0, by omega, h1, ?_⟩
    · simp only [terraceref03_Div.l0]
      rw [if_neg (by omega)]
    · rcases h2 with h2 | h2
      · left; omega
      · exact .inr h2
  | d + 1, k, r, hd, hk, h0, hr, h1, h2 => by
    obtain ⟨k, rfl⟩ : ∃ m, k = m + 1 := ⟨k - 1, by omega⟩
    have hP : (0 : Int) < 2 ^ d := Int.pow_pos (by omega)
    obtain ⟨P, hPe⟩ : ∃ P : Int, 2 ^ d = P := ⟨_, rfl⟩
    have e2 : (2 : Int) ^ (d + 1) = 2 * P := by rw [Int.pow_succ, hPe]; omega
    rw [e2] at hr h2
    rw [hPe] at hP
    have hs : shl .u64 1 (((d + 1 : Nat) : Int) - 1) = P := by
      rw [shl_u 1 _ (by omega) (by omega), show (((d + 1 : Nat) : Int) - 1).toNat = d from by omega, hPe]; omega
    have hj : IntKind.u64.wrap (r + P) = r + P := by rw [wu]; omega
    have hn : U (r + P) := by unfold U; omega
    obtain ⟨la, lb, lp, c, g1, g2, g3, g5, g4⟩ := prodcmp (r + P) b hn hb u hu hl (k := k) (by omega)
    simp only [terraceref03_Div.l0]
    rw [if_pos (by omega), if_pos (by omega), hs, hj, g1, Option.bind_some, g2, Option.bind_some, g3, Option.bind_some, g5, Option.bind_some, w64 (by omega) (by omega)]
    have ed : (((d + 1 : Nat) : Int) - 1 - 1) = (d : Int) - 1 := by omega
    rw [ed]
    rw [hv] at g4
    by_cases hc : (r + P) * b ≤ A
    · rw [if_pos (g4.2 hc)]
      exact refdiv_l b A hb u hu hl hv d k (r + P) (by omega) (by omega) (by omega) (by rw [hPe]; omega) hc (by rw [hPe, show r + P + P = r + 2 * P from by omega]; exact h2)
    · rw [if_neg (fun h => hc (g4.1 h))]
      exact refdiv_l b A hb u hu hl hv d k r (by omega) (by omega) h0 (by rw [hPe]; omega) h1 (by rw [hPe]; right; omega)
theorem refdiv_f (a b : Int) (ha : U a) (hb : U b) {k : Nat} (hk : 1600 ≤ k) : terraceref03_Div.f k a b = some (divv a b) := by
  obtain ⟨la, h1, n1, v1, l1⟩ := of_f a ha (k := k) (by omega)
  obtain ⟨u, h2, n2, v2, l2⟩ := up_f la n1 (by omega) (k := k) (by omega)
  have a0 := ha.1
  have b0 := hb.1
  obtain ⟨q, h3, q0, q1, q2, q3⟩ := refdiv_l b (a * 4294967296) hb u n2 (by omega) (by rw [v2, v1]) 64 k 0 (by omega) (by omega) (by omega) (by decide) (by omega) (.inl (by decide))
  unfold terraceref03_Div.f
  refine bs h1 (bs h2 ?_)
  rw [show divv a b = q from ?_]
  · exact h3
  · unfold divv
    by_cases h : b ≤ a / 4294967296
    · rw [if_pos h]
      rcases q3 with q3 | q3
      · exact q3.symm
      · have : (q + 1) * b ≤ 18446744073709551616 * b := Int.mul_le_mul_of_nonneg_right (by omega) b0
        omega
    · rw [if_neg h]
      have hb0 : 0 < b := by omega
      apply Int.le_antisymm
      · have : a * 4294967296 / b < q + 1 := by
          rcases q3 with q3 | q3
          · exact Int.ediv_lt_of_lt_mul hb0 (by rw [q3]; omega)
          · exact Int.ediv_lt_of_lt_mul hb0 q3
        omega
      · exact Int.le_ediv_of_mul_le hb0 q2
theorem SuppressWaits : terracelaw17_SuppressWaits.Pure := by
  intro a most n h0 h1 h2
  have ra := wf_u64 h0
  have rm := wf_i64 h1
  have rn := wf_i64 h2
  refine ⟨3000, ?_⟩
  unfold terracelaw17_SuppressWaits.f
  refine bs (wait_f a most n ra.1 (by omega)) ?_
  by_cases hr : right a most n
  rotate_left
  · rw [if_neg hr]
    have key : ∀ c, c = true → terracelaw17_SuppressWaits.j0 3000 a most n 0 11 c = some true := by
      rintro c rfl
      rw [show (3000 : Nat) = 2999 + 1 from rfl]
      simp only [terracelaw17_SuppressWaits.j0]
      rw [if_pos trivial, if_pos trivial, if_pos trivial]
      exact bs (awake17_k (by omega)) rfl
    dsimp only
    by_cases c1 : a = 0
    · rw [if_pos c1]; exact key _ rfl
    rw [if_neg c1]
    by_cases c2 : a > 4294967296
    · rw [if_pos c2]; exact key _ rfl
    rw [if_neg c2]
    by_cases c3 : most < 0
    · rw [if_pos c3]; exact key _ rfl
    rw [if_neg c3]
    by_cases c4 : most > 1048576
    · rw [if_pos c4]; exact key _ rfl
    rw [if_neg c4]
    by_cases c5 : n < 2
    · rw [if_pos c5]; exact key _ rfl
    rw [if_neg c5]
    exact key _ (by unfold right at hr; simp; omega)
  rw [if_pos hr]
  obtain ⟨qa, qm, qn⟩ := hr
  dsimp only
  rw [if_neg (by omega), if_neg (by omega), if_neg (by omega), if_neg (by omega), if_neg (by omega), show (3000 : Nat) = 2999 + 1 from rfl]
  simp only [terracelaw17_SuppressWaits.j0]
  rw [if_neg (by simp; omega), if_pos trivial]
  have hw := wait_range a most n qa qm qn
  have hx := negv_le a qa.1 qa.2
  have hl := part_ge n qn
  have hp := part_range n qn
  have hn2 := negv_le (4294967296 / n) (by omega) (by omega)
  have va := v_range a qa.1 (by omega)
  have vn := v_range (4294967296 / n) (by omega) (by omega)
  have e : terraceref17_Wait.f 2999 a most n = some (waitv a most n) := by
    unfold terraceref17_Wait.f
    refine bs (rlog_f a qa.1 (by omega)) ?_
    rw [u64 (n := n) (by omega) (by omega), u64 (n := n * 4294967296) (by omega) (by omega)]
    refine bs (refdiv_f 4294967296 (n * 4294967296) (U_lit (by omega)) (U_lit (by omega)) (by omega)) ?_
    have e1 : divv 4294967296 (n * 4294967296) = 4294967296 / n := by
      unfold divv; rw [if_neg (by omega), show (4294967296 : Int) * 4294967296 = 4294967296 * 4294967296 from rfl]
      exact Int.mul_ediv_mul_of_pos_left _ _ (by omega)
    rw [e1]
    refine bs (rlog_f _ (by omega) (by omega)) ?_
    rw [w64 (n := -logs_Log.v a) (by omega) (by omega), u64 (n := -logs_Log.v a) (by omega) (by omega), u64 (n := -logs_Log.v a * 65536) (by omega) (by omega)]
    rw [w64 (n := -logs_Log.v (4294967296 / n)) (by omega) (by omega), u64 (n := -logs_Log.v (4294967296 / n)) (by omega) (by omega), u64 (n := -logs_Log.v (4294967296 / n) * 65536) (by omega) (by omega)]
    rw [← hx.1, show -logs_Log.v (4294967296 / n) * 65536 = part n from hn2.1.symm]
    unfold waitv
    by_cases c7 : negv a ≥ part n
    · rw [if_pos c7, if_pos c7]
    rw [if_neg c7, if_neg c7]
    obtain ⟨d0, d1, d2⟩ := wait_d a n qa qn c7
    refine bs (refdiv_f _ _ (U_lit (by omega)) (U_lit (by omega)) (by omega)) ?_
    rw [d0]
    generalize negv a * 4294967296 / part n = d at *
    have h3 : 0 ≤ (4294967296 - d) * most := Int.mul_nonneg (by omega) qm.1
    have h4 : (4294967296 - d) * most ≤ 4294967296 * 1048576 := Int.mul_le_mul (by omega) qm.2 qm.1 (by omega)
    rw [u64 (n := 4294967296 - d) (by omega) (by omega), u64 (n := most) (by omega) (by omega), u64 (n := (4294967296 - d) * most) (by omega) (by omega), Int.tdiv_eq_ediv_of_nonneg h3, u64 (n := (4294967296 - d) * most / 4294967296) (by omega) (by omega), w64 (by omega) (by omega)]
  refine bs e ?_
  rw [if_pos rfl, if_pos hw.1, if_pos hw.2]
  exact bs (awake17_k (by omega)) rfl

end Go.Proofs.Ytejminfpgnlpkaa.Pure
