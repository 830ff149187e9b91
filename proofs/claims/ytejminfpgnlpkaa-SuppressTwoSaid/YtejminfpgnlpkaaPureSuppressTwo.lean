/- Proved: of two receivers of one round, who hear each other at once, at least one fires, and each one fires or is hushed by the other one, once (for every input that the statement's guards let in; the Go function returns true and leaves its arguments as they were). -/
import Derived.Test.YtejminfpgnlpkaaPSuppressTwox5
set_option linter.unusedVariables false
set_option linter.unusedSimpArgs false
namespace Go.Proofs.Ytejminfpgnlpkaa.Pure
open Go.RowKit Go.Proofs.Ytejminfpgnlpkaa.PSuppressTwo Go.Proofs.YtejminfpgnlpkaaW.PrintWords Go.Proofs.YtejminfpgnlpkaaW.PrintLast Go.Proofs.YtejminfpgnlpkaaW.PrintMore

theorem wf_u8 {a : Int} (h : (Lit.int .u8 a).wf = true) : 0 ≤ a ∧ a ≤ 255 := by
  simpa [Lit.wf, IntKind.min, IntKind.max, IntKind.signed, IntKind.bits] using h
theorem wf_u16 {a : Int} (h : (Lit.int .u16 a).wf = true) : 0 ≤ a ∧ a ≤ 65535 := by
  simpa [Lit.wf, IntKind.min, IntKind.max, IntKind.signed, IntKind.bits] using h
theorem wf_u32 {a : Int} (h : (Lit.int .u32 a).wf = true) : 0 ≤ a ∧ a ≤ 4294967295 := by
  simpa [Lit.wf, IntKind.min, IntKind.max, IntKind.signed, IntKind.bits] using h
theorem wf_u64 {a : Int} (h : (Lit.int .u64 a).wf = true) : 0 ≤ a ∧ a ≤ 18446744073709551615 := by
  simpa [Lit.wf, IntKind.min, IntKind.max, IntKind.signed, IntKind.bits] using h
theorem wf_i64 {a : Int} (h : (Lit.int .i64 a).wf = true) : -9223372036854775808 ≤ a ∧ a ≤ 9223372036854775807 := by
  simpa [Lit.wf, IntKind.min, IntKind.max, IntKind.signed, IntKind.bits] using h
theorem w64 {n : Int} (h : -9223372036854775808 ≤ n) (h' : n ≤ 9223372036854775807) : wrap64 n = n := by
  unfold wrap64; omega
theorem fuel {k n : Nat} (h : n < k) : ∃ m, k = m + 1 ∧ n ≤ m := ⟨k - 1, by omega, by omega⟩
theorem u64 {n : Int} (h : 0 ≤ n) (h' : n ≤ 18446744073709551615) : IntKind.u64.wrap n = n := by
  simp only [IntKind.wrap, IntKind.bits, IntKind.signed]; simp; omega
theorem wu (n : Int) : IntKind.u64.wrap n = n % 18446744073709551616 := by
  simp [IntKind.wrap, IntKind.bits, IntKind.signed]
theorem wraps_u64 (n : Int) (h0 : 0 ≤ n) (h1 : n < 2 ^ 64) : IntKind.u64.wrap n = n := by rw [wu]; omega
theorem and32 (x : Int) (h0 : 0 ≤ x) (h1 : x < 18446744073709551616) : Go.bits .and .u64 x 4294967295 = x % 4294967296 :=
  bits_mask .u64 64 (by decide) wraps_u64 32 (by decide) x h0 h1
theorem or_join (i : Nat) (x y : Int) (h0 : 0 ≤ x) (h1 : x % 2 ^ i = 0) (h2 : x < 18446744073709551616) (h3 : 0 ≤ y) (h4 : y < 2 ^ i) (h5 : y < 18446744073709551616) : Go.bits .or .u64 x y = x + y :=
  bits_join .u64 64 (by decide) wraps_u64 i x y h0 h1 h2 h3 h4 h5
theorem shl_u (x y : Int) (h0 : 0 ≤ y) (h1 : y ≤ 64) : shl .u64 x y = (x * 2 ^ y.toNat) % 18446744073709551616 := by
  unfold shl; rw [wu, show min y.toNat (IntKind.bits .u64) = y.toNat from Nat.min_eq_left (by simp [IntKind.bits]; omega)]
theorem shr_u (x y : Int) (h0 : 0 ≤ y) (h1 : y ≤ 64) : shr .u64 x y = x / 2 ^ y.toNat := by
  unfold shr; rw [show min y.toNat (IntKind.bits .u64) = y.toNat from Nat.min_eq_left (by simp [IntKind.bits]; omega)]
/-- one call behind another (no unfolding: the kernel need not look into what is called) -/
theorem bs {α β : Type} {x : Option α} {f : α → Option β} {a : α} {r : Option β} (h : x = some a) (h2 : f a = r) : x.bind f = r := by
  subst h; exact h2
/-- One digit of a long division by a number of 64 bits whose highest bit is set. -/
theorem digit_ok (q rhat yn1 yn0 un un1 : Int) (hy1 : 2147483648 ≤ yn1) (hy1' : yn1 ≤ 4294967295) (h0 : 0 ≤ yn0 ∧ yn0 ≤ 4294967295) (h1 : 0 ≤ un1 ∧ un1 ≤ 4294967295) (hu : 0 ≤ un) (hlt : un < yn1 * 4294967296 + yn0)
    (hq : q * yn1 + rhat = un) (hr : 0 ≤ rhat) (hge : un * 4294967296 + un1 < (q + 1) * (yn1 * 4294967296 + yn0)) (hle : q * yn0 ≤ 4294967296 * rhat + un1) :
    (un * 4294967296 + un1) / (yn1 * 4294967296 + yn0) = q := by
  have e1 : q * (yn1 * 4294967296 + yn0) ≤ un * 4294967296 + un1 := by
    have : q * (yn1 * 4294967296 + yn0) = (q * yn1) * 4294967296 + q * yn0 := by grind
    omega
  have hp : 0 < yn1 * 4294967296 + yn0 := by omega
  apply Int.le_antisymm
  · have := Int.ediv_lt_of_lt_mul hp hge
    omega
  · exact Int.le_ediv_of_mul_le hp e1
theorem q1_le (un yn1 yn0 : Int) (hy1 : 2147483648 ≤ yn1) (hy1' : yn1 ≤ 4294967295) (h0 : 0 ≤ yn0 ∧ yn0 ≤ 4294967295) (hu : 0 ≤ un) (hlt : un < yn1 * 4294967296 + yn0) : 0 ≤ un / yn1 ∧ un / yn1 ≤ 4294967297 := by
  refine ⟨Int.ediv_nonneg hu (by omega), ?_⟩
  have : un / yn1 < 4294967298 := Int.ediv_lt_of_lt_mul (by omega) (by omega)
  omega
/-- the estimate is not too small -/
theorem q_ge (q yn1 yn0 un un1 rhat : Int) (hy1 : 2147483648 ≤ yn1) (h0 : 0 ≤ yn0) (h1 : un1 ≤ 4294967295) (hq : q * yn1 + rhat = un) (hr : rhat < yn1) (hq0 : 0 ≤ q) :
    un * 4294967296 + un1 < (q + 1) * (yn1 * 4294967296 + yn0) := by
  have e : (q + 1) * (yn1 * 4294967296 + yn0) = (q * yn1) * 4294967296 + yn1 * 4294967296 + (q + 1) * yn0 := by grind
  have : 0 ≤ (q + 1) * yn0 := Int.mul_nonneg (by omega) h0
  omega
/-- one step down -/
theorem q_down (q yn1 yn0 un un1 rhat : Int) (hy1 : 2147483648 ≤ yn1) (h0 : 0 ≤ yn0 ∧ yn0 ≤ 4294967295) (h1 : 0 ≤ un1 ∧ un1 ≤ 4294967295) (hu : 0 ≤ un) (hlt : un < yn1 * 4294967296 + yn0) (hq : q * yn1 + rhat = un) (hd : q ≥ 4294967296 ∨ q * yn0 > 4294967296 * rhat + un1) :
    un * 4294967296 + un1 < (q - 1 + 1) * (yn1 * 4294967296 + yn0) ∧ (q - 1) * yn1 + (rhat + yn1) = un := by
  constructor
  · rw [Int.sub_add_cancel]
    rcases hd with hd | hd
    · have := Int.mul_le_mul_of_nonneg_right hd (show 0 ≤ yn1 * 4294967296 + yn0 by omega)
      omega
    · have : q * (yn1 * 4294967296 + yn0) = (q * yn1) * 4294967296 + q * yn0 := by grind
      omega
  · have : (q - 1) * yn1 = q * yn1 - yn1 := by grind
    omega
theorem mul_range (q y : Int) (hq : 0 ≤ q) (hq' : q ≤ 4294967297) (hy : 0 ≤ y) (hy' : y ≤ 4294967295) : 0 ≤ q * y ∧ q * y ≤ 18446744073709551615 := by
  refine ⟨Int.mul_nonneg hq hy, ?_⟩
  have := Int.mul_le_mul hq' hy' hy (by omega : (0 : Int) ≤ 4294967297)
  omega
/-- the first digit's loop: what it goes on with -/
theorem loop0 (s yn1 yn0 un un1 un0 : Int) (hy1 : 2147483648 ≤ yn1) (hy1' : yn1 ≤ 4294967295) (h0 : 0 ≤ yn0 ∧ yn0 ≤ 4294967295) (h1 : 0 ≤ un1 ∧ un1 ≤ 4294967295) (hu : 0 ≤ un) (hlt : un < yn1 * 4294967296 + yn0) (d : Nat) :
    ∀ (k : Nat) (q rhat : Int), 2 * d + 4 ≤ k → 0 ≤ q → q ≤ 4294967297 → q * yn1 + rhat = un → 0 ≤ rhat → rhat < 4294967296 → 4294967296 ≤ rhat + d * 2147483648 → un * 4294967296 + un1 < (q + 1) * (yn1 * 4294967296 + yn0) →
    ∃ k', k ≤ k' + 2 * d + 4 ∧ bits_Div64.l0 k (yn1 * 4294967296 + yn0) s yn1 yn0 un un1 un0 q rhat = bits_Div64.j2 k' (yn1 * 4294967296 + yn0) s yn1 yn0 un un1 un0 ((un * 4294967296 + un1) / (yn1 * 4294967296 + yn0)) := by
  induction d with
  | zero => intro k q rhat _ _ _ _ _ h2 h3; omega
  | succ d ih =>
    intro k q rhat hk hq0 hq1 hq hr hr1 hrd hge
    obtain ⟨k, rfl⟩ : ∃ m, k = m + 2 := ⟨k - 2, by omega⟩
    have hm := mul_range q yn0 hq0 hq1 h0.1 h0.2
    have hw : IntKind.u64.wrap (IntKind.u64.wrap (4294967296 * rhat) + un1) = 4294967296 * rhat + un1 := by rw [wu, wu]; omega
    have hw2 : IntKind.u64.wrap (q * yn0) = q * yn0 := by rw [wu]; omega
    have key : ∀ b, b = decide (q ≥ 4294967296 ∨ q * yn0 > 4294967296 * rhat + un1) →
        ∃ k', k + 2 ≤ k' + 2 * (d + 1) + 4 ∧ bits_Div64.j1 (k + 1) (yn1 * 4294967296 + yn0) s yn1 yn0 un un1 un0 q rhat b = bits_Div64.j2 k' (yn1 * 4294967296 + yn0) s yn1 yn0 un un1 un0 ((un * 4294967296 + un1) / (yn1 * 4294967296 + yn0)) := by
      intro b hb
      simp only [bits_Div64.j1]
      by_cases hd : q ≥ 4294967296 ∨ q * yn0 > 4294967296 * rhat + un1
      · rw [hb, if_pos (by simpa using hd)]
        obtain ⟨hg2, hq2⟩ := q_down q yn1 yn0 un un1 rhat hy1 h0 h1 hu hlt hq hd
        have hqp : 1 ≤ q := by
          rcases hd with hd | hd
          · omega
          · by_cases hz : q = 0
            · subst hz; omega
            · omega
        have hw3 : IntKind.u64.wrap (rhat + yn1) = rhat + yn1 := by rw [wu]; omega
        have hw4 : IntKind.u64.wrap (q - 1) = q - 1 := by rw [wu]; omega
        rw [hw3, hw4]
        by_cases hb2 : rhat + yn1 ≥ 4294967296
        · rw [if_pos hb2]
          have hm2 := mul_range (q - 1) yn0 (by omega) (by omega) h0.1 h0.2
          have hm3 : (q - 1) * yn0 ≤ 4294967296 * 4294967295 := Int.mul_le_mul (by omega) h0.2 h0.1 (by omega)
          have := digit_ok (q - 1) (rhat + yn1) yn1 yn0 un un1 hy1 hy1' h0 h1 hu hlt hq2 (by omega) hg2 (by omega)
          rw [this]
          exact ⟨k, by omega, rfl⟩
        · rw [if_neg hb2]
          obtain ⟨k', e1, e2⟩ := ih k (q - 1) (rhat + yn1) (by omega) (by omega) (by omega) hq2 (by omega) (by omega) (by omega) hg2
          exact ⟨k', by omega, e2⟩
      · rw [hb, if_neg (by simpa using hd)]
        have := digit_ok q rhat yn1 yn0 un un1 hy1 hy1' h0 h1 hu hlt hq hr hge (by omega)
        rw [this]
        exact ⟨k, by omega, rfl⟩
    simp only [bits_Div64.l0]
    by_cases hc : q ≥ 4294967296
    · rw [if_pos hc]; exact key true (by simp [hc])
    · rw [if_neg hc, hw, hw2]; exact key _ (by simp [hc])
/-- the second digit's loop -/
theorem loop1 (s yn1 yn0 un un1 q1 : Int) (hs : 0 ≤ s) (hy1 : 2147483648 ≤ yn1) (hy1' : yn1 ≤ 4294967295) (h0 : 0 ≤ yn0 ∧ yn0 ≤ 4294967295) (h1 : 0 ≤ un1 ∧ un1 ≤ 4294967295) (hu : 0 ≤ un) (hlt : un < yn1 * 4294967296 + yn0) (d : Nat) :
    ∀ (k : Nat) (q rhat : Int), 2 * d + 4 ≤ k → 0 ≤ q → q ≤ 4294967297 → q * yn1 + rhat = un → 0 ≤ rhat → rhat < 4294967296 → 4294967296 ≤ rhat + d * 2147483648 → un * 4294967296 + un1 < (q + 1) * (yn1 * 4294967296 + yn0) →
    ∃ r, bits_Div64.l1 k (yn1 * 4294967296 + yn0) s yn1 yn0 un1 q1 rhat un q = some (IntKind.u64.wrap ((IntKind.u64.wrap (q1 * 4294967296)) + ((un * 4294967296 + un1) / (yn1 * 4294967296 + yn0))), r) := by
  induction d with
  | zero => intro k q rhat _ _ _ _ _ h2 h3; omega
  | succ d ih =>
    intro k q rhat hk hq0 hq1 hq hr hr1 hrd hge
    obtain ⟨k, rfl⟩ : ∃ m, k = m + 2 := ⟨k - 2, by omega⟩
    have hm := mul_range q yn0 hq0 hq1 h0.1 h0.2
    have hw : IntKind.u64.wrap (IntKind.u64.wrap (4294967296 * rhat) + un1) = 4294967296 * rhat + un1 := by rw [wu, wu]; omega
    have hw2 : IntKind.u64.wrap (q * yn0) = q * yn0 := by rw [wu]; omega
    have key : ∀ b, b = decide (q ≥ 4294967296 ∨ q * yn0 > 4294967296 * rhat + un1) →
        ∃ r, bits_Div64.j4 (k + 1) (yn1 * 4294967296 + yn0) s yn1 yn0 un1 q1 rhat un q b = some (IntKind.u64.wrap ((IntKind.u64.wrap (q1 * 4294967296)) + ((un * 4294967296 + un1) / (yn1 * 4294967296 + yn0))), r) := by
      intro b hb
      simp only [bits_Div64.j4]
      by_cases hd : q ≥ 4294967296 ∨ q * yn0 > 4294967296 * rhat + un1
      · rw [hb, if_pos (by simpa using hd)]
        obtain ⟨hg2, hq2⟩ := q_down q yn1 yn0 un un1 rhat hy1 h0 h1 hu hlt hq hd
        have hqp : 1 ≤ q := by
          rcases hd with hd | hd
          · omega
          · by_cases hz : q = 0
            · subst hz; omega
            · omega
        have hw3 : IntKind.u64.wrap (rhat + yn1) = rhat + yn1 := by rw [wu]; omega
        have hw4 : IntKind.u64.wrap (q - 1) = q - 1 := by rw [wu]; omega
        rw [hw3, hw4]
        by_cases hb2 : rhat + yn1 ≥ 4294967296
        · rw [if_pos hb2, if_pos hs]
          have hm2 := mul_range (q - 1) yn0 (by omega) (by omega) h0.1 h0.2
          have hm3 : (q - 1) * yn0 ≤ 4294967296 * 4294967295 := Int.mul_le_mul (by omega) h0.2 h0.1 (by omega)
          have := digit_ok (q - 1) (rhat + yn1) yn1 yn0 un un1 hy1 hy1' h0 h1 hu hlt hq2 (by omega) hg2 (by omega)
          rw [this]
          exact ⟨_, rfl⟩
        · rw [if_neg hb2]
          exact ih k (q - 1) (rhat + yn1) (by omega) (by omega) (by omega) hq2 (by omega) (by omega) (by omega) hg2
      · rw [hb, if_neg (by simpa using hd), if_pos hs]
        have := digit_ok q rhat yn1 yn0 un un1 hy1 hy1' h0 h1 hu hlt hq hr hge (by omega)
        rw [this]
        exact ⟨_, rfl⟩
    simp only [bits_Div64.l1]
    by_cases hc : q ≥ 4294967296
    · rw [if_pos hc]; exact key true (by simp [hc])
    · rw [if_neg hc, hw, hw2]; exact key _ (by simp [hc])
theorem start_ok (un yn1 : Int) (hy1 : 2147483648 ≤ yn1) (hy1' : yn1 ≤ 4294967295) (hu : 0 ≤ un) (hu' : un ≤ 18446744073709551615) (hq : 0 ≤ un / yn1 ∧ un / yn1 ≤ 4294967297) :
    IntKind.u64.wrap (Int.tdiv un yn1) = un / yn1 ∧ IntKind.u64.wrap (un - IntKind.u64.wrap (un / yn1 * yn1)) = un % yn1 ∧ un / yn1 * yn1 + un % yn1 = un ∧ 0 ≤ un % yn1 ∧ un % yn1 < yn1 := by
  have e := Int.mul_ediv_add_emod un yn1
  rw [Int.mul_comm] at e
  have h1 := Int.emod_nonneg un (show yn1 ≠ 0 by omega)
  have h2 := Int.emod_lt_of_pos un (show 0 < yn1 by omega)
  rw [Int.tdiv_eq_ediv_of_nonneg hu]
  refine ⟨by rw [wu]; omega, ?_, e, h1, h2⟩
  have h3 : 0 ≤ un / yn1 * yn1 := Int.mul_nonneg hq.1 (by omega)
  rw [wu, wu]; omega
/-- both digits -/
theorem div_two (s y un un1 un0 : Int) (hs : 0 ≤ s) (hy : 9223372036854775808 ≤ y) (hy' : y ≤ 18446744073709551615) (h1 : 0 ≤ un1 ∧ un1 ≤ 4294967295) (h0 : 0 ≤ un0 ∧ un0 ≤ 4294967295) (hu : 0 ≤ un) (hlt : un < y) {k : Nat} (hk : 40 ≤ k) :
    ∃ r, bits_Div64.l0 k y s (y / 4294967296) (y % 4294967296) un un1 un0 (IntKind.u64.wrap (Int.tdiv un (y / 4294967296))) (IntKind.u64.wrap (un - IntKind.u64.wrap (IntKind.u64.wrap (Int.tdiv un (y / 4294967296)) * (y / 4294967296)))) = some ((un * 18446744073709551616 + un1 * 4294967296 + un0) / y, r) := by
  obtain ⟨yn1, hyn1⟩ : ∃ v, y / 4294967296 = v := ⟨_, rfl⟩
  obtain ⟨yn0, hyn0⟩ : ∃ v, y % 4294967296 = v := ⟨_, rfl⟩
  have ey : y = yn1 * 4294967296 + yn0 := by omega
  rw [hyn1, hyn0]
  have b1 : 2147483648 ≤ yn1 := by omega
  have b2 : yn1 ≤ 4294967295 := by omega
  have b3 : 0 ≤ yn0 ∧ yn0 ≤ 4294967295 := by omega
  rw [ey] at hlt ⊢
  have hq := q1_le un yn1 yn0 b1 b2 b3 hu hlt
  obtain ⟨s1, s2, s3, s4, s5⟩ := start_ok un yn1 b1 b2 hu (by omega) hq
  rw [s1, s2]
  obtain ⟨k', hk', e⟩ := loop0 s yn1 yn0 un un1 un0 b1 b2 b3 h1 hu hlt 2 k (un / yn1) (un % yn1) (by omega) hq.1 hq.2 s3 s4 (by omega) (by omega) (q_ge _ _ _ _ _ _ b1 b3.1 h1.2 s3 s5 hq.1)
  rw [e]
  obtain ⟨k', rfl⟩ : ∃ m, k' = m + 1 := ⟨k' - 1, by omega⟩
  have hp : 0 < yn1 * 4294967296 + yn0 := by omega
  obtain ⟨Q1, hQ1⟩ : ∃ v, (un * 4294967296 + un1) / (yn1 * 4294967296 + yn0) = v := ⟨_, rfl⟩
  obtain ⟨V, hV⟩ : ∃ v, (un * 4294967296 + un1) % (yn1 * 4294967296 + yn0) = v := ⟨_, rfl⟩
  have eN := Int.mul_ediv_add_emod (un * 4294967296 + un1) (yn1 * 4294967296 + yn0)
  have v0 := Int.emod_nonneg (un * 4294967296 + un1) (show yn1 * 4294967296 + yn0 ≠ 0 by omega)
  have v1 := Int.emod_lt_of_pos (un * 4294967296 + un1) hp
  rw [hQ1, hV] at eN
  rw [hV] at v0 v1
  rw [Int.mul_comm] at eN
  have hQ0 : 0 ≤ Q1 := by rw [← hQ1]; exact Int.ediv_nonneg (by omega) (by omega)
  have hQm : Q1 ≤ 4294967295 := by
    have : (un * 4294967296 + un1) / (yn1 * 4294967296 + yn0) < 4294967296 := Int.ediv_lt_of_lt_mul hp (by omega)
    omega
  rw [hQ1]
  simp only [bits_Div64.j2]
  rw [if_neg (by omega)]
  have hun : IntKind.u64.wrap (IntKind.u64.wrap (IntKind.u64.wrap (un * 4294967296) + un1) - IntKind.u64.wrap (Q1 * (yn1 * 4294967296 + yn0))) = V := by
    have : 0 ≤ Q1 * (yn1 * 4294967296 + yn0) := Int.mul_nonneg hQ0 (by omega)
    generalize Q1 * (yn1 * 4294967296 + yn0) = p at *
    rw [wu, wu, wu, wu]; omega
  rw [hun]
  have hq' := q1_le V yn1 yn0 b1 b2 b3 v0 v1
  obtain ⟨z1, z2, z3, z4, z5⟩ := start_ok V yn1 b1 b2 v0 (by omega) hq'
  rw [z1, z2]
  obtain ⟨r, hr⟩ := loop1 s yn1 yn0 V un0 Q1 hs b1 b2 b3 h0 v0 v1 2 k' (V / yn1) (V % yn1) (by omega) hq'.1 hq'.2 z3 z4 (by omega) (by omega) (q_ge _ _ _ _ _ _ b1 b3.1 h0.2 z3 z5 hq'.1)
  refine ⟨r, ?_⟩
  rw [hr]
  have hQ2 : 0 ≤ (V * 4294967296 + un0) / (yn1 * 4294967296 + yn0) := Int.ediv_nonneg (by omega) (by omega)
  have hQ3 : (V * 4294967296 + un0) / (yn1 * 4294967296 + yn0) < 4294967296 := Int.ediv_lt_of_lt_mul hp (by omega)
  have hfin : (un * 18446744073709551616 + un1 * 4294967296 + un0) / (yn1 * 4294967296 + yn0) = Q1 * 4294967296 + (V * 4294967296 + un0) / (yn1 * 4294967296 + yn0) := by
    have : un * 18446744073709551616 + un1 * 4294967296 + un0 = (V * 4294967296 + un0) + (yn1 * 4294967296 + yn0) * (Q1 * 4294967296) := by
      have : (yn1 * 4294967296 + yn0) * (Q1 * 4294967296) = Q1 * (yn1 * 4294967296 + yn0) * 4294967296 := by grind
      omega
    rw [this, Int.add_mul_ediv_left _ _ (by omega)]; omega
  rw [hfin, wu, wu]
  congr 2
  omega
def divv (a b : Int) : Int := if b ≤ a / 4294967296 then 18446744073709551615 else a * 4294967296 / b
theorem bl_spec : ∀ (f x : Nat), x < 2 ^ f → x ≠ 0 → 1 ≤ Lib.bitLenAux f x ∧ 2 ^ (Lib.bitLenAux f x - 1) ≤ x ∧ x < 2 ^ Lib.bitLenAux f x
  | 0, x, h, h0 => by omega
  | f + 1, x, h, h0 => by
    simp only [Lib.bitLenAux]
    rw [if_neg h0]
    by_cases hz : x / 2 = 0
    · have : x = 1 := by omega
      subst this
      cases f with
      | zero => simp [Lib.bitLenAux]
      | succ f => simp [Lib.bitLenAux]
    · obtain ⟨h1, h2, h3⟩ := bl_spec f (x / 2) (by rw [Nat.pow_succ] at h; omega) hz
      generalize Lib.bitLenAux f (x / 2) = m at *
      obtain ⟨m, rfl⟩ : ∃ j, m = j + 1 := ⟨m - 1, by omega⟩
      refine ⟨by omega, ?_, ?_⟩
      · rw [show 1 + (m + 1) - 1 = m + 1 from by omega, Nat.pow_succ]
        rw [Nat.add_sub_cancel] at h2; omega
      · rw [show 1 + (m + 1) = (m + 1) + 1 from by omega, Nat.pow_succ]; omega
theorem div64_f (hi lo y : Int) (h0 : 0 ≤ hi) (h1 : hi < y) (hl : 0 ≤ lo ∧ lo ≤ 18446744073709551615) (hy : y ≤ 18446744073709551615) {k : Nat} (hk : 40 ≤ k) :
    ∃ r, bits_Div64.f k hi lo y = some ((hi * 18446744073709551616 + lo) / y, r) := by
  unfold bits_Div64.f
  rw [if_neg (by omega), if_neg (by omega)]
  by_cases hz : hi = 0
  · rw [if_pos hz, hz]
    refine ⟨Int.tmod lo y, ?_⟩
    rw [Int.tdiv_eq_ediv_of_nonneg hl.1, wu]
    have a1 : 0 ≤ lo / y := Int.ediv_nonneg hl.1 (by omega)
    have a2 : lo / y ≤ lo := Int.ediv_le_self _ hl.1
    rw [show lo / y % 18446744073709551616 = lo / y from by omega]; simp
  · rw [if_neg hz]
    obtain ⟨b1, b2, b3⟩ := bl_spec 64 y.toNat (by omega) (by omega)
    have b4 : Lib.bitLen y.toNat ≤ 64 := Lib.bitLen_le y.toNat 64 (by omega) (by omega)
    change 1 ≤ Lib.bitLen y.toNat at b1
    change 2 ^ (Lib.bitLen y.toNat - 1) ≤ y.toNat at b2
    change y.toNat < 2 ^ Lib.bitLen y.toNat at b3
    have hlz : bits_LeadingZeros64.f y = some (64 - (Lib.bitLen y.toNat : Int)) := by
      unfold bits_LeadingZeros64.f
      rw [if_pos (by omega), if_pos hy]
    rw [hlz]
    generalize Lib.bitLen y.toNat = L at *
    clear hlz
    simp only [Option.bind_some]
    obtain ⟨s, hs⟩ : ∃ s : Nat, s = 64 - L := ⟨_, rfl⟩
    have hw : IntKind.u64.wrap (64 - (L : Int)) = (s : Int) := by rw [wu]; omega
    have hw2 : IntKind.u64.wrap (64 - (s : Int)) = (L : Int) := by rw [wu]; omega
    rw [hw, hw2, if_pos (by omega), if_pos (by omega)]
    rw [shl_u y s (by omega) (by omega), shl_u hi s (by omega) (by omega), shl_u lo s (by omega) (by omega), shr_u lo L (by omega) (by omega)]
    rw [Int.toNat_natCast, Int.toNat_natCast]
    have hP : (0 : Int) < 2 ^ s := Int.pow_pos (by omega)
    have hLs : (2 : Int) ^ L * 2 ^ s = 18446744073709551616 := by
      rw [← Int.pow_add, show L + s = 64 from by omega]; rfl
    have hLs1 : (2 : Int) ^ (L - 1) * 2 ^ s = 9223372036854775808 := by
      rw [← Int.pow_add, show L - 1 + s = 63 from by omega]; rfl
    have hPs : (2 : Int) ^ s < 18446744073709551616 := by
      have h1 : (0 : Int) < 2 ^ (L - 1) := Int.pow_pos (by omega)
      have := Int.mul_le_mul_of_nonneg_right (show (1 : Int) ≤ 2 ^ (L - 1) by omega) (show (0 : Int) ≤ 2 ^ s by omega)
      omega
    have y1 : y < 2 ^ L := by
      have : (y.toNat : Int) < ((2 ^ L : Nat) : Int) := by exact_mod_cast b3
      have e : ((2 ^ L : Nat) : Int) = 2 ^ L := by simp
      omega
    have y0 : 2 ^ (L - 1) ≤ y := by
      have : ((2 ^ (L - 1) : Nat) : Int) ≤ (y.toNat : Int) := by exact_mod_cast b2
      have e : ((2 ^ (L - 1) : Nat) : Int) = 2 ^ (L - 1) := by simp
      omega
    have z1 : y * 2 ^ s < 18446744073709551616 := by rw [← hLs]; exact Int.mul_lt_mul_of_pos_right y1 hP
    have z0 : 9223372036854775808 ≤ y * 2 ^ s := by rw [← hLs1]; exact Int.mul_le_mul_of_nonneg_right y0 (by omega)
    have x1 : (hi + 1) * 2 ^ s ≤ y * 2 ^ s := Int.mul_le_mul_of_nonneg_right (by omega) (by omega)
    have x2 : (hi + 1) * 2 ^ s = hi * 2 ^ s + 2 ^ s := by grind
    have x3 : 0 ≤ hi * 2 ^ s := Int.mul_nonneg h0 (by omega)
    have hLp : (0 : Int) < 2 ^ L := Int.pow_pos (by omega)
    have l1 : 0 ≤ lo / 2 ^ L := Int.ediv_nonneg hl.1 (by omega)
    have l2 : lo / 2 ^ L < 2 ^ s := Int.ediv_lt_of_lt_mul hLp (by rw [Int.mul_comm, hLs]; omega)
    have hm : hi * 2 ^ s % 2 ^ s = 0 := Int.mul_emod_left _ _
    have ll : lo * 2 ^ s / 18446744073709551616 = lo / 2 ^ L := by
      rw [← hLs]; exact Int.mul_ediv_mul_of_pos_left _ _ hP
    have ly : y * 2 ^ s % 18446744073709551616 = y * 2 ^ s := by omega
    have lh : hi * 2 ^ s % 18446744073709551616 = hi * 2 ^ s := by omega
    rw [ly, lh, or_join s (hi * 2 ^ s) (lo / 2 ^ L) x3 hm (by omega) l1 l2 (by omega), and32 (y * 2 ^ s) (by omega) z1, and32 _ (by omega) (by omega)]
    rw [if_neg (by omega)]
    have hun : hi * 2 ^ s + lo / 2 ^ L < y * 2 ^ s := by omega
    obtain ⟨r, hr⟩ := div_two s (y * 2 ^ s) (hi * 2 ^ s + lo / 2 ^ L) (lo * 2 ^ s % 18446744073709551616 / 4294967296) (lo * 2 ^ s % 18446744073709551616 % 4294967296) (by omega) z0 (by omega) (by omega) (by omega) (by omega) hun hk
    refine ⟨r, ?_⟩
    rw [hr]
    congr 2
    have hx : (hi * 2 ^ s + lo / 2 ^ L) * 18446744073709551616 + lo * 2 ^ s % 18446744073709551616 / 4294967296 * 4294967296 + lo * 2 ^ s % 18446744073709551616 % 4294967296 = (hi * 18446744073709551616 + lo) * 2 ^ s := by
      have e1 : (hi * 18446744073709551616 + lo) * 2 ^ s = hi * 2 ^ s * 18446744073709551616 + lo * 2 ^ s := by grind
      omega
    rw [hx]
    exact Int.mul_ediv_mul_of_pos_left _ _ hP
theorem quot_f (a b : Int) (ha : 0 ≤ a ∧ a ≤ 18446744073709551615) (hb : 0 ≤ b ∧ b ≤ 18446744073709551615) {k : Nat} (hk : 40 ≤ k) : fix_quotient.f k a b = some (divv a b) := by
  unfold fix_quotient.f divv
  split
  · rfl
  · rw [wu]
    obtain ⟨r, hr⟩ := div64_f (a / 4294967296) (a * 4294967296 % 18446744073709551616) b (by omega) (by omega) (by omega) hb.2 hk
    rw [hr]
    simp only [Option.bind_some]
    congr 2; omega
theorem divv_range (a b : Int) (ha : 0 ≤ a ∧ a ≤ 18446744073709551615) (hb : 0 ≤ b) : 0 ≤ divv a b ∧ divv a b ≤ 18446744073709551615 := by
  unfold divv
  split
  · omega
  · refine ⟨Int.ediv_nonneg (by omega) hb, ?_⟩
    have : a * 4294967296 / b < 18446744073709551616 := Int.ediv_lt_of_lt_mul (by omega) (by omega)
    omega
theorem log_bl (x : Nat) (h0 : x ≠ 0) (h1 : x < 2 ^ 64) : 1 ≤ Lib.bitLen x ∧ 2 ^ (Lib.bitLen x - 1) ≤ x ∧ x < 2 ^ Lib.bitLen x := bl_spec 64 x h1 h0
/-- of a number above 0: how many halvings, and it doubled till its highest bit is the 63th -/
theorem log_parts (a : Int) (h0 : 1 ≤ a) (h1 : a ≤ 18446744073709551615) : ∃ e : Nat, e ≤ 63 ∧ logs_Log.L a = e + 1 ∧ 2 ^ e ≤ a ∧ a < 2 ^ (e + 1) ∧ logs_Log.m a = a * 2 ^ (63 - e) ∧ 9223372036854775808 ≤ logs_Log.m a ∧ logs_Log.m a ≤ 18446744073709551615 := by
  obtain ⟨x, rfl⟩ := Int.eq_ofNat_of_zero_le (show 0 ≤ a by omega)
  obtain ⟨b1, b2, b3⟩ := log_bl x (by omega) (by omega)
  have b4 : Lib.bitLen x ≤ 64 := Lib.bitLen_le x 64 (by omega) (by omega)
  obtain ⟨e, he⟩ : ∃ e, Lib.bitLen x = e + 1 := ⟨Lib.bitLen x - 1, by omega⟩
  rw [he, Nat.add_sub_cancel] at b2
  rw [he] at b3
  have hL : logs_Log.L (x : Int) = e + 1 := by unfold logs_Log.L; rw [Int.toNat_natCast, he]; omega
  have c2 : (2 : Int) ^ e ≤ x := by exact_mod_cast b2
  have c3 : (x : Int) < 2 ^ (e + 1) := by exact_mod_cast b3
  have hp : (0 : Int) < 2 ^ (63 - e) := Int.pow_pos (by omega)
  have d1 : (2 : Int) ^ e * 2 ^ (63 - e) = 9223372036854775808 := by rw [← Int.pow_add, show e + (63 - e) = 63 by omega]; decide
  have d2 : (2 : Int) ^ (e + 1) * 2 ^ (63 - e) = 18446744073709551616 := by rw [← Int.pow_add, show e + 1 + (63 - e) = 64 by omega]; decide
  have g1 : 9223372036854775808 ≤ (x : Int) * 2 ^ (63 - e) := by rw [← d1]; exact Int.mul_le_mul_of_nonneg_right c2 (by omega)
  have g2 : (x : Int) * 2 ^ (63 - e) < 18446744073709551616 := by rw [← d2]; exact Int.mul_lt_mul_of_pos_right c3 hp
  have hm : logs_Log.m (x : Int) = x * 2 ^ (63 - e) := by
    unfold logs_Log.m
    rw [hL, show (63 - ((e : Int) + 1 - 1)).toNat = 63 - e by omega, u64 (by omega) (by omega)]
  exact ⟨e, by omega, hL, c2, c3, hm, by rw [hm]; exact g1, by rw [hm]; omega⟩
theorem tb_le (k : Nat) (hk : k < 16) : logs_Shelf_Table.tb k ≤ logs_Shelf_Table.tb (k + 1) := logs_Log.tb_le k hk
theorem tb_mono (j : Nat) : ∀ k, k + j ≤ 16 → logs_Shelf_Table.tb k ≤ logs_Shelf_Table.tb (k + j) := by
  induction j with
  | zero => intro k _; exact Int.le_refl _
  | succ j ih => intro k h; exact Int.le_trans (ih k (by omega)) (tb_le (k + j) (by omega))
/-- the part behind the point -/
def frac (m : Int) : Int := logs_Shelf_Table.tb (m / 576460752303423488 % 16).toNat + (logs_Shelf_Table.tb ((m / 576460752303423488 % 16).toNat + 1) - logs_Shelf_Table.tb (m / 576460752303423488 % 16).toNat) * (m / 2147483648 % 268435456) / 268435456
theorem v_eq (a : Int) : logs_Log.v a = (logs_Log.L a - 33) * 65536 + frac (logs_Log.m a) := by
  unfold logs_Log.v logs_Log.r logs_Log.i frac; omega
theorem frac_range (m : Int) (h0 : 9223372036854775808 ≤ m) (h1 : m ≤ 18446744073709551615) : logs_Shelf_Table.tb (m / 576460752303423488 % 16).toNat ≤ frac m ∧ frac m ≤ logs_Shelf_Table.tb ((m / 576460752303423488 % 16).toNat + 1) := by
  unfold frac
  have hi : (m / 576460752303423488 % 16).toNat < 16 := by omega
  generalize (m / 576460752303423488 % 16).toNat = i at *
  have hr : 0 ≤ m / 2147483648 % 268435456 ∧ m / 2147483648 % 268435456 ≤ 268435455 := by omega
  generalize m / 2147483648 % 268435456 = r at *
  have ht := tb_le i hi
  generalize logs_Shelf_Table.tb i = t0 at *
  generalize logs_Shelf_Table.tb (i + 1) = t1 at *
  have h2 : 0 ≤ (t1 - t0) * r := Int.mul_nonneg (by omega) hr.1
  have h3 : (t1 - t0) * r ≤ (t1 - t0) * 268435455 := Int.mul_le_mul_of_nonneg_left hr.2 (by omega)
  omega
theorem frac_le {m n : Int} (h0 : 9223372036854775808 ≤ m) (h1 : n ≤ 18446744073709551615) (h : m ≤ n) : frac m ≤ frac n := by
  have r1 := frac_range m h0 (by omega)
  have r2 := frac_range n (by omega) h1
  by_cases e : (m / 576460752303423488 % 16).toNat = (n / 576460752303423488 % 16).toNat
  · unfold frac
    rw [e]
    have hr : m / 2147483648 % 268435456 ≤ n / 2147483648 % 268435456 := by omega
    have ht := tb_le (n / 576460752303423488 % 16).toNat (by omega)
    have := Int.mul_le_mul_of_nonneg_left hr (show 0 ≤ logs_Shelf_Table.tb ((n / 576460752303423488 % 16).toNat + 1) - logs_Shelf_Table.tb (n / 576460752303423488 % 16).toNat by omega)
    omega
  · obtain ⟨j, hj⟩ : ∃ j, (n / 576460752303423488 % 16).toNat = (m / 576460752303423488 % 16).toNat + 1 + j := ⟨(n / 576460752303423488 % 16).toNat - ((m / 576460752303423488 % 16).toNat + 1), by omega⟩
    have := tb_mono j ((m / 576460752303423488 % 16).toNat + 1) (by omega)
    rw [hj] at r2
    omega
theorem tb_range (k : Nat) : 0 ≤ logs_Shelf_Table.tb k ∧ logs_Shelf_Table.tb k ≤ 65536 := logs_Shelf_Table.tab_range k
theorem v_range (a : Int) (h0 : 1 ≤ a) (h1 : a ≤ 18446744073709551615) : -2097152 ≤ logs_Log.v a ∧ logs_Log.v a ≤ 2097152 := by
  obtain ⟨e, he, hL, _, _, hm, g1, g2⟩ := log_parts a h0 h1
  rw [v_eq, hL]
  have r1 := frac_range _ g1 g2
  have t0 := tb_range (logs_Log.m a / 576460752303423488 % 16).toNat
  have t1 := tb_range ((logs_Log.m a / 576460752303423488 % 16).toNat + 1)
  omega
theorem v_le {a b : Int} (h0 : 1 ≤ a) (h1 : b ≤ 18446744073709551615) (h : a ≤ b) : logs_Log.v a ≤ logs_Log.v b := by
  obtain ⟨e, he, hL, p1, p2, hm, g1, g2⟩ := log_parts a h0 (by omega)
  obtain ⟨f, hf, hM, q1, q2, hn, k1, k2⟩ := log_parts b (by omega) h1
  rw [v_eq, v_eq, hL, hM]
  by_cases hef : e = f
  · subst hef
    have : logs_Log.m a ≤ logs_Log.m b := by rw [hm, hn]; exact Int.mul_le_mul_of_nonneg_right h (Int.le_of_lt (Int.pow_pos (by omega)))
    have := frac_le g1 k2 this
    omega
  · have hlt : e < f := by
      by_cases h2 : e < f
      · exact h2
      · have h3 : (2 : Int) ^ (f + 1) ≤ 2 ^ e := by exact_mod_cast Nat.pow_le_pow_right (by omega) (show f + 1 ≤ e by omega)
        omega
    have r1 := frac_range _ g1 g2
    have r2 := frac_range _ k1 k2
    have t0 := tb_range ((logs_Log.m a / 576460752303423488 % 16).toNat + 1)
    have t1 := tb_range (logs_Log.m b / 576460752303423488 % 16).toNat
    omega
theorem log_f (a : Int) (h0 : 1 ≤ a) (h1 : a ≤ 18446744073709551615) : logs_Log.f a = some (logs_Log.v a, true) := by
  obtain ⟨e, he, hL, _⟩ := log_parts a h0 h1
  unfold logs_Log.f
  rw [if_neg (by omega), if_pos (by rw [hL]; omega)]
def negv (a : Int) : Int := if logs_Log.v a ≥ 0 then 0 else (-logs_Log.v a) * 65536
theorem neg_f (a : Int) (h0 : 1 ≤ a) (h1 : a ≤ 18446744073709551615) {k : Nat} (hk : 60 ≤ k) : logs_Neg.f k a = some (negv a) := by
  unfold logs_Neg.f negv
  refine bs (log_f a h0 h1) ?_
  have hr := v_range a h0 h1
  rw [if_pos rfl]
  by_cases h : logs_Log.v a ≥ 0
  · rw [if_pos h, if_pos h]
  · rw [if_neg h, if_neg h, w64 (n := -logs_Log.v a) (by omega) (by omega), u64 (by omega) (by omega)]
    have e : fix_Ratio.f k (-logs_Log.v a) 65536 = some (divv (-logs_Log.v a) 65536) := by
      unfold fix_Ratio.f; exact bs (quot_f _ _ (by omega) (by omega) (by omega)) rfl
    refine bs e ?_
    congr 1
    unfold divv
    rw [if_neg (by omega)]; omega
theorem neg_ge {a b : Int} (h0 : 1 ≤ a) (h1 : b ≤ 18446744073709551615) (h : a ≤ b) : negv b ≤ negv a := by
  have := v_le h0 h1 h
  unfold negv; split <;> split <;> omega
theorem mul64_range (a b : Int) (ha : 0 ≤ a ∧ a ≤ 18446744073709551615) (hb : 0 ≤ b ∧ b ≤ 18446744073709551615) : 0 ≤ a * b ∧ a * b ≤ 340282366920938463426481119284349108225 := by
  refine ⟨Int.mul_nonneg ha.1 hb.1, ?_⟩
  have := Int.mul_le_mul ha.2 hb.2 hb.1 (by omega : (0 : Int) ≤ 18446744073709551615)
  omega
theorem shifted_f (p : Int) (h0 : 0 ≤ p) (h1 : p ≤ 340282366920938463426481119284349108225) : fix_shifted.f (p / 18446744073709551616) (p % 18446744073709551616) = some (if p / 79228162514264337593543950336 = 0 then p / 4294967296 else 18446744073709551615) := by
  unfold fix_shifted.f
  have e : p / 18446744073709551616 / 4294967296 = p / 79228162514264337593543950336 := by omega
  rw [e]
  by_cases h : p / 79228162514264337593543950336 = 0
  · rw [if_pos h, if_pos h, wu, or_join 32 _ _ (by omega) (by omega) (by omega) (by omega) (by omega) (by omega)]
    congr 1; omega
  · rw [if_neg h, if_neg h]
theorem mul64_f (a b : Int) (ha : 0 ≤ a ∧ a ≤ 18446744073709551615) (hb : 0 ≤ b ∧ b ≤ 18446744073709551615) : bits_Mul64.f a b = some (a * b / 18446744073709551616, a * b % 18446744073709551616) := by
  unfold bits_Mul64.f; rw [if_pos ⟨ha.1, ha.2, hb.1, hb.2⟩]
theorem awake17_k {k : Nat} (hk : 100 ≤ k) : terracelaw17_awake.f k = some true :=
  at_rounds (g := fun k => terracelaw17_awake.f k) (fun k => terracelaw17_awake.mono k) hk (by decide +kernel)
theorem v_one : logs_Log.v 4294967296 = 0 := by decide +kernel
theorem v_half : logs_Log.v 2147483648 = -65536 := by decide +kernel
theorem negv_le (a : Int) (h0 : 1 ≤ a) (h1 : a ≤ 4294967296) : negv a = (-logs_Log.v a) * 65536 ∧ 0 ≤ negv a ∧ negv a ≤ 137438953472 := by
  have h2 := v_le h0 (show (4294967296 : Int) ≤ 18446744073709551615 by omega) h1
  have h3 := v_range a h0 (by omega)
  rw [v_one] at h2
  unfold negv; split <;> omega
/-- the logarithm of one part of n -/
def part (n : Int) : Int := negv (4294967296 / n)
theorem part_range (n : Int) (h : 2 ≤ n ∧ n ≤ 65536) : 65536 ≤ 4294967296 / n ∧ 4294967296 / n ≤ 2147483648 := by
  refine ⟨Int.le_ediv_of_mul_le (by omega) (by omega), ?_⟩
  have : 4294967296 / n < 2147483649 := Int.ediv_lt_of_lt_mul (by omega) (by omega)
  omega
theorem part_ge (n : Int) (h : 2 ≤ n ∧ n ≤ 65536) : 4294967296 ≤ part n ∧ part n ≤ 137438953472 := by
  have hp := part_range n h
  obtain ⟨h1, h2, h3⟩ := negv_le (4294967296 / n) (by omega) (by omega)
  have h4 := v_le (show 1 ≤ 4294967296 / n by omega) (show (2147483648 : Int) ≤ 18446744073709551615 by omega) hp.2
  rw [v_half] at h4
  unfold part
  omega
def waitv (a most n : Int) : Int := if negv a ≥ part n then 0 else (4294967296 - negv a * 4294967296 / part n) * most / 4294967296
theorem wait_d (a n : Int) (ha : 1 ≤ a ∧ a ≤ 4294967296) (hn : 2 ≤ n ∧ n ≤ 65536) (h : ¬ negv a ≥ part n) : divv (negv a) (part n) = negv a * 4294967296 / part n ∧ 0 ≤ negv a * 4294967296 / part n ∧ negv a * 4294967296 / part n < 4294967296 := by
  obtain ⟨_, h2, h3⟩ := negv_le a ha.1 ha.2
  have h4 := part_ge n hn
  refine ⟨by unfold divv; rw [if_neg (by omega)], Int.ediv_nonneg (by omega) (by omega), Int.ediv_lt_of_lt_mul (by omega) ?_⟩
  rw [Int.mul_comm]
  exact Int.mul_lt_mul_of_pos_left (by omega) (by omega)
theorem wait_range (a most n : Int) (ha : 1 ≤ a ∧ a ≤ 4294967296) (hm : 0 ≤ most ∧ most ≤ 1048576) (hn : 2 ≤ n ∧ n ≤ 65536) : 0 ≤ waitv a most n ∧ waitv a most n ≤ most := by
  unfold waitv
  split
  · omega
  · rename_i h
    obtain ⟨_, h1, h2⟩ := wait_d a n ha hn h
    have h3 : 0 ≤ (4294967296 - negv a * 4294967296 / part n) * most := Int.mul_nonneg (by omega) hm.1
    have h4 : (4294967296 - negv a * 4294967296 / part n) * most ≤ 4294967296 * most := Int.mul_le_mul_of_nonneg_right (by omega) hm.1
    omega
def right (a most n : Int) : Prop := (1 ≤ a ∧ a ≤ 4294967296) ∧ (0 ≤ most ∧ most ≤ 1048576) ∧ (2 ≤ n ∧ n ≤ 65536)
instance (a most n : Int) : Decidable (right a most n) := by unfold right; infer_instance
theorem wait_f (a most n : Int) (ha : 0 ≤ a) {k : Nat} (hk : 100 ≤ k) : suppress_Wait.f k a most n = some (if right a most n then (waitv a most n, 0) else (0, 11)) := by
  obtain ⟨k, rfl⟩ : ∃ m, k = m + 1 := ⟨k - 1, by omega⟩
  have bad : ∀ c, c = true → suppress_Wait.j0 (k + 1) a most n c = some (0, 11) := by
    rintro c rfl
    simp only [suppress_Wait.j0]; rw [if_pos trivial]
  unfold suppress_Wait.f
  by_cases c1 : a = 0
  · rw [if_pos c1, if_neg (fun h => by unfold right at h; omega)]; exact bad _ rfl
  rw [if_neg c1]
  by_cases c2 : a > 4294967296
  · rw [if_pos c2, if_neg (fun h => by unfold right at h; omega)]; exact bad _ rfl
  rw [if_neg c2]
  by_cases c3 : most < 0
  · rw [if_pos c3, if_neg (fun h => by unfold right at h; omega)]; exact bad _ rfl
  rw [if_neg c3]
  by_cases c4 : most > 1048576
  · rw [if_pos c4, if_neg (fun h => by unfold right at h; omega)]; exact bad _ rfl
  rw [if_neg c4]
  by_cases c5 : n < 2
  · rw [if_pos c5, if_neg (fun h => by unfold right at h; omega)]; exact bad _ rfl
  rw [if_neg c5]
  by_cases c6 : n > 65536
  · rw [if_neg (fun h => by unfold right at h; omega)]; exact bad _ (by simpa using c6)
  have hr : right a most n := by unfold right; omega
  rw [if_pos hr]
  obtain ⟨ra, rm, rn⟩ := hr
  simp only [suppress_Wait.j0]
  rw [if_neg (by simpa using c6), u64 (n := n) (by omega) (by omega), u64 (n := most) (by omega) (by omega)]
  refine bs (neg_f a ra.1 (by omega) (by omega)) ?_
  have hp := part_range n rn
  have e1 : fix_Ratio.f k 1 n = some (4294967296 / n) := by
    unfold fix_Ratio.f
    refine bs (quot_f 1 n (by omega) (by omega) (by omega)) ?_
    unfold divv; rw [if_neg (by omega)]; rfl
  refine bs e1 (bs (neg_f _ (by omega) (by omega) (by omega)) ?_)
  change (if negv a ≥ part n then _ else _) = _
  have hx := negv_le a ra.1 ra.2
  have hl := part_ge n rn
  unfold waitv
  by_cases c7 : negv a ≥ part n
  · rw [if_pos c7, if_pos c7]
  rw [if_neg c7, if_neg c7]
  obtain ⟨d0, d1, d2⟩ := wait_d a n ra rn c7
  have e2 : fix_F_Div.f k (negv a) (part n) = some (negv a * 4294967296 / part n) := by
    unfold fix_F_Div.f
    refine bs (quot_f _ _ (by omega) (by omega) (by omega)) ?_
    rw [d0]
  refine bs e2 ?_
  generalize negv a * 4294967296 / part n = d at *
  have e3 : fix_F_Sub.f 4294967296 d = some (4294967296 - d) := by
    unfold fix_F_Sub.f; rw [if_neg (by omega), u64 (by omega) (by omega)]
  refine bs e3 ?_
  have h3 : 0 ≤ (4294967296 - d) * most := Int.mul_nonneg (by omega) rm.1
  have h4 : (4294967296 - d) * most ≤ 4294967296 * 1048576 := Int.mul_le_mul (by omega) rm.2 rm.1 (by omega)
  have e4 : fix_F_Times.f (4294967296 - d) most = some ((4294967296 - d) * most / 4294967296) := by
    unfold fix_F_Times.f
    refine bs (mul64_f _ _ (by omega) (by omega)) ?_
    refine bs (shifted_f _ h3 (by omega)) ?_
    rw [if_pos (by omega)]
  refine bs e4 ?_
  rw [w64 (by omega) (by omega)]
theorem wait_le {a b most n : Int} (ha : 1 ≤ a) (hb : b ≤ 4294967296) (h : a ≤ b) (hm : 0 ≤ most ∧ most ≤ 1048576) (hn : 2 ≤ n ∧ n ≤ 65536) : waitv a most n ≤ waitv b most n := by
  have hx := neg_ge ha (show b ≤ 18446744073709551615 by omega) h
  have hb0 := wait_range b most n (by omega) hm hn
  by_cases c : negv a ≥ part n
  · have : waitv a most n = 0 := by unfold waitv; rw [if_pos c]
    omega
  · have c2 : ¬ negv b ≥ part n := by omega
    have hl := part_ge n hn
    unfold waitv
    rw [if_neg c, if_neg c2]
    have h1 : negv b * 4294967296 / part n ≤ negv a * 4294967296 / part n := Int.ediv_le_ediv (by omega) (by omega)
    have h2 : (4294967296 - negv a * 4294967296 / part n) * most ≤ (4294967296 - negv b * 4294967296 / part n) * most := Int.mul_le_mul_of_nonneg_right (by omega) hm.1
    omega
def okT (a : Int) : Prop := 0 ≤ a ∧ a ≤ 1099511627776
instance (a : Int) : Decidable (okT a) := by unfold okT; infer_instance
theorem time_f (a : Int) : suppress_time.f a = some (decide (okT a)) := by
  unfold suppress_time.f
  by_cases h : a ≥ 0
  · rw [if_pos h, show decide (a ≤ 1099511627776) = decide (okT a) from decide_eq_decide.mpr (by unfold okT; omega)]
  · rw [if_neg h, decide_eq_false (fun h2 : okT a => by unfold okT at h2; omega)]
theorem start_f (s0 s1 s2 : Int) (s3 : Bool) (a b c x : Int) {k : Nat} (hk : 2 ≤ k) :
    suppress_Round_Start.f k s0 s1 s2 s3 a b c x = some (if okT a ∧ okT b ∧ okT c then (if a ≤ s0 then (24, s0, s1, s2, s3) else (0, a, b + c, x, true)) else (11, s0, s1, s2, s3)) := by
  obtain ⟨k, rfl⟩ : ∃ m, k = m + 1 := ⟨k - 1, by omega⟩
  have bad : ∀ z, z = true → suppress_Round_Start.j0 (k + 1) a b c x z s0 s1 s2 s3 = some (11, s0, s1, s2, s3) := by
    rintro z rfl
    simp only [suppress_Round_Start.j0]; rw [if_pos trivial]
  unfold suppress_Round_Start.f
  refine bs (time_f a) ?_
  by_cases ha : okT a
  rotate_left
  · rw [if_neg (by simpa using ha), if_neg (fun h => ha h.1)]; exact bad _ rfl
  rw [if_pos (by simpa using ha)]
  refine bs (time_f b) ?_
  by_cases hb : okT b
  rotate_left
  · rw [if_neg (by simpa using hb), if_neg (fun h => hb h.2.1)]; exact bad _ rfl
  rw [if_pos (by simpa using hb)]
  refine bs (time_f c) ?_
  by_cases hc : okT c
  rotate_left
  · rw [if_neg (fun h => hc h.2.2)]; exact bad _ (by simpa using hc)
  rw [if_pos ⟨ha, hb, hc⟩]
  simp only [suppress_Round_Start.j0]
  rw [if_neg (by simpa using hc)]
  unfold okT at ha hb hc
  by_cases h : a ≤ s0
  · rw [if_pos h, if_pos h]
  · rw [if_neg h, if_neg h, w64 (by omega) (by omega)]
theorem fire_f (s0 s1 s2 : Int) (s3 : Bool) (a : Int) : suppress_Round_Fire.f s0 s1 s2 s3 a = some (if s3 = true ∧ s1 ≤ a then (true, s0, s1, s2, false) else (false, s0, s1, s2, s3)) := by
  unfold suppress_Round_Fire.f
  cases s3 with
  | false => rw [if_neg (by simp), if_neg (by simp)]
  | true =>
    rw [if_pos rfl]
    by_cases h : a < s1
    · rw [if_pos h, if_neg (by omega)]
    · rw [if_neg h, if_pos ⟨rfl, by omega⟩]
def low (x own : Int) : Prop := x - x / 8 ≤ own
instance (x own : Int) : Decidable (low x own) := by unfold low; infer_instance
theorem echo_f (s0 s1 s2 : Int) (s3 : Bool) (a x : Int) (hx : 0 ≤ x ∧ x ≤ 18446744073709551615) : suppress_Round_Echo.f s0 s1 s2 s3 a x = some (if s3 = true ∧ a = s0 ∧ low x s2 then (true, s0, s1, s2, false) else (false, s0, s1, s2, s3)) := by
  unfold suppress_Round_Echo.f
  cases s3 with
  | false => rw [if_neg (by simp), if_neg (by simp)]
  | true =>
    rw [if_pos rfl]
    by_cases h : a = s0
    · rw [if_pos h]
      have e1 : fix_F_Half.f x 3 = some (x / 8) := by
        unfold fix_F_Half.f; rw [show mx 3 0 = 3 by decide, shr_u _ _ (by omega) (by omega)]; rfl
      refine bs e1 ?_
      have e2 : fix_F_Sub.f x (x / 8) = some (x - x / 8) := by
        unfold fix_F_Sub.f; rw [if_neg (by omega), u64 (by omega) (by omega)]
      refine bs e2 ?_
      by_cases hl : low x s2
      · rw [if_neg (by unfold low at hl; omega), if_pos ⟨rfl, h, hl⟩]
      · rw [if_pos (by unfold low at hl; omega), if_neg (fun z => hl z.2.2)]
    · rw [if_neg h, if_neg (fun z => h z.2.1)]
def Inv (v w t f h : Int) (br bs : Bool) : Prop := (br = true ∧ bs = true ∧ f = 0 ∧ h = 0 ∧ t ≤ v ∧ t ≤ w) ∨ (br = false ∧ bs = true ∧ f = 1 ∧ h = 0 ∧ t ≤ w) ∨ (br = true ∧ bs = false ∧ f = 1 ∧ h = 0 ∧ t ≤ v) ∨ (br = false ∧ bs = false ∧ 1 ≤ f ∧ f ≤ 2 ∧ h = 2 - f)
theorem two_l (a b X Y most n v w : Int) (hX : 0 ≤ X ∧ X ≤ 18446744073709551615) (hY : 0 ≤ Y ∧ Y ≤ 18446744073709551615) (hm : 0 ≤ most ∧ most ≤ 5000) (hv : 0 ≤ v ∧ v ≤ most) (hw : 0 ≤ w ∧ w ≤ most) (d : Nat) :
    ∀ (k : Nat) (f h t : Int) (br bs_ : Bool), Inv v w t f h br bs_ → 0 ≤ t → t + d = most + 1 → d + d + 300 < k →
    terracelaw17_SuppressTwo.l0 k f h (most + 1) t a b X Y most n 1 v X br 1 w Y bs_ = some true := by
  induction d with
  | zero =>
    intro k f h t br bs_ hI h0 h1 hk
    obtain ⟨k, rfl, _⟩ := fuel hk
    simp only [terracelaw17_SuppressTwo.l0]
    rw [if_neg (by omega)]
    have hc : 1 ≤ f ∧ f ≤ 2 ∧ h = 2 - f := by
      rcases hI with ⟨_, _, _, _, _, _⟩ | ⟨_, _, _, _, _⟩ | ⟨_, _, _, _, _⟩ | ⟨_, _, h1, h2, h3⟩
      · omega
      · omega
      · omega
      · exact ⟨h1, h2, h3⟩
    rw [if_pos hc.1, w64 (by omega) (by omega), if_pos (by omega)]
    exact bs (awake17_k (by omega)) rfl
  | succ d ih =>
    intro k f h t br bs_ hI h0 h1 hk
    obtain ⟨k, rfl⟩ : ∃ m, k = m + 1 + 1 := ⟨k - 2, by omega⟩
    simp only [terracelaw17_SuppressTwo.l0]
    rw [if_pos (by omega)]
    refine bs (fire_f 1 v X br t) (bs (fire_f 1 w Y bs_ t) ?_)
    have next : ∀ f h br bs_, Inv v w (t + 1) f h br bs_ → terracelaw17_SuppressTwo.l0 k f h (most + 1) (t + 1) a b X Y most n 1 v X br 1 w Y bs_ = some true := fun f h br bs_ hI => ih k f h (t + 1) br bs_ hI (by omega) (by omega) (by omega)
    have w1 : wrap64 (t + 1) = t + 1 := w64 (by omega) (by omega)
    rcases hI with ⟨rfl, rfl, rfl, rfl, hv1, hw1⟩ | ⟨rfl, rfl, rfl, rfl, hw1⟩ | ⟨rfl, rfl, rfl, rfl, hv1⟩ | ⟨rfl, rfl, hf1, hf2, rfl⟩
    · by_cases g1 : v ≤ t
      · rw [if_pos (show true = true ∧ v ≤ t from ⟨rfl, g1⟩)]
        by_cases g2 : w ≤ t
        · rw [if_pos (show true = true ∧ w ≤ t from ⟨rfl, g2⟩)]
          refine bs (rfl : terracelaw17_bit.f true = some 1) (bs (rfl : terracelaw17_bit.f true = some 1) ?_)
          rw [if_pos rfl]
          refine bs (echo_f 1 w Y false 1 X hX) ?_
          rw [if_neg (by simp)]
          simp only [terracelaw17_SuppressTwo.j3]
          rw [if_neg (by simp), if_pos trivial]
          refine bs (echo_f 1 v X false 1 Y hY) ?_
          rw [if_neg (by simp), if_neg (by simp), w1]
          exact next _ _ _ _ (.inr (.inr (.inr ⟨rfl, rfl, by decide +kernel, by decide +kernel, by decide +kernel⟩)))
        · rw [if_neg (show ¬(true = true ∧ w ≤ t) from fun z => g2 z.2)]
          refine bs (rfl : terracelaw17_bit.f true = some 1) (bs (rfl : terracelaw17_bit.f false = some 0) ?_)
          rw [if_pos rfl]
          refine bs (echo_f 1 w Y true 1 X hX) ?_
          by_cases g3 : low X Y
          · rw [if_pos (show true = true ∧ (1 : Int) = 1 ∧ low X Y from ⟨rfl, rfl, g3⟩)]
            simp only [terracelaw17_SuppressTwo.j3]
            rw [if_pos trivial, if_neg (by simp), w1]
            exact next _ _ _ _ (.inr (.inr (.inr ⟨rfl, rfl, by decide +kernel, by decide +kernel, by decide +kernel⟩)))
          · rw [if_neg (fun z => g3 z.2.2)]
            simp only [terracelaw17_SuppressTwo.j3]
            rw [if_neg (by simp), if_neg (by simp), w1]
            exact next _ _ _ _ (.inr (.inl ⟨rfl, rfl, by decide +kernel, rfl, by omega⟩))
      · rw [if_neg (show ¬(true = true ∧ v ≤ t) from fun z => g1 z.2)]
        by_cases g2 : w ≤ t
        · rw [if_pos (show true = true ∧ w ≤ t from ⟨rfl, g2⟩)]
          refine bs (rfl : terracelaw17_bit.f false = some 0) (bs (rfl : terracelaw17_bit.f true = some 1) ?_)
          rw [if_neg (by simp)]
          simp only [terracelaw17_SuppressTwo.j3]
          rw [if_neg (by simp), if_pos trivial]
          refine bs (echo_f 1 v X true 1 Y hY) ?_
          by_cases g3 : low Y X
          · rw [if_pos (show true = true ∧ (1 : Int) = 1 ∧ low Y X from ⟨rfl, rfl, g3⟩), if_pos rfl, w1]
            exact next _ _ _ _ (.inr (.inr (.inr ⟨rfl, rfl, by decide +kernel, by decide +kernel, by decide +kernel⟩)))
          · rw [if_neg (show ¬(true = true ∧ (1 : Int) = 1 ∧ low Y X) from fun z => g3 z.2.2), if_neg (by simp), w1]
            exact next _ _ _ _ (.inr (.inr (.inl ⟨rfl, rfl, by decide +kernel, rfl, by omega⟩)))
        · rw [if_neg (show ¬(true = true ∧ w ≤ t) from fun z => g2 z.2)]
          refine bs (rfl : terracelaw17_bit.f false = some 0) (bs (rfl : terracelaw17_bit.f false = some 0) ?_)
          rw [if_neg (by simp)]
          simp only [terracelaw17_SuppressTwo.j3]
          rw [if_neg (by simp), if_neg (by simp), w1]
          exact next _ _ _ _ (.inl ⟨rfl, rfl, by decide +kernel, rfl, by omega, by omega⟩)
    · rw [if_neg (show ¬(false = true ∧ v ≤ t) by simp)]
      by_cases g2 : w ≤ t
      · rw [if_pos (show true = true ∧ w ≤ t from ⟨rfl, g2⟩)]
        refine bs (rfl : terracelaw17_bit.f false = some 0) (bs (rfl : terracelaw17_bit.f true = some 1) ?_)
        rw [if_neg (by simp)]
        simp only [terracelaw17_SuppressTwo.j3]
        rw [if_neg (by simp), if_pos trivial]
        refine bs (echo_f 1 v X false 1 Y hY) ?_
        rw [if_neg (by simp), if_neg (by simp), w1]
        exact next _ _ _ _ (.inr (.inr (.inr ⟨rfl, rfl, by decide +kernel, by decide +kernel, by decide +kernel⟩)))
      · rw [if_neg (show ¬(true = true ∧ w ≤ t) from fun z => g2 z.2)]
        refine bs (rfl : terracelaw17_bit.f false = some 0) (bs (rfl : terracelaw17_bit.f false = some 0) ?_)
        rw [if_neg (by simp)]
        simp only [terracelaw17_SuppressTwo.j3]
        rw [if_neg (by simp), if_neg (by simp), w1]
        exact next _ _ _ _ (.inr (.inl ⟨rfl, rfl, by decide +kernel, rfl, by omega⟩))
    · rw [if_neg (show ¬(false = true ∧ w ≤ t) by simp)]
      by_cases g1 : v ≤ t
      · rw [if_pos (show true = true ∧ v ≤ t from ⟨rfl, g1⟩)]
        refine bs (rfl : terracelaw17_bit.f true = some 1) (bs (rfl : terracelaw17_bit.f false = some 0) ?_)
        rw [if_pos rfl]
        refine bs (echo_f 1 w Y false 1 X hX) ?_
        rw [if_neg (by simp)]
        simp only [terracelaw17_SuppressTwo.j3]
        rw [if_neg (by simp), if_neg (by simp), w1]
        exact next _ _ _ _ (.inr (.inr (.inr ⟨rfl, rfl, by decide +kernel, by decide +kernel, by decide +kernel⟩)))
      · rw [if_neg (show ¬(true = true ∧ v ≤ t) from fun z => g1 z.2)]
        refine bs (rfl : terracelaw17_bit.f false = some 0) (bs (rfl : terracelaw17_bit.f false = some 0) ?_)
        rw [if_neg (by simp)]
        simp only [terracelaw17_SuppressTwo.j3]
        rw [if_neg (by simp), if_neg (by simp), w1]
        exact next _ _ _ _ (.inr (.inr (.inl ⟨rfl, rfl, by decide +kernel, rfl, by omega⟩)))
    · rw [if_neg (show ¬(false = true ∧ v ≤ t) by simp), if_neg (show ¬(false = true ∧ w ≤ t) by simp)]
      refine bs (rfl : terracelaw17_bit.f false = some 0) (bs (rfl : terracelaw17_bit.f false = some 0) ?_)
      rw [if_neg (by simp)]
      simp only [terracelaw17_SuppressTwo.j3]
      rw [if_neg (by simp), if_neg (by simp), w1, w64 (n := 0 + 0) (by omega) (by omega), w64 (n := f + (0 + 0)) (by omega) (by omega)]
      exact next _ _ _ _ (.inr (.inr (.inr ⟨rfl, rfl, by omega, by omega, by omega⟩)))
theorem SuppressTwo : terracelaw17_SuppressTwo.Pure := by
  intro a b X Y most n h0 h1 h2 h3 h4 h5
  have ra := wf_u64 h0
  have rb := wf_u64 h1
  have rX := wf_u64 h2
  have rY := wf_u64 h3
  refine ⟨20000, ?_⟩
  have key : ∀ v w z s0 s1 s2 s3 t0 t1 t2 t3, z = true → terracelaw17_SuppressTwo.j0 20000 v w z a b X Y most n s0 s1 s2 s3 t0 t1 t2 t3 = some true := by
    rintro v w z s0 s1 s2 s3 t0 t1 t2 t3 rfl
    rw [show (20000 : Nat) = 19999 + 1 from rfl]
    simp only [terracelaw17_SuppressTwo.j0]
    rw [if_pos trivial]
    exact bs (awake17_k (by omega)) rfl
  unfold terracelaw17_SuppressTwo.f
  refine bs (wait_f a most n ra.1 (by omega)) (bs (wait_f b most n rb.1 (by omega)) ?_)
  refine bs (rfl : suppress_New.f = _) (bs (rfl : suppress_New.f = _) ?_)
  by_cases c1 : right a most n
  rotate_left
  · rw [if_neg c1, if_neg (by decide)]; exact key _ _ _ _ _ _ _ _ _ _ _ rfl
  rw [if_pos c1, if_pos rfl]
  by_cases c2 : right b most n
  rotate_left
  · rw [if_neg c2, if_neg (by decide)]; exact key _ _ _ _ _ _ _ _ _ _ _ rfl
  rw [if_pos c2, if_pos rfl]
  by_cases c3 : most > 5000
  · exact key _ _ _ _ _ _ _ _ _ _ _ (by simpa using c3)
  have hv := wait_range a most n c1.1 c1.2.1 c1.2.2
  have hw := wait_range b most n c2.1 c2.2.1 c2.2.2
  have hm := c1.2.1
  dsimp only
  generalize waitv a most n = v at *
  generalize waitv b most n = w at *
  rw [show (20000 : Nat) = 19998 + 1 + 1 from rfl]
  simp only [terracelaw17_SuppressTwo.j0]
  rw [if_neg (by simpa using c3)]
  refine bs (start_f (-1) 0 0 false 1 0 v X (by omega)) ?_
  rw [if_pos (show okT 1 ∧ okT 0 ∧ okT v by unfold okT; omega), if_neg (show ¬((1 : Int) ≤ -1) by decide), if_pos rfl]
  refine bs (start_f (-1) 0 0 false 1 0 w Y (by omega)) ?_
  rw [if_pos (show okT 1 ∧ okT 0 ∧ okT w by unfold okT; omega), if_neg (show ¬((1 : Int) ≤ -1) by decide)]
  simp only [terracelaw17_SuppressTwo.j1]
  rw [if_neg (by decide), w64 (by omega) (by omega), Int.zero_add, Int.zero_add]
  exact two_l a b X Y most n v w rX rY (by omega) hv hw (most + 1).toNat 19998 0 0 0 true true (.inl ⟨rfl, rfl, rfl, rfl, hv.1, hw.1⟩) (by omega) (by omega) (by omega)

end Go.Proofs.Ytejminfpgnlpkaa.Pure
