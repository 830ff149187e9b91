/- Proved: the mean, and the discounted one, are what the document says (for every input that the statement's guards let in; the Go function returns true and leaves its arguments as they were). -/
import Derived.Test.YtlfjcelippfanaaPHistoryMeansx7
set_option linter.unusedVariables false
set_option linter.unusedSimpArgs false
namespace Go.Proofs.Ytlfjcelippfanaa.Pure
open Go.RowKit Go.Proofs.Ytlfjcelippfanaa.PHistoryMeans Go.Proofs.YtlfjcelippfanaaW.PrintWords Go.Proofs.YtlfjcelippfanaaW.PrintLast Go.Proofs.YtlfjcelippfanaaW.PrintMore

def addv (a b : Int) : Int := if a + b > 18446744073709551615 then 18446744073709551615 else a + b
theorem add_f (a b : Int) (ha : 0 ≤ a ∧ a ≤ 18446744073709551615) (hb : 0 ≤ b ∧ b ≤ 18446744073709551615) : fix_F_Add.f a b = some (addv a b) := by
  unfold fix_F_Add.f addv addC addS
  by_cases h : a + b > 18446744073709551615
  · rw [if_neg (by omega), if_pos h]
  · rw [if_pos (by omega), if_neg h]; congr 1; omega
theorem addv_range (a b : Int) (ha : 0 ≤ a ∧ a ≤ 18446744073709551615) (hb : 0 ≤ b ∧ b ≤ 18446744073709551615) : 0 ≤ addv a b ∧ addv a b ≤ 18446744073709551615 := by
  unfold addv; split <;> omega
theorem wf_u8 {a : Int} (h : (Lit.int .u8 a).wf = true) : 0 ≤ a ∧ a ≤ 255 := by
  simpa [Lit.wf, IntKind.min, IntKind.max, IntKind.signed, IntKind.bits] using h
theorem wf_u16 {a : Int} (h : (Lit.int .u16 a).wf = true) : 0 ≤ a ∧ a ≤ 65535 := by
  simpa [Lit.wf, IntKind.min, IntKind.max, IntKind.signed, IntKind.bits] using h
theorem wf_u32 {a : Int} (h : (Lit.int .u32 a).wf = true) : 0 ≤ a ∧ a ≤ 4294967295 := by
  simpa [Lit.wf, IntKind.min, IntKind.max, IntKind.signed, IntKind.bits] using h
theorem wf_u64 {a : Int} (h : (Lit.int .u64 a).wf = true) : 0 ≤ a ∧ a ≤ 18446744073709551615 := by
  simpa [Lit.wf, IntKind.min, IntKind.max, IntKind.signed, IntKind.bits] using h
theorem wf_i64 {a : Int} (h : (Lit.int .i64 a).wf = true) : -9223372036854775808 ≤ a ∧ a ≤ 9223372036854775807 := by
  simpa [Lit.wf, IntKind.min, IntKind.max, IntKind.signed, IntKind.bits] using h
theorem w64 {n : Int} (h : -9223372036854775808 ≤ n) (h' : n ≤ 9223372036854775807) : wrap64 n = n := by
  unfold wrap64; omega
theorem fuel {k n : Nat} (h : n < k) : ∃ m, k = m + 1 ∧ n ≤ m := ⟨k - 1, by omega, by omega⟩
theorem u64 {n : Int} (h : 0 ≤ n) (h' : n ≤ 18446744073709551615) : IntKind.u64.wrap n = n := by
  simp only [IntKind.wrap, IntKind.bits, IntKind.signed]; simp; omega
theorem wu (n : Int) : IntKind.u64.wrap n = n % 18446744073709551616 := by
  simp [IntKind.wrap, IntKind.bits, IntKind.signed]
theorem wraps_u64 (n : Int) (h0 : 0 ≤ n) (h1 : n < 2 ^ 64) : IntKind.u64.wrap n = n := by rw [wu]; omega
theorem and32 (x : Int) (h0 : 0 ≤ x) (h1 : x < 18446744073709551616) : Go.bits .and .u64 x 4294967295 = x % 4294967296 :=
  bits_mask .u64 64 (by decide) wraps_u64 32 (by decide) x h0 h1
theorem or_join (i : Nat) (x y : Int) (h0 : 0 ≤ x) (h1 : x % 2 ^ i = 0) (h2 : x < 18446744073709551616) (h3 : 0 ≤ y) (h4 : y < 2 ^ i) (h5 : y < 18446744073709551616) : Go.bits .or .u64 x y = x + y :=
  bits_join .u64 64 (by decide) wraps_u64 i x y h0 h1 h2 h3 h4 h5
theorem shl_u (x y : Int) (h0 : 0 ≤ y) (h1 : y ≤ 64) : shl .u64 x y = (x * 2 ^ y.toNat) % 18446744073709551616 := by
  unfold shl; rw [wu, show min y.toNat (IntKind.bits .u64) = y.toNat from Nat.min_eq_left (by simp [IntKind.bits]; omega)]
theorem shr_u (x y : Int) (h0 : 0 ≤ y) (h1 : y ≤ 64) : shr .u64 x y = x / 2 ^ y.toNat := by
  unfold shr; rw [show min y.toNat (IntKind.bits .u64) = y.toNat from Nat.min_eq_left (by simp [IntKind.bits]; omega)]
/-- one call behind another (no unfolding: the kernel need not look into what is called) -/
theorem bs {α β : Type} {x : Option α} {f : α → Option β} {a : α} {r : Option β} (h : x = some a) (h2 : f a = r) : x.bind f = r := by
  subst h; exact h2
/-- One digit of a long division by a number of 64 bits whose highest bit is set. -/
theorem digit_ok (q rhat yn1 yn0 un un1 : Int) (hy1 : 2147483648 ≤ yn1) (hy1' : yn1 ≤ 4294967295) (h0 : 0 ≤ yn0 ∧ yn0 ≤ 4294967295) (h1 : 0 ≤ un1 ∧ un1 ≤ 4294967295) (hu : 0 ≤ un) (hlt : un < yn1 * 4294967296 + yn0)
    (hq : q * yn1 + rhat = un) (hr : 0 ≤ rhat) (hge : un * 4294967296 + un1 < (q + 1) * (yn1 * 4294967296 + yn0)) (hle : q * yn0 ≤ 4294967296 * rhat + un1) :
    (un * 4294967296 + un1) / (yn1 * 4294967296 + yn0) = q := by
  have e1 : q * (yn1 * 4294967296 + yn0) ≤ un * 4294967296 + un1 := by
    have : q * (yn1 * 4294967296 + yn0) = (q * yn1) * 4294967296 + q * yn0 := by grind
    omega
  have hp : 0 < yn1 * 4294967296 + yn0 := by omega
  apply Int.le_antisymm
  · have := Int.ediv_lt_of_lt_mul hp hge
    omega
  · exact Int.le_ediv_of_mul_le hp e1
theorem q1_le (un yn1 yn0 : Int) (hy1 : 2147483648 ≤ yn1) (hy1' : yn1 ≤ 4294967295) (h0 : 0 ≤ yn0 ∧ yn0 ≤ 4294967295) (hu : 0 ≤ un) (hlt : un < yn1 * 4294967296 + yn0) : 0 ≤ un / yn1 ∧ un / yn1 ≤ 4294967297 := by
  refine ⟨Int.ediv_nonneg hu (by omega), ?_⟩
  have : un / yn1 < 4294967298 := Int.ediv_lt_of_lt_mul (by omega) (by omega)
  omega
/-- the estimate is not too small -/
theorem q_ge (q yn1 yn0 un un1 rhat : Int) (hy1 : 2147483648 ≤ yn1) (h0 : 0 ≤ yn0) (h1 : un1 ≤ 4294967295) (hq : q * yn1 + rhat = un) (hr : rhat < yn1) (hq0 : 0 ≤ q) :
    un * 4294967296 + un1 < (q + 1) * (yn1 * 4294967296 + yn0) := by
  have e : (q + 1) * (yn1 * 4294967296 + yn0) = (q * yn1) * 4294967296 + yn1 * 4294967296 + (q + 1) * yn0 := by grind
  have : 0 ≤ (q + 1) * yn0 := Int.mul_nonneg (by omega) h0
  omega
/-- one step down -/
theorem q_down (q yn1 yn0 un un1 rhat : Int) (hy1 : 2147483648 ≤ yn1) (h0 : 0 ≤ yn0 ∧ yn0 ≤ 4294967295) (h1 : 0 ≤ un1 ∧ un1 ≤ 4294967295) (hu : 0 ≤ un) (hlt : un < yn1 * 4294967296 + yn0) (hq : q * yn1 + rhat = un) (hd : q ≥ 4294967296 ∨ q * yn0 > 4294967296 * rhat + un1) :
    un * 4294967296 + un1 < (q - 1 + 1) * (yn1 * 4294967296 + yn0) ∧ (q - 1) * yn1 + (rhat + yn1) = un := by
  constructor
  · rw [Int.sub_add_cancel]
    rcases hd with hd | hd
    · have := Int.mul_le_mul_of_nonneg_right hd (show 0 ≤ yn1 * 4294967296 + yn0 by omega)
      omega
    · have : q * (yn1 * 4294967296 + yn0) = (q * yn1) * 4294967296 + q * yn0 := by grind
      omega
  · have : (q - 1) * yn1 = q * yn1 - yn1 := by grind
    omega
theorem mul_range (q y : Int) (hq : 0 ≤ q) (hq' : q ≤ 4294967297) (hy : 0 ≤ y) (hy' : y ≤ 4294967295) : 0 ≤ q * y ∧ q * y ≤ 18446744073709551615 := by
  refine ⟨Int.mul_nonneg hq hy, ?_⟩
  have := Int.mul_le_mul hq' hy' hy (by omega : (0 : Int) ≤ 4294967297)
  omega
/-- the first digit's loop: what it goes on with -/
theorem loop0 (s yn1 yn0 un un1 un0 : Int) (hy1 : 2147483648 ≤ yn1) (hy1' : yn1 ≤ 4294967295) (h0 : 0 ≤ yn0 ∧ yn0 ≤ 4294967295) (h1 : 0 ≤ un1 ∧ un1 ≤ 4294967295) (hu : 0 ≤ un) (hlt : un < yn1 * 4294967296 + yn0) (d : Nat) :
    ∀ (k : Nat) (q rhat : Int), 2 * d + 4 ≤ k → 0 ≤ q → q ≤ 4294967297 → q * yn1 + rhat = un → 0 ≤ rhat → rhat < 4294967296 → 4294967296 ≤ rhat + d * 2147483648 → un * 4294967296 + un1 < (q + 1) * (yn1 * 4294967296 + yn0) →
    ∃ k', k ≤ k' + 2 * d + 4 ∧ bits_Div64.l0 k (yn1 * 4294967296 + yn0) s yn1 yn0 un un1 un0 q rhat = bits_Div64.j2 k' (yn1 * 4294967296 + yn0) s yn1 yn0 un un1 un0 ((un * 4294967296 + un1) / (yn1 * 4294967296 + yn0)) := by
  induction d with
  | zero => intro k q rhat _ _ _ _ _ h2 h3; omega
  | succ d ih =>
    intro k q rhat hk hq0 hq1 hq hr hr1 hrd hge
    obtain ⟨k, rfl⟩ : ∃ m, k = m + 2 := ⟨k - 2, by omega⟩
    have hm := mul_range q yn0 hq0 hq1 h0.1 h0.2
    have hw : IntKind.u64.wrap (IntKind.u64.wrap (4294967296 * rhat) + un1) = 4294967296 * rhat + un1 := by rw [wu, wu]; omega
    have hw2 : IntKind.u64.wrap (q * yn0) = q * yn0 := by rw [wu]; omega
    have key : ∀ b, b = decide (q ≥ 4294967296 ∨ q * yn0 > 4294967296 * rhat + un1) →
        ∃ k', k + 2 ≤ k' + 2 * (d + 1) + 4 ∧ bits_Div64.j1 (k + 1) (yn1 * 4294967296 + yn0) s yn1 yn0 un un1 un0 q rhat b = bits_Div64.j2 k' (yn1 * 4294967296 + yn0) s yn1 yn0 un un1 un0 ((un * 4294967296 + un1) / (yn1 * 4294967296 + yn0)) := by
      intro b hb
      simp only [bits_Div64.j1]
      by_cases hd : q ≥ 4294967296 ∨ q * yn0 > 4294967296 * rhat + un1
      · rw [hb, if_pos (by simpa using hd)]
        obtain ⟨hg2, hq2⟩ := q_down q yn1 yn0 un un1 rhat hy1 h0 h1 hu hlt hq hd
        have hqp : 1 ≤ q := by
          rcases hd with hd | hd
          · omega
          · by_cases hz : q = 0
            · subst hz; omega
            · omega
        have hw3 : IntKind.u64.wrap (rhat + yn1) = rhat + yn1 := by rw [wu]; omega
        have hw4 : IntKind.u64.wrap (q - 1) = q - 1 := by rw [wu]; omega
        rw [hw3, hw4]
        by_cases hb2 : rhat + yn1 ≥ 4294967296
        · rw [if_pos hb2]
          have hm2 := mul_range (q - 1) yn0 (by omega) (by omega) h0.1 h0.2
          have hm3 : (q - 1) * yn0 ≤ 4294967296 * 4294967295 := Int.mul_le_mul (by omega) h0.2 h0.1 (by omega)
          have := digit_ok (q - 1) (rhat + yn1) yn1 yn0 un un1 hy1 hy1' h0 h1 hu hlt hq2 (by omega) hg2 (by omega)
          rw [this]
          exact ⟨k, by omega, rfl⟩
        · rw [if_neg hb2]
          obtain ⟨k', e1, e2⟩ := ih k (q - 1) (rhat + yn1) (by omega) (by omega) (by omega) hq2 (by omega) (by omega) (by omega) hg2
          exact ⟨k', by omega, e2⟩
      · rw [hb, if_neg (by simpa using hd)]
        have := digit_ok q rhat yn1 yn0 un un1 hy1 hy1' h0 h1 hu hlt hq hr hge (by omega)
        rw [this]
        exact ⟨k, by omega, rfl⟩
    simp only [bits_Div64.l0]
    by_cases hc : q ≥ 4294967296
    · rw [if_pos hc]; exact key true (by simp [hc])
    · rw [if_neg hc, hw, hw2]; exact key _ (by simp [hc])
/-- the second digit's loop -/
theorem loop1 (s yn1 yn0 un un1 q1 : Int) (hs : 0 ≤ s) (hy1 : 2147483648 ≤ yn1) (hy1' : yn1 ≤ 4294967295) (h0 : 0 ≤ yn0 ∧ yn0 ≤ 4294967295) (h1 : 0 ≤ un1 ∧ un1 ≤ 4294967295) (hu : 0 ≤ un) (hlt : un < yn1 * 4294967296 + yn0) (d : Nat) :
    ∀ (k : Nat) (q rhat : Int), 2 * d + 4 ≤ k → 0 ≤ q → q ≤ 4294967297 → q * yn1 + rhat = un → 0 ≤ rhat → rhat < 4294967296 → 4294967296 ≤ rhat + d * 2147483648 → un * 4294967296 + un1 < (q + 1) * (yn1 * 4294967296 + yn0) →
    ∃ r, bits_Div64.l1 k (yn1 * 4294967296 + yn0) s yn1 yn0 un1 q1 rhat un q = some (IntKind.u64.wrap ((IntKind.u64.wrap (q1 * 4294967296)) + ((un * 4294967296 + un1) / (yn1 * 4294967296 + yn0))), r) := by
  induction d with
  | zero => intro k q rhat _ _ _ _ _ h2 h3; omega
  | succ d ih =>
    intro k q rhat hk hq0 hq1 hq hr hr1 hrd hge
    obtain ⟨k, rfl⟩ : ∃ m, k = m + 2 := ⟨k - 2, by omega⟩
    have hm := mul_range q yn0 hq0 hq1 h0.1 h0.2
    have hw : IntKind.u64.wrap (IntKind.u64.wrap (4294967296 * rhat) + un1) = 4294967296 * rhat + un1 := by rw [wu, wu]; omega
    have hw2 : IntKind.u64.wrap (q * yn0) = q * yn0 := by rw [wu]; omega
    have key : ∀ b, b = decide (q ≥ 4294967296 ∨ q * yn0 > 4294967296 * rhat + un1) →
        ∃ r, bits_Div64.j4 (k + 1) (yn1 * 4294967296 + yn0) s yn1 yn0 un1 q1 rhat un q b = some (IntKind.u64.wrap ((IntKind.u64.wrap (q1 * 4294967296)) + ((un * 4294967296 + un1) / (yn1 * 4294967296 + yn0))), r) := by
      intro b hb
      simp only [bits_Div64.j4]
      by_cases hd : q ≥ 4294967296 ∨ q * yn0 > 4294967296 * rhat + un1
      · rw [hb, if_pos (by simpa using hd)]
        obtain ⟨hg2, hq2⟩ := q_down q yn1 yn0 un un1 rhat hy1 h0 h1 hu hlt hq hd
        have hqp : 1 ≤ q := by
          rcases hd with hd | hd
          · omega
          · by_cases hz : q = 0
            · subst hz; omega
            · omega
        have hw3 : IntKind.u64.wrap (rhat + yn1) = rhat + yn1 := by rw [wu]; omega
        have hw4 : IntKind.u64.wrap (q - 1) = q - 1 := by rw [wu]; omega
        rw [hw3, hw4]
        by_cases hb2 : rhat + yn1 ≥ 4294967296
        · rw [if_pos hb2, if_pos hs]
          have hm2 := mul_range (q - 1) yn0 (by omega) (by omega) h0.1 h0.2
          have hm3 : (q - 1) * yn0 ≤ 4294967296 * 4294967295 := Int.mul_le_mul (by omega) h0.2 h0.1 (by omega)
          have := digit_ok (q - 1) (rhat + yn1) yn1 yn0 un un1 hy1 hy1' h0 h1 hu hlt hq2 (by omega) hg2 (by omega)
          rw [this]
          exact ⟨_, rfl⟩
        · rw [if_neg hb2]
          exact ih k (q - 1) (rhat + yn1) (by omega) (by omega) (by omega) hq2 (by omega) (by omega) (by omega) hg2
      · rw [hb, if_neg (by simpa using hd), if_pos hs]
        have := digit_ok q rhat yn1 yn0 un un1 hy1 hy1' h0 h1 hu hlt hq hr hge (by omega)
        rw [this]
        exact ⟨_, rfl⟩
    simp only [bits_Div64.l1]
    by_cases hc : q ≥ 4294967296
    · rw [if_pos hc]; exact key true (by simp [hc])
    · rw [if_neg hc, hw, hw2]; exact key _ (by simp [hc])
theorem start_ok (un yn1 : Int) (hy1 : 2147483648 ≤ yn1) (hy1' : yn1 ≤ 4294967295) (hu : 0 ≤ un) (hu' : un ≤ 18446744073709551615) (hq : 0 ≤ un / yn1 ∧ un / yn1 ≤ 4294967297) :
    IntKind.u64.wrap (Int.tdiv un yn1) = un / yn1 ∧ IntKind.u64.wrap (un - IntKind.u64.wrap (un / yn1 * yn1)) = un % yn1 ∧ un / yn1 * yn1 + un % yn1 = un ∧ 0 ≤ un % yn1 ∧ un % yn1 < yn1 := by
  have e := Int.mul_ediv_add_emod un yn1
  rw [Int.mul_comm] at e
  have h1 := Int.emod_nonneg un (show yn1 ≠ 0 by omega)
  have h2 := Int.emod_lt_of_pos un (show 0 < yn1 by omega)
  rw [Int.tdiv_eq_ediv_of_nonneg hu]
  refine ⟨by rw [wu]; omega, ?_, e, h1, h2⟩
  have h3 : 0 ≤ un / yn1 * yn1 := Int.mul_nonneg hq.1 (by omega)
  rw [wu, wu]; omega
/-- both digits -/
theorem div_two (s y un un1 un0 : Int) (hs : 0 ≤ s) (hy : 9223372036854775808 ≤ y) (hy' : y ≤ 18446744073709551615) (h1 : 0 ≤ un1 ∧ un1 ≤ 4294967295) (h0 : 0 ≤ un0 ∧ un0 ≤ 4294967295) (hu : 0 ≤ un) (hlt : un < y) {k : Nat} (hk : 40 ≤ k) :
    ∃ r, bits_Div64.l0 k y s (y / 4294967296) (y % 4294967296) un un1 un0 (IntKind.u64.wrap (Int.tdiv un (y / 4294967296))) (IntKind.u64.wrap (un - IntKind.u64.wrap (IntKind.u64.wrap (Int.tdiv un (y / 4294967296)) * (y / 4294967296)))) = some ((un * 18446744073709551616 + un1 * 4294967296 + un0) / y, r) := by
  obtain ⟨yn1, hyn1⟩ : ∃ v, y / 4294967296 = v := ⟨_, rfl⟩
  obtain ⟨yn0, hyn0⟩ : ∃ v, y % 4294967296 = v := ⟨_, rfl⟩
  have ey : y = yn1 * 4294967296 + yn0 := by omega
  rw [hyn1, hyn0]
  have b1 : 2147483648 ≤ yn1 := by omega
  have b2 : yn1 ≤ 4294967295 := by omega
  have b3 : 0 ≤ yn0 ∧ yn0 ≤ 4294967295 := by omega
  rw [ey] at hlt ⊢
  have hq := q1_le un yn1 yn0 b1 b2 b3 hu hlt
  obtain ⟨s1, s2, s3, s4, s5⟩ := start_ok un yn1 b1 b2 hu (by omega) hq
  rw [s1, s2]
  obtain ⟨k', hk', e⟩ := loop0 s yn1 yn0 un un1 un0 b1 b2 b3 h1 hu hlt 2 k (un / yn1) (un % yn1) (by omega) hq.1 hq.2 s3 s4 (by omega) (by omega) (q_ge _ _ _ _ _ _ b1 b3.1 h1.2 s3 s5 hq.1)
  rw [e]
  obtain ⟨k', rfl⟩ : ∃ m, k' = m + 1 := ⟨k' - 1, by omega⟩
  have hp : 0 < yn1 * 4294967296 + yn0 := by omega
  obtain ⟨Q1, hQ1⟩ : ∃ v, (un * 4294967296 + un1) / (yn1 * 4294967296 + yn0) = v := ⟨_, rfl⟩
  obtain ⟨V, hV⟩ : ∃ v, (un * 4294967296 + un1) % (yn1 * 4294967296 + yn0) = v := ⟨_, rfl⟩
  have eN := Int.mul_ediv_add_emod (un * 4294967296 + un1) (yn1 * 4294967296 + yn0)
  have v0 := Int.emod_nonneg (un * 4294967296 + un1) (show yn1 * 4294967296 + yn0 ≠ 0 by omega)
  have v1 := Int.emod_lt_of_pos (un * 4294967296 + un1) hp
  rw [hQ1, hV] at eN
  rw [hV] at v0 v1
  rw [Int.mul_comm] at eN
  have hQ0 : 0 ≤ Q1 := by rw [← hQ1]; exact Int.ediv_nonneg (by omega) (by omega)
  have hQm : Q1 ≤ 4294967295 := by
    have : (un * 4294967296 + un1) / (yn1 * 4294967296 + yn0) < 4294967296 := Int.ediv_lt_of_lt_mul hp (by omega)
    omega
  rw [hQ1]
  simp only [bits_Div64.j2]
  rw [if_neg (by omega)]
  have hun : IntKind.u64.wrap (IntKind.u64.wrap (IntKind.u64.wrap (un * 4294967296) + un1) - IntKind.u64.wrap (Q1 * (yn1 * 4294967296 + yn0))) = V := by
    have : 0 ≤ Q1 * (yn1 * 4294967296 + yn0) := Int.mul_nonneg hQ0 (by omega)
    generalize Q1 * (yn1 * 4294967296 + yn0) = p at *
    rw [wu, wu, wu, wu]; omega
  rw [hun]
  have hq' := q1_le V yn1 yn0 b1 b2 b3 v0 v1
  obtain ⟨z1, z2, z3, z4, z5⟩ := start_ok V yn1 b1 b2 v0 (by omega) hq'
  rw [z1, z2]
  obtain ⟨r, hr⟩ := loop1 s yn1 yn0 V un0 Q1 hs b1 b2 b3 h0 v0 v1 2 k' (V / yn1) (V % yn1) (by omega) hq'.1 hq'.2 z3 z4 (by omega) (by omega) (q_ge _ _ _ _ _ _ b1 b3.1 h0.2 z3 z5 hq'.1)
  refine ⟨r, ?_⟩
  rw [hr]
  have hQ2 : 0 ≤ (V * 4294967296 + un0) / (yn1 * 4294967296 + yn0) := Int.ediv_nonneg (by omega) (by omega)
  have hQ3 : (V * 4294967296 + un0) / (yn1 * 4294967296 + yn0) < 4294967296 := Int.ediv_lt_of_lt_mul hp (by omega)
  have hfin : (un * 18446744073709551616 + un1 * 4294967296 + un0) / (yn1 * 4294967296 + yn0) = Q1 * 4294967296 + (V * 4294967296 + un0) / (yn1 * 4294967296 + yn0) := by
    have : un * 18446744073709551616 + un1 * 4294967296 + un0 = (V * 4294967296 + un0) + (yn1 * 4294967296 + yn0) * (Q1 * 4294967296) := by
      have : (yn1 * 4294967296 + yn0) * (Q1 * 4294967296) = Q1 * (yn1 * 4294967296 + yn0) * 4294967296 := by grind
      omega
    rw [this, Int.add_mul_ediv_left _ _ (by omega)]; omega
  rw [hfin, wu, wu]
  congr 2
  omega
def divv (a b : Int) : Int := if b ≤ a / 4294967296 then 18446744073709551615 else a * 4294967296 / b
theorem bl_spec : ∀ (f x : Nat), x < 2 ^ f → x ≠ 0 → 1 ≤ Lib.bitLenAux f x ∧ 2 ^ (Lib.bitLenAux f x - 1) ≤ x ∧ x < 2 ^ Lib.bitLenAux f x
  | 0, x, h, h0 => by omega
  | f + 1, x, h, h0 => by
    simp only [Lib.bitLenAux]
    rw [if_neg h0]
    by_cases hz : x / 2 = 0
    · have : x = 1 := by omega
      subst this
      cases f with
      | zero => simp [Lib.bitLenAux]
      | succ f => simp [Lib.bitLenAux]
    · obtain ⟨h1, h2, h3⟩ := bl_spec f (x / 2) (by rw [Nat.pow_succ] at h; omega) hz
      generalize Lib.bitLenAux f (x / 2) = m at *
      obtain ⟨m, rfl⟩ : ∃ j, m = j + 1 := ⟨m - 1, by omega⟩
      refine ⟨by omega, ?_, ?_⟩
      · rw [show 1 + (m + 1) - 1 = m + 1 from by omega, Nat.pow_succ]
        rw [Nat.add_sub_cancel] at h2; omega
      · rw [show 1 + (m + 1) = (m + 1) + 1 from by omega, Nat.pow_succ]; omega
theorem div64_f (hi lo y : Int) (h0 : 0 ≤ hi) (h1 : hi < y) (hl : 0 ≤ lo ∧ lo ≤ 18446744073709551615) (hy : y ≤ 18446744073709551615) {k : Nat} (hk : 40 ≤ k) :
    ∃ r, bits_Div64.f k hi lo y = some ((hi * 18446744073709551616 + lo) / y, r) := by
  unfold bits_Div64.f
  rw [if_neg (by omega), if_neg (by omega)]
  by_cases hz : hi = 0
  · rw [if_pos hz, hz]
    refine ⟨Int.tmod lo y, ?_⟩
    rw [Int.tdiv_eq_ediv_of_nonneg hl.1, wu]
    have a1 : 0 ≤ lo / y := Int.ediv_nonneg hl.1 (by omega)
    have a2 : lo / y ≤ lo := Int.ediv_le_self _ hl.1
    rw [show lo / y % 18446744073709551616 = lo / y from by omega]; simp
  · rw [if_neg hz]
    obtain ⟨b1, b2, b3⟩ := bl_spec 64 y.toNat (by omega) (by omega)
    have b4 : Lib.bitLen y.toNat ≤ 64 := Lib.bitLen_le y.toNat 64 (by omega) (by omega)
    change 1 ≤ Lib.bitLen y.toNat at b1
    change 2 ^ (Lib.bitLen y.toNat - 1) ≤ y.toNat at b2
    change y.toNat < 2 ^ Lib.bitLen y.toNat at b3
    have hlz : bits_LeadingZeros64.f y = some (64 - (Lib.bitLen y.toNat : Int)) := by
      unfold bits_LeadingZeros64.f
      rw [if_pos (by omega), if_pos hy]
    rw [hlz]
    generalize Lib.bitLen y.toNat = L at *
    clear hlz
    simp only [Option.bind_some]
    obtain ⟨s, hs⟩ : ∃ s : Nat, s = 64 - L := ⟨_, rfl⟩
    have hw : IntKind.u64.wrap (64 - (L : Int)) = (s : Int) := by rw [wu]; omega
    have hw2 : IntKind.u64.wrap (64 - (s : Int)) = (L : Int) := by rw [wu]; omega
    rw [hw, hw2, if_pos (by omega), if_pos (by omega)]
    rw [shl_u y s (by omega) (by omega), shl_u hi s (by omega) (by omega), shl_u lo s (by omega) (by omega), shr_u lo L (by omega) (by omega)]
    rw [Int.toNat_natCast, Int.toNat_natCast]
    have hP : (0 : Int) < 2 ^ s := Int.pow_pos (by omega)
    have hLs : (2 : Int) ^ L * 2 ^ s = 18446744073709551616 := by
      rw [← Int.pow_add, show L + s = 64 from by omega]; rfl
    have hLs1 : (2 : Int) ^ (L - 1) * 2 ^ s = 9223372036854775808 := by
      rw [← Int.pow_add, show L - 1 + s = 63 from by omega]; rfl
    have hPs : (2 : Int) ^ s < 18446744073709551616 := by
      have h1 : (0 : Int) < 2 ^ (L - 1) := Int.pow_pos (by omega)
      have := Int.mul_le_mul_of_nonneg_right (show (1 : Int) ≤ 2 ^ (L - 1) by omega) (show (0 : Int) ≤ 2 ^ s by omega)
      omega
    have y1 : y < 2 ^ L := by
      have : (y.toNat : Int) < ((2 ^ L : Nat) : Int) := by exact_mod_cast b3
      have e : ((2 ^ L : Nat) : Int) = 2 ^ L := by simp
      omega
    have y0 : 2 ^ (L - 1) ≤ y := by
      have : ((2 ^ (L - 1) : Nat) : Int) ≤ (y.toNat : Int) := by exact_mod_cast b2
      have e : ((2 ^ (L - 1) : Nat) : Int) = 2 ^ (L - 1) := by simp
      omega
    have z1 : y * 2 ^ s < 18446744073709551616 := by rw [← hLs]; exact Int.mul_lt_mul_of_pos_right y1 hP
    have z0 : 9223372036854775808 ≤ y * 2 ^ s := by rw [← hLs1]; exact Int.mul_le_mul_of_nonneg_right y0 (by omega)
    have x1 : (hi + 1) * 2 ^ s ≤ y * 2 ^ s := Int.mul_le_mul_of_nonneg_right (by omega) (by omega)
    have x2 : (hi + 1) * 2 ^ s = hi * 2 ^ s + 2 ^ s := by grind
    have x3 : 0 ≤ hi * 2 ^ s := Int.mul_nonneg h0 (by omega)
    have hLp : (0 : Int) < 2 ^ L := Int.pow_pos (by omega)
    have l1 : 0 ≤ lo / 2 ^ L := Int.ediv_nonneg hl.1 (by omega)
    have l2 : lo / 2 ^ L < 2 ^ s := Int.ediv_lt_of_lt_mul hLp (by rw [Int.mul_comm, hLs]; omega)
    have hm : hi * 2 ^ s % 2 ^ s = 0 := Int.mul_emod_left _ _
    have ll : lo * 2 ^ s / 18446744073709551616 = lo / 2 ^ L := by
      rw [← hLs]; exact Int.mul_ediv_mul_of_pos_left _ _ hP
    have ly : y * 2 ^ s % 18446744073709551616 = y * 2 ^ s := by omega
    have lh : hi * 2 ^ s % 18446744073709551616 = hi * 2 ^ s := by omega
    rw [ly, lh, or_join s (hi * 2 ^ s) (lo / 2 ^ L) x3 hm (by omega) l1 l2 (by omega), and32 (y * 2 ^ s) (by omega) z1, and32 _ (by omega) (by omega)]
    rw [if_neg (by omega)]
    have hun : hi * 2 ^ s + lo / 2 ^ L < y * 2 ^ s := by omega
    obtain ⟨r, hr⟩ := div_two s (y * 2 ^ s) (hi * 2 ^ s + lo / 2 ^ L) (lo * 2 ^ s % 18446744073709551616 / 4294967296) (lo * 2 ^ s % 18446744073709551616 % 4294967296) (by omega) z0 (by omega) (by omega) (by omega) (by omega) hun hk
    refine ⟨r, ?_⟩
    rw [hr]
    congr 2
    have hx : (hi * 2 ^ s + lo / 2 ^ L) * 18446744073709551616 + lo * 2 ^ s % 18446744073709551616 / 4294967296 * 4294967296 + lo * 2 ^ s % 18446744073709551616 % 4294967296 = (hi * 18446744073709551616 + lo) * 2 ^ s := by
      have e1 : (hi * 18446744073709551616 + lo) * 2 ^ s = hi * 2 ^ s * 18446744073709551616 + lo * 2 ^ s := by grind
      omega
    rw [hx]
    exact Int.mul_ediv_mul_of_pos_left _ _ hP
theorem quot_f (a b : Int) (ha : 0 ≤ a ∧ a ≤ 18446744073709551615) (hb : 0 ≤ b ∧ b ≤ 18446744073709551615) {k : Nat} (hk : 40 ≤ k) : fix_quotient.f k a b = some (divv a b) := by
  unfold fix_quotient.f divv
  split
  · rfl
  · rw [wu]
    obtain ⟨r, hr⟩ := div64_f (a / 4294967296) (a * 4294967296 % 18446744073709551616) b (by omega) (by omega) (by omega) hb.2 hk
    rw [hr]
    simp only [Option.bind_some]
    congr 2; omega
theorem divv_range (a b : Int) (ha : 0 ≤ a ∧ a ≤ 18446744073709551615) (hb : 0 ≤ b) : 0 ≤ divv a b ∧ divv a b ≤ 18446744073709551615 := by
  unfold divv
  split
  · omega
  · refine ⟨Int.ediv_nonneg (by omega) hb, ?_⟩
    have : a * 4294967296 / b < 18446744073709551616 := Int.ediv_lt_of_lt_mul (by omega) (by omega)
    omega
theorem awake14_k {k : Nat} (hk : 1000 ≤ k) : terracelaw14_awake.f k = some true :=
  at_rounds (g := fun k => terracelaw14_awake.f k) (fun k => terracelaw14_awake.mono k) hk (by decide +kernel)
theorem hratio_f (a b : Int) (ha : 0 ≤ a ∧ a ≤ 18446744073709551615) (hb : 0 ≤ b ∧ b ≤ 18446744073709551615) {k : Nat} (hk : 40 ≤ k) : fix_Ratio.f k a b = some (divv a b) := by
  unfold fix_Ratio.f
  exact bs (quot_f a b ha hb hk) rfl
def bad (o n : Int) : Prop := n < 0 ∨ n > 65536 ∨ o + n > 1048576
instance (a b : Int) : Decidable (bad a b) := by unfold bad; infer_instance
structure Inv (o : Int) (c : List Int) : Prop where
  ho : 0 ≤ o ∧ o ≤ 1048576
  hc : c.length ≤ 8
  hb : ∀ x ∈ c, 0 ≤ x ∧ x ≤ 1048576
def I64 (n : Int) : Prop := -9223372036854775808 ≤ n ∧ n ≤ 9223372036854775807
theorem packet_f {o : Int} {c : List Int} (hI : Inv o c) (n : Int) {k : Nat} (hk : 0 < k) :
    history_History_Packet.f k o c n = some (if bad o n then (11, o, c) else (0, o + n, c)) := by
  obtain ⟨k, rfl, _⟩ := fuel hk
  have ho := hI.ho
  unfold history_History_Packet.f
  simp only [history_History_Packet.j0]
  by_cases c1 : n < 0
  · rw [if_pos c1, if_pos trivial, if_pos (show bad o n by unfold bad; omega)]
  rw [if_neg c1]
  by_cases c2 : n > 65536
  · rw [if_pos c2, if_pos trivial, if_pos (show bad o n by unfold bad; omega)]
  rw [if_neg c2, w64 (n := o + n) (by omega) (by omega)]
  by_cases c3 : o + n > 1048576
  · rw [if_pos (by simpa using c3), if_pos (show bad o n by unfold bad; omega)]
  · rw [if_neg (by simpa using c3), if_neg (show ¬ bad o n by unfold bad; omega)]
theorem take_mn (l : List Int) : l.take ((mn (l.length : Int) 8) : Int).toNat = l.take 8 ∧ 0 ≤ mn (l.length : Int) 8 ∧ mn (l.length : Int) 8 ≤ (l.length : Int) := by
  unfold mn
  split
  · exact ⟨rfl, by omega, by omega⟩
  · refine ⟨?_, by omega, by omega⟩
    rw [Int.toNat_natCast, List.take_of_length_le (Nat.le_refl _), List.take_of_length_le (by omega)]
theorem loss_f {o : Int} {c : List Int} (hI : Inv o c) : history_History_Loss.f o c = some (((c.length : Int) == 0), 0, (o :: c).take 8) := by
  have hc := hI.hc
  unfold history_History_Loss.f
  have e : slices_Insert_int_int.f c 0 [o] = some (o :: c) := by
    unfold slices_Insert_int_int.f
    rw [if_pos ⟨rfl, rfl, by omega⟩]; rfl
  refine bs e ?_
  obtain ⟨e1, e2, e3⟩ := take_mn (o :: c)
  rw [if_pos e2, if_pos e3, e1]
theorem start_f {o : Int} {c : List Int} (n : Int) {k : Nat} (hk : 0 < k) :
    history_History_Start.f k o c n = some (if c.length = 1 ∧ 1 ≤ n ∧ n ≤ 1048576 then (true, o, [n]) else (false, o, c)) := by
  obtain ⟨k, rfl, _⟩ := fuel hk
  unfold history_History_Start.f
  simp only [history_History_Start.j0]
  by_cases c1 : c.length = 1
  · rw [if_pos (by omega)]
    by_cases c2 : n < 1
    · rw [if_pos c2, if_pos trivial, if_neg (by omega)]
    rw [if_neg c2]
    by_cases c3 : n > 1048576
    · rw [if_pos (by simpa using c3), if_neg (by omega)]
    · obtain ⟨x, rfl⟩ := List.length_eq_one_iff.1 c1
      rw [if_neg (by simpa using c3), if_pos (by simp), if_pos (by simp; omega)]; rfl
  · rw [if_neg (by omega), if_pos trivial, if_neg (by omega)]
/-- one call -/
def stp (y : S41) (s : Int × List Int) : Int × List Int :=
  if y.f0 = 1 then (if bad s.1 y.f1 then s else (s.1 + y.f1, s.2))
  else if y.f0 = 2 then (0, (s.1 :: s.2).take 8)
  else if y.f0 = 3 then (if s.2.length = 1 ∧ 1 ≤ y.f1 ∧ y.f1 ≤ 1048576 then (s.1, [y.f1]) else s)
  else s
def play : List S41 → Int × List Int → Int × List Int
  | [], s => s
  | y :: r, s => play r (stp y s)
theorem play_append (a b : List S41) : ∀ s, play (a ++ b) s = play b (play a s) := by
  induction a with
  | nil => intro s; rfl
  | cons y r ih => intro s; exact ih _
theorem inv_stp {o : Int} {c : List Int} (h : Inv o c) (y : S41) : Inv (stp y (o, c)).1 (stp y (o, c)).2 := by
  have ho := h.ho
  unfold stp
  split
  · split
    · exact h
    · rename_i hb
      unfold bad at hb
      exact ⟨by simp only at hb ⊢; omega, h.hc, h.hb⟩
  split
  · refine ⟨by simp only; omega, by rw [List.length_take]; omega, fun x hx => ?_⟩
    have := List.mem_of_mem_take hx
    rcases List.mem_cons.1 this with rfl | hm
    · exact ho
    · exact h.hb x hm
  split
  · split
    · rename_i hb
      refine ⟨ho, by simp, fun x hx => ?_⟩
      obtain rfl := List.mem_singleton.1 hx
      omega
    · exact h
  · exact h
theorem inv_play : ∀ (l : List S41) {o : Int} {c : List Int}, Inv o c → Inv (play l (o, c)).1 (play l (o, c)).2
  | [], _, _, h => h
  | y :: r, _, _, h => inv_play r (inv_stp h y)
theorem Inv.start : Inv 0 [] := ⟨by omega, by simp, fun _ h => by cases h⟩
theorem at41 (L : List S41) (m : Nat) (h : m < L.length) : L.drop m = rd_T41 L (m : Int) :: L.drop (m + 1) := by
  rw [List.drop_eq_getElem_cons h]
  simp [rd_T41, List.getD_eq_getElem?_getD, List.getElem?_eq_getElem h]
theorem front_l (c : List Int) (hc : c.length ≤ 100) (d : Nat) : ∀ (k m : Nat) (out : List Int), m + d = c.length → d < k → out.length ≤ 1 + m → terraceref14_Front.l0 k c out (m : Int) = some (out ++ c.drop m) := by
  induction d with
  | zero =>
    intro k m out h hk ho
    obtain ⟨k, rfl, hk⟩ := fuel hk
    simp only [terraceref14_Front.l0]
    rw [if_neg (by omega), List.drop_of_length_le (by omega), List.append_nil]
  | succ d ih =>
    intro k m out h hk ho
    obtain ⟨k, rfl, hk⟩ := fuel hk
    have hlt : m < c.length := by omega
    have e := ih k (m + 1) (out ++ [rd c (m : Int)]) (by omega) (by omega) (by simp; omega)
    simp only [Int.natCast_add, Int.natCast_one] at e
    simp only [terraceref14_Front.l0]
    rw [if_pos (by omega), if_pos (by omega), if_pos (by omega), w64 (n := (m : Int) + 1) (by omega) (by omega), e, List.append_assoc, List.drop_eq_getElem_cons hlt]
    simp [rd, List.getD_eq_getElem?_getD, List.getElem?_eq_getElem hlt]
theorem front_f (o : Int) (c : List Int) (hc : c.length ≤ 100) {k : Nat} (hk : c.length < k) : terraceref14_Front.f k o c = some (o :: c) := by
  unfold terraceref14_Front.f
  rw [if_pos (by simp)]
  have := front_l c hc c.length k 0 ([] ++ [o]) (by omega) hk (by simp)
  simpa using this
theorem played_l (L : List S41) (hL : L.length ≤ 200) (hok : ∀ y ∈ L, okS41 y) (d : Nat) :
    ∀ (k m : Nat) (o : Int) (c : List Int), Inv o c → m + d = L.length → 4 * d + 20 ≤ k → terracelaw14_played.l0 k o c L (L.length : Int) (m : Int) o c = some ((play (L.drop m) (o, c)).1, (play (L.drop m) (o, c)).2, (play (L.drop m) (o, c)).1, (play (L.drop m) (o, c)).2, true) := by
  induction d with
  | zero =>
    intro k m o c hI h hk
    obtain ⟨k, rfl, hk⟩ := fuel (show 19 < k by omega)
    simp only [terracelaw14_played.l0]
    rw [if_neg (by omega), List.drop_of_length_le (by omega)]
    rfl
  | succ d ih =>
    intro k m o c hI h hk
    obtain ⟨k, rfl⟩ : ∃ j, k = j + 1 + 1 + 1 := ⟨k - 3, by omega⟩
    have hlt : m < L.length := by omega
    have hI2 := fun y => inv_stp hI y
    have e := fun o c hI k hk => ih k (m + 1) o c hI (by omega) hk
    simp only [Int.natCast_add, Int.natCast_one] at e
    have hy : okS41 (rd_T41 L (m : Int)) := by
      simp only [rd_T41, Int.toNat_natCast, List.getD_eq_getElem?_getD, List.getElem?_eq_getElem hlt, Option.getD_some]
      exact hok _ (List.getElem_mem _)
    rw [at41 L m hlt]
    simp only [terracelaw14_played.l0]
    generalize rd_T41 L (m : Int) = y at hy ⊢
    have hy1 := wf_i64 hy.2
    have hw : wrap64 ((m : Int) + 1) = (m : Int) + 1 := w64 (by omega) (by omega)
    have ho := hI.ho
    have hc := hI.hc
    have hgo : ∀ k, 4 * d + 20 ≤ k → ∀ s, stp y (o, c) = s → terracelaw14_played.l0 k s.1 s.2 L (L.length : Int) ((m : Int) + 1) s.1 s.2 = some ((play (y :: L.drop (m + 1)) (o, c)).1, (play (y :: L.drop (m + 1)) (o, c)).2, (play (y :: L.drop (m + 1)) (o, c)).1, (play (y :: L.drop (m + 1)) (o, c)).2, true) := by
      rintro k hk s rfl
      exact e _ _ (hI2 y) k hk
    rw [if_pos (by omega), if_pos (by omega), if_pos (by omega)]
    by_cases c1 : y.f0 = 1
    · rw [if_pos c1]
      have hs : stp y (o, c) = if bad o y.f1 then (o, c) else (o + y.f1, c) := by
        unfold stp; rw [if_pos c1]
      by_cases hb : bad o y.f1
      · rw [if_pos hb] at hs
        have key : ∀ b, b = true → terracelaw14_played.j1 (k + 1 + 1) o c 0 L (L.length : Int) (m : Int) b o c y.f0 y.f1 = some ((play (y :: L.drop (m + 1)) (o, c)).1, (play (y :: L.drop (m + 1)) (o, c)).2, (play (y :: L.drop (m + 1)) (o, c)).1, (play (y :: L.drop (m + 1)) (o, c)).2, true) := by
          rintro b rfl
          simp only [terracelaw14_played.j1]
          rw [if_pos trivial]
          simp only [terracelaw14_played.j2]
          refine bs (packet_f hI y.f1 (by omega)) ?_
          rw [if_pos hb, if_pos rfl, hw]
          exact hgo k (by omega) (o, c) hs
        unfold bad at hb
        by_cases d1 : y.f1 < 0
        · rw [if_pos d1]; exact key _ rfl
        rw [if_neg d1]
        by_cases d2 : y.f1 > 65536
        · rw [if_pos d2]; exact key _ rfl
        rw [if_neg d2, w64 (n := o + y.f1) (by omega) (by omega)]
        exact key _ (by simp; omega)
      · rw [if_neg hb] at hs
        have hb' := hb
        unfold bad at hb'
        rw [if_neg (by omega), if_neg (by omega), w64 (n := o + y.f1) (by omega) (by omega), show decide (o + y.f1 > 1048576) = false by simp; omega]
        simp only [terracelaw14_played.j1]
        rw [if_neg (by simp)]
        simp only [terracelaw14_played.j2]
        refine bs (packet_f hI y.f1 (by omega)) ?_
        rw [if_neg hb, if_pos rfl, hw, w64 (n := o + y.f1) (by omega) (by omega)]
        exact hgo k (by omega) (o + y.f1, c) hs
    rw [if_neg c1]
    by_cases c2 : y.f0 = 2
    · rw [if_pos c2]
      have hs : stp y (o, c) = (0, (o :: c).take 8) := by
        unfold stp; rw [if_neg c1, if_pos c2]
      refine bs (loss_f hI) ?_
      rw [if_neg (by simp)]
      refine bs (front_f o c (by omega) (by omega)) ?_
      obtain ⟨e1, e2, e3⟩ := take_mn (o :: c)
      rw [if_pos e2, if_pos e3, e1, hw]
      exact hgo (k + 1 + 1) (by omega) (0, (o :: c).take 8) hs
    rw [if_neg c2]
    by_cases c3 : y.f0 = 3
    · rw [if_pos c3]
      have hs : stp y (o, c) = if c.length = 1 ∧ 1 ≤ y.f1 ∧ y.f1 ≤ 1048576 then (o, [y.f1]) else (o, c) := by
        unfold stp; rw [if_neg c1, if_neg c2, if_pos c3]
      by_cases hb : c.length = 1 ∧ 1 ≤ y.f1 ∧ y.f1 ≤ 1048576
      · rw [if_pos hb] at hs
        rw [if_pos (by omega), if_pos (by omega), show decide (y.f1 ≤ 1048576) = true by simp; omega]
        simp only [terracelaw14_played.j3]
        refine bs (start_f y.f1 (by omega)) ?_
        rw [if_pos hb, if_neg (by simp), if_pos trivial, hw]
        exact hgo (k + 1) (by omega) (o, [y.f1]) hs
      · rw [if_neg hb] at hs
        have key : ∀ b, b = false → terracelaw14_played.j3 (k + 1 + 1) o c b L (L.length : Int) (m : Int) o c y.f0 y.f1 = some ((play (y :: L.drop (m + 1)) (o, c)).1, (play (y :: L.drop (m + 1)) (o, c)).2, (play (y :: L.drop (m + 1)) (o, c)).1, (play (y :: L.drop (m + 1)) (o, c)).2, true) := by
          rintro b rfl
          simp only [terracelaw14_played.j3]
          refine bs (start_f y.f1 (by omega)) ?_
          rw [if_neg hb, if_neg (by simp), if_neg (by simp), hw]
          exact hgo (k + 1) (by omega) (o, c) hs
        by_cases d1 : (c.length : Int) = 1
        · rw [if_pos d1]
          by_cases d2 : y.f1 ≥ 1
          · rw [if_pos d2]; exact key _ (by simp; omega)
          · rw [if_neg d2]; exact key _ rfl
        · rw [if_neg d1]; exact key _ rfl
    · rw [if_neg c3, hw]
      have hs : stp y (o, c) = (o, c) := by
        unfold stp; rw [if_neg c1, if_neg c2, if_neg c3]
      exact hgo (k + 1 + 1) (by omega) (o, c) hs
theorem played_f (L : List S41) (hL : L.length ≤ 200) (hok : ∀ y ∈ L, okS41 y) {k : Nat} (hk : 900 ≤ k) : terracelaw14_played.f k L = some ((play L (0, [])).1, (play L (0, [])).2, (play L (0, [])).1, (play L (0, [])).2, true) := by
  unfold terracelaw14_played.f
  refine bs (rfl : history_New.f = some (0, [])) ?_
  have := played_l L hL hok L.length k 0 0 [] Inv.start (by omega) (by omega)
  simpa using this
def W (t : Int) (k : Nat) : Int := if k = 0 then history_sum.wt 0 * t else history_sum.wt k
def T (l : List Int) (t : Int) : Nat → Int
  | 0 => 0
  | k + 1 => T l t k + W t k * rd l (k : Int)
def A (t : Int) : Nat → Int
  | 0 => 0
  | k + 1 => A t k + W t k
theorem wt_r (k : Nat) (hk : k < 8) : 1 ≤ history_sum.wt k ∧ history_sum.wt k ≤ 5 := by
  match k, hk with
  | 0, _ => decide
  | 1, _ => decide
  | 2, _ => decide
  | 3, _ => decide
  | 4, _ => decide
  | 5, _ => decide
  | 6, _ => decide
  | 7, _ => decide
theorem W_r (t : Int) (ht : 1 ≤ t ∧ t ≤ 2) (k : Nat) (hk : k < 8) : 1 ≤ W t k ∧ W t k ≤ 10 := by
  have h := wt_r k hk
  unfold W
  split
  · have e : history_sum.wt 0 = 5 := rfl
    rw [e]; omega
  · omega
theorem A_r (t : Int) (ht : 1 ≤ t ∧ t ≤ 2) : ∀ k : Nat, k ≤ 8 → (k : Int) ≤ A t k ∧ A t k ≤ 10 * k
  | 0, _ => by simp [A]
  | k + 1, h => by
    have h1 := A_r t ht k (by omega)
    have h2 := W_r t ht k (by omega)
    simp only [A]
    omega
def R20 (x : Int) : Prop := 0 ≤ x ∧ x ≤ 1048576
theorem rd_r {l : List Int} (h : ∀ x ∈ l, R20 x) (k : Nat) : R20 (rd l (k : Int)) := by
  unfold rd
  rw [Int.toNat_natCast, List.getD_eq_getElem?_getD]
  by_cases hk : k < l.length
  · rw [List.getElem?_eq_getElem hk]; exact h _ (List.getElem_mem _)
  · rw [List.getElem?_eq_none (by omega)]; unfold R20; simp
theorem mul_r {a b : Int} (ha : 1 ≤ a ∧ a ≤ 10) (hb : R20 b) : 0 ≤ a * b ∧ a * b ≤ 1048576 * a ∧ a * b ≤ 10485760 := by
  unfold R20 at hb
  have h1 : 0 ≤ a * b := Int.mul_nonneg (by omega) hb.1
  have h2 : a * b ≤ a * 1048576 := Int.mul_le_mul_of_nonneg_left hb.2 (by omega)
  omega
theorem T_r {l : List Int} (h : ∀ x ∈ l, R20 x) (t : Int) (ht : 1 ≤ t ∧ t ≤ 2) : ∀ k, k ≤ 8 → 0 ≤ T l t k ∧ T l t k ≤ 1048576 * A t k
  | 0, _ => by simp [T, A]
  | k + 1, hk => by
    have h1 := T_r h t ht k (by omega)
    have h2 := mul_r (W_r t ht k (by omega)) (rd_r h k)
    simp only [T, A]
    omega
theorem acc_eq {l : List Int} (h : ∀ x ∈ l, R20 x) (t : Int) (ht : 1 ≤ t ∧ t ≤ 2) : ∀ k, k ≤ 8 → history_sum.acc l t k = (T l t k, A t k)
  | 0, _ => rfl
  | k + 1, hk => by
    have ih := acc_eq h t ht k (by omega)
    have hw : history_sum.wk t k = W t k := by
      unfold history_sum.wk W
      split
      · rename_i h0
        subst h0
        have e : history_sum.wt 0 = 5 := rfl
        rw [e, w64 (by omega) (by omega)]
      · rfl
    have h1 := T_r h t ht k (by omega)
    have h2 := W_r t ht k (by omega)
    have h3 := mul_r h2 (rd_r h k)
    have h4 := A_r t ht k (by omega)
    simp only [history_sum.acc, T, A, ih, hw]
    rw [w64 (n := W t k * rd l (k : Int)) (by omega) (by omega), w64 (n := T l t k + W t k * rd l (k : Int)) (by omega) (by omega), w64 (n := A t k + W t k) (by omega) (by omega)]
def Rr (l : List Int) (t : Int) : Int := T l t (min 8 l.length) * 4294967296 / A t (min 8 l.length)
theorem Rr_r {l : List Int} (h : ∀ x ∈ l, R20 x) (t : Int) (ht : 1 ≤ t ∧ t ≤ 2) (h0 : l.length ≠ 0) : 0 ≤ Rr l t ∧ Rr l t ≤ 4503599627370496 := by
  have h1 := T_r h t ht (min 8 l.length) (by omega)
  have h2 := A_r t ht (min 8 l.length) (by omega)
  unfold Rr
  refine ⟨Int.ediv_nonneg (by omega) (by omega), ?_⟩
  apply Int.ediv_le_of_le_mul (by omega)
  omega
theorem hsum_f {l : List Int} (h : ∀ x ∈ l, R20 x) (t : Int) (ht : 1 ≤ t ∧ t ≤ 2) (h0 : l.length ≠ 0) {k : Nat} (hk : 40 ≤ k) : history_sum.f k l t = some (Rr l t) := by
  have h1 := T_r h t ht (min 8 l.length) (by omega)
  have h2 := A_r t ht (min 8 l.length) (by omega)
  unfold history_sum.f Rr
  rw [acc_eq h t ht _ (by omega)]
  simp only
  rw [u64 (by omega) (by omega), u64 (by omega) (by omega), hratio_f _ _ (by omega) (by omega) hk]
  unfold divv
  rw [if_neg (by omega)]
theorem means_f {o : Int} {c : List Int} (hI : Inv o c) (t : Int) (ht : 1 ≤ t ∧ t ≤ 2) (h0 : c.length ≠ 0) {k : Nat} (hk : 40 ≤ k) : history_History_means.f k o c t = some (Rr c 1, Rr (o :: c) t) := by
  have hc := hI.hc
  have hoc : ∀ x ∈ o :: c, R20 x := fun x hx => by
    rcases List.mem_cons.1 hx with rfl | hx
    · exact hI.ho
    · exact hI.hb x hx
  unfold history_History_means.f
  refine bs (hsum_f hI.hb 1 (by omega) h0 hk) ?_
  refine bs (a := c) (by unfold slices_Clone_int_int.f; rw [if_pos (by omega)]) ?_
  have e : slices_Insert_int_int.f c 0 [o] = some (o :: c) := by
    unfold slices_Insert_int_int.f
    rw [if_pos ⟨rfl, rfl, by omega⟩]; rfl
  refine bs e ?_
  exact bs (hsum_f hoc t ht (by simp) hk) rfl
def mean (o : Int) (c : List Int) : Int := mx (Rr c 1) (Rr (o :: c) 1)
theorem mean_f {o : Int} {c : List Int} (hI : Inv o c) (h0 : c.length ≠ 0) {k : Nat} (hk : 40 ≤ k) : history_History_Mean.f k o c = some (mean o c) := by
  unfold history_History_Mean.f
  rw [if_neg (by omega)]
  exact bs (means_f hI 1 (by omega) h0 hk) rfl
theorem mean_none (o : Int) (c : List Int) (h0 : c.length = 0) {k : Nat} : history_History_Mean.f k o c = some 18446744073709551615 := by
  unfold history_History_Mean.f
  rw [if_pos (by omega)]
theorem mean_r {o : Int} {c : List Int} (hI : Inv o c) (h0 : c.length ≠ 0) : 0 ≤ mean o c ∧ mean o c ≤ 4503599627370496 := by
  have hoc : ∀ x ∈ o :: c, R20 x := fun x hx => by
    rcases List.mem_cons.1 hx with rfl | hx
    · exact hI.ho
    · exact hI.hb x hx
  have h1 := Rr_r hI.hb 1 (by omega) h0
  have h2 := Rr_r hoc 1 (by omega) (by simp)
  unfold mean mx
  split <;> omega
theorem round_eq {l : List Int} (h : ∀ x ∈ l, R20 x) (t : Int) (ht : 1 ≤ t ∧ t ≤ 2) (k : Nat) (hk : k < 8) : wrap64 (T l t k + wrap64 (W t k * rd l (k : Int))) = T l t (k + 1) ∧ wrap64 (A t k + W t k) = A t (k + 1) := by
  have h1 := T_r h t ht k (by omega)
  have h2 := W_r t ht k (by omega)
  have h3 := mul_r h2 (rd_r h k)
  have h4 := A_r t ht k (by omega)
  simp only [T, A]
  rw [w64 (n := W t k * rd l (k : Int)) (by omega) (by omega), w64 (n := T l t k + W t k * rd l (k : Int)) (by omega) (by omega), w64 (n := A t k + W t k) (by omega) (by omega)]
  exact ⟨rfl, rfl⟩
theorem weight_f (m : Nat) (hm : m < 8) : terraceref14_Weight.f (m : Int) = some (history_sum.wt m) := by
  unfold terraceref14_Weight.f
  rw [if_neg (by omega), if_neg (by omega), Int.toNat_natCast]
  rfl
theorem W_one (m : Nat) : W 1 m = history_sum.wt m := by
  unfold W
  split
  · rename_i m0
    subst m0
    rw [Int.mul_one]
  · rfl
theorem W_two (m : Nat) (h : (m : Int) ≠ 0) : W 2 m = history_sum.wt m := by
  unfold W
  rw [if_neg (fun e => h (by rw [e]; rfl))]
theorem W_two0 : W 2 0 = wrap64 (history_sum.wt 0 * 2) := by
  have e : history_sum.wt 0 = 5 := rfl
  unfold W
  rw [if_pos rfl, e, w64 (by omega) (by omega)]
theorem rsum_one {l : List Int} (hb : ∀ x ∈ l, R20 x) (hl : l.length ≤ 8) (d : Nat) :
    ∀ (k m : Nat), m + d = l.length → d < k → terraceref14_Sum.l0 k l false (T l 1 m) (A 1 m) (m : Int) = some (T l 1 l.length, A 1 l.length) := by
  induction d with
  | zero =>
    intro k m h hk
    obtain ⟨k, rfl, hk⟩ := fuel hk
    simp only [terraceref14_Sum.l0]
    rw [if_neg (by omega), show m = l.length by omega]
  | succ d ih =>
    intro k m h hk
    obtain ⟨k, rfl, hk⟩ := fuel hk
    have e := ih k (m + 1) (by omega) (by omega)
    have hr := round_eq hb 1 (by omega) m (by omega)
    rw [← hr.1, ← hr.2, W_one] at e
    simp only [terraceref14_Sum.l0]
    rw [if_pos (by omega)]
    refine bs (weight_f m (by omega)) ?_
    rw [if_neg (by simp), if_pos (by omega), w64 (n := (m : Int) + 1) (by omega) (by omega)]
    exact e
theorem rsum_two {l : List Int} (hb : ∀ x ∈ l, R20 x) (hl : l.length ≤ 8) (d : Nat) :
    ∀ (k m : Nat), m + d = l.length → d < k → terraceref14_Sum.l0 k l true (T l 2 m) (A 2 m) (m : Int) = some (T l 2 l.length, A 2 l.length) := by
  induction d with
  | zero =>
    intro k m h hk
    obtain ⟨k, rfl, hk⟩ := fuel hk
    simp only [terraceref14_Sum.l0]
    rw [if_neg (by omega), show m = l.length by omega]
  | succ d ih =>
    intro k m h hk
    obtain ⟨k, rfl, hk⟩ := fuel hk
    have e := ih k (m + 1) (by omega) (by omega)
    have hr := round_eq hb 2 (by omega) m (by omega)
    rw [← hr.1, ← hr.2] at e
    simp only [terraceref14_Sum.l0]
    rw [if_pos (by omega)]
    refine bs (weight_f m (by omega)) ?_
    have hm : wrap64 ((m : Int) + 1) = (m : Int) + 1 := w64 (by omega) (by omega)
    rw [if_pos trivial, hm]
    by_cases c2 : (m : Int) = 0
    · have m0 : m = 0 := Int.ofNat_eq_zero.1 c2
      rw [if_pos c2, if_pos (by omega)]
      subst m0
      rw [W_two0] at e
      exact e
    · rw [if_neg c2, if_pos (by omega)]
      rw [W_two m c2] at e
      exact e
theorem rsum_f {l : List Int} (hb : ∀ x ∈ l, R20 x) (hl : l.length ≤ 8) (half : Bool) (t : Int) (ht : t = if half = true then 2 else 1) {k : Nat} (hk : 8 < k) : terraceref14_Sum.f k l half = some (T l t l.length, A t l.length) := by
  unfold terraceref14_Sum.f
  cases half with
  | false =>
    obtain rfl : t = 1 := by simpa using ht
    exact rsum_one hb hl l.length k 0 (by omega) (by omega)
  | true =>
    obtain rfl : t = 2 := by simpa using ht
    exact rsum_two hb hl l.length k 0 (by omega) (by omega)
theorem rratio_f {l : List Int} (hb : ∀ x ∈ l, R20 x) (hl : l.length ≤ 8) (h0 : l.length ≠ 0) (t : Int) (ht : 1 ≤ t ∧ t ≤ 2) : terraceref14_Ratio.f (T l t l.length) (A t l.length) = some (Rr l t) := by
  have h1 := T_r hb t ht l.length hl
  have h2 := A_r t ht l.length hl
  have h3 := Rr_r hb t ht h0
  unfold terraceref14_Ratio.f
  unfold Rr at *
  rw [Nat.min_eq_right hl] at *
  rw [u64 (n := A t l.length) (by omega) (by omega), if_neg (by omega), u64 (n := T l t l.length) (by omega) (by omega), u64 (n := T l t l.length * 4294967296) (by omega) (by omega), Int.tdiv_eq_ediv_of_nonneg (by omega), u64 (by omega) (by omega)]
theorem rd_take (l : List Int) (k : Nat) (hk : k < 8) : rd (l.take 8) (k : Int) = rd l (k : Int) := by
  unfold rd
  simp only [Int.toNat_natCast, List.getD_eq_getElem?_getD, List.getElem?_take, if_pos hk]
theorem T_take (l : List Int) (t : Int) : ∀ k, k ≤ 8 → T (l.take 8) t k = T l t k
  | 0, _ => rfl
  | k + 1, hk => by simp only [T, T_take l t k (by omega), rd_take l k (by omega)]
theorem Rr_take (l : List Int) (t : Int) : Rr (l.take 8) t = Rr l t := by
  unfold Rr
  rw [List.length_take, show min 8 (min 8 l.length) = min 8 l.length by omega, T_take l t _ (by omega)]
theorem disc_f {o : Int} {c : List Int} (hI : Inv o c) (h0 : c.length ≠ 0) {k : Nat} (hk : 40 ≤ k) :
    history_History_Discounted.f k o c = some (if o * 4294967296 > 2 * Rr c 1 then mx (Rr c 1) (Rr (o :: c) 2) else mx (Rr c 1) (Rr (o :: c) 1)) := by
  have ho := hI.ho
  have hr := Rr_r hI.hb 1 (by omega) h0
  unfold history_History_Discounted.f
  rw [if_neg (by omega)]
  refine bs (means_f hI 1 (by omega) h0 hk) ?_
  have eo : fix_Of.f (o % 4294967296) = some (o * 4294967296) := by
    unfold fix_Of.f
    rw [show o % 4294967296 = o by omega, u64 (n := o) (by omega) (by omega), u64 (by omega) (by omega)]
  refine bs eo ?_
  have ea : fix_F_Add.f (Rr c 1) (Rr c 1) = some (2 * Rr c 1) := by
    rw [add_f _ _ (by omega) (by omega)]
    unfold addv
    rw [if_neg (by omega)]
    congr 1; omega
  refine bs ea ?_
  by_cases hc : o * 4294967296 > 2 * Rr c 1
  · rw [if_pos hc, if_pos hc]
    exact bs (means_f hI 2 (by omega) h0 hk) rfl
  · rw [if_neg hc, if_neg hc]
theorem HistoryMeans : terracelaw14_HistoryMeans.Pure := by
  intro L hL hok
  refine ⟨3000, ?_⟩
  unfold terracelaw14_HistoryMeans.f
  by_cases c1 : (L.length : Int) > 100
  · rw [if_pos c1]; exact bs (awake14_k (by omega)) rfl
  rw [if_neg c1]
  have hI := inv_play L Inv.start
  have e := played_f L (by omega) hok (k := 3000) (by omega)
  generalize hp : play L (0, []) = s at hI e
  obtain ⟨o, c⟩ := s
  have hc := hI.hc
  simp only at e hc hI
  refine bs e ?_
  rw [if_pos rfl]
  by_cases h0 : c.length = 0
  · rw [if_pos (by simp only; omega)]
    refine bs (mean_none o c h0) ?_
    rw [if_pos rfl]
    have ed : history_History_Discounted.f 3000 o c = some 18446744073709551615 := by
      unfold history_History_Discounted.f
      rw [if_pos (by omega)]
    refine bs ed ?_
    rw [if_pos rfl]
    have er : history_History_Rate.f 3000 o c = some 0 := by
      unfold history_History_Rate.f
      rw [if_pos (by omega)]
    refine bs er ?_
    rw [if_pos rfl]
    exact bs (awake14_k (by omega)) rfl
  rw [if_neg (by simp only; omega)]
  have ho := hI.ho
  have hoc : ∀ x ∈ o :: c, R20 x := fun x hx => by
    rcases List.mem_cons.1 hx with rfl | hx
    · exact hI.ho
    · exact hI.hb x hx
  have htk : ∀ x ∈ (o :: c).take 8, R20 x := fun x hx => hoc x (List.mem_of_mem_take hx)
  have htl : ((o :: c).take 8).length ≤ 8 := by rw [List.length_take]; omega
  have ht0 : ((o :: c).take 8).length ≠ 0 := by rw [List.length_take]; simp
  have hr := Rr_r hI.hb 1 (by omega) h0
  refine bs (rsum_f hI.hb hc false 1 (by simp) (by omega)) ?_
  refine bs (rratio_f hI.hb hc h0 1 (by omega)) ?_
  refine bs (front_f o c (by omega) (by omega)) ?_
  obtain ⟨e1, e2, e3⟩ := take_mn (o :: c)
  rw [if_pos e2, if_pos e3, e1]
  refine bs rfl ?_
  refine bs (rsum_f htk htl false 1 (by simp) (by omega)) ?_
  refine bs (rratio_f htk htl ht0 1 (by omega)) ?_
  rw [Rr_take]
  refine bs (mean_f hI h0 (by omega)) ?_
  rw [if_pos (show mean o c = mx (Rr c 1) (Rr (o :: c) 1) from rfl), u64 (n := o) (by omega) (by omega), u64 (n := o * 4294967296) (by omega) (by omega), u64 (n := 2 * Rr c 1) (by omega) (by omega)]
  by_cases hc : o * 4294967296 > 2 * Rr c 1
  · rw [if_pos hc]
    refine bs (rsum_f htk htl true 2 (by simp) (by omega)) ?_
    refine bs (rratio_f htk htl ht0 2 (by omega)) ?_
    rw [Rr_take]
    simp only [terracelaw14_HistoryMeans.j0]
    refine bs (disc_f hI h0 (by omega)) ?_
    rw [if_pos hc, if_pos rfl]
    exact bs (awake14_k (by omega)) rfl
  · rw [if_neg hc]
    simp only [terracelaw14_HistoryMeans.j0]
    refine bs (disc_f hI h0 (by omega)) ?_
    rw [if_neg hc, if_pos rfl]
    exact bs (awake14_k (by omega)) rfl

end Go.Proofs.Ytlfjcelippfanaa.Pure
