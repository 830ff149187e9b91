/- Proved: any rate is told as the document says, each step rounded (for every input that the statement's guards let in; the Go function returns true and leaves its arguments as they were). -/
import Derived.Test.YtfnlepedmppncaaPEqnRatesx4
set_option linter.unusedVariables false
set_option linter.unusedSimpArgs false
namespace Go.Proofs.Ytfnlepedmppncaa.Pure
open Go.RowKit Go.Proofs.Ytfnlepedmppncaa.PEqnRates Go.Proofs.YtfnlepedmppncaaW.PrintWords Go.Proofs.YtfnlepedmppncaaW.PrintLast Go.Proofs.YtfnlepedmppncaaW.PrintMore

theorem wf_u8 {a : Int} (h : (Lit.int .u8 a).wf = true) : 0 ≤ a ∧ a ≤ 255 := by
  simpa [Lit.wf, IntKind.min, IntKind.max, IntKind.signed, IntKind.bits] using h
theorem wf_u16 {a : Int} (h : (Lit.int .u16 a).wf = true) : 0 ≤ a ∧ a ≤ 65535 := by
  simpa [Lit.wf, IntKind.min, IntKind.max, IntKind.signed, IntKind.bits] using h
theorem wf_u32 {a : Int} (h : (Lit.int .u32 a).wf = true) : 0 ≤ a ∧ a ≤ 4294967295 := by
  simpa [Lit.wf, IntKind.min, IntKind.max, IntKind.signed, IntKind.bits] using h
theorem wf_u64 {a : Int} (h : (Lit.int .u64 a).wf = true) : 0 ≤ a ∧ a ≤ 18446744073709551615 := by
  simpa [Lit.wf, IntKind.min, IntKind.max, IntKind.signed, IntKind.bits] using h
theorem wf_i64 {a : Int} (h : (Lit.int .i64 a).wf = true) : -9223372036854775808 ≤ a ∧ a ≤ 9223372036854775807 := by
  simpa [Lit.wf, IntKind.min, IntKind.max, IntKind.signed, IntKind.bits] using h
theorem w64 {n : Int} (h : -9223372036854775808 ≤ n) (h' : n ≤ 9223372036854775807) : wrap64 n = n := by
  unfold wrap64; omega
theorem fuel {k n : Nat} (h : n < k) : ∃ m, k = m + 1 ∧ n ≤ m := ⟨k - 1, by omega, by omega⟩
theorem u64 {n : Int} (h : 0 ≤ n) (h' : n ≤ 18446744073709551615) : IntKind.u64.wrap n = n := by
  simp only [IntKind.wrap, IntKind.bits, IntKind.signed]; simp; omega
theorem wu (n : Int) : IntKind.u64.wrap n = n % 18446744073709551616 := by
  simp [IntKind.wrap, IntKind.bits, IntKind.signed]
theorem wraps_u64 (n : Int) (h0 : 0 ≤ n) (h1 : n < 2 ^ 64) : IntKind.u64.wrap n = n := by rw [wu]; omega
theorem and32 (x : Int) (h0 : 0 ≤ x) (h1 : x < 18446744073709551616) : Go.bits .and .u64 x 4294967295 = x % 4294967296 :=
  bits_mask .u64 64 (by decide) wraps_u64 32 (by decide) x h0 h1
theorem or_join (i : Nat) (x y : Int) (h0 : 0 ≤ x) (h1 : x % 2 ^ i = 0) (h2 : x < 18446744073709551616) (h3 : 0 ≤ y) (h4 : y < 2 ^ i) (h5 : y < 18446744073709551616) : Go.bits .or .u64 x y = x + y :=
  bits_join .u64 64 (by decide) wraps_u64 i x y h0 h1 h2 h3 h4 h5
theorem shl_u (x y : Int) (h0 : 0 ≤ y) (h1 : y ≤ 64) : shl .u64 x y = (x * 2 ^ y.toNat) % 18446744073709551616 := by
  unfold shl; rw [wu, show min y.toNat (IntKind.bits .u64) = y.toNat from Nat.min_eq_left (by simp [IntKind.bits]; omega)]
theorem shr_u (x y : Int) (h0 : 0 ≤ y) (h1 : y ≤ 64) : shr .u64 x y = x / 2 ^ y.toNat := by
  unfold shr; rw [show min y.toNat (IntKind.bits .u64) = y.toNat from Nat.min_eq_left (by simp [IntKind.bits]; omega)]
/-- one call behind another (no unfolding: the kernel need not look into what is called) -/
theorem bs {α β : Type} {x : Option α} {f : α → Option β} {a : α} {r : Option β} (h : x = some a) (h2 : f a = r) : x.bind f = r := by
  subst h; exact h2
def addv (a b : Int) : Int := if a + b > 18446744073709551615 then 18446744073709551615 else a + b
theorem add_f (a b : Int) (ha : 0 ≤ a ∧ a ≤ 18446744073709551615) (hb : 0 ≤ b ∧ b ≤ 18446744073709551615) : fix_F_Add.f a b = some (addv a b) := by
  unfold fix_F_Add.f addv addC addS
  by_cases h : a + b > 18446744073709551615
  · rw [if_neg (by omega), if_pos h]
  · rw [if_pos (by omega), if_neg h]; congr 1; omega
theorem addv_range (a b : Int) (ha : 0 ≤ a ∧ a ≤ 18446744073709551615) (hb : 0 ≤ b ∧ b ≤ 18446744073709551615) : 0 ≤ addv a b ∧ addv a b ≤ 18446744073709551615 := by
  unfold addv; split <;> omega
/-- One digit of a long division by a number of 64 bits whose highest bit is set. -/
theorem digit_ok (q rhat yn1 yn0 un un1 : Int) (hy1 : 2147483648 ≤ yn1) (hy1' : yn1 ≤ 4294967295) (h0 : 0 ≤ yn0 ∧ yn0 ≤ 4294967295) (h1 : 0 ≤ un1 ∧ un1 ≤ 4294967295) (hu : 0 ≤ un) (hlt : un < yn1 * 4294967296 + yn0)
    (hq : q * yn1 + rhat = un) (hr : 0 ≤ rhat) (hge : un * 4294967296 + un1 < (q + 1) * (yn1 * 4294967296 + yn0)) (hle : q * yn0 ≤ 4294967296 * rhat + un1) :
    (un * 4294967296 + un1) / (yn1 * 4294967296 + yn0) = q := by
  have e1 : q * (yn1 * 4294967296 + yn0) ≤ un * 4294967296 + un1 := by
    have : q * (yn1 * 4294967296 + yn0) = (q * yn1) * 4294967296 + q * yn0 := by grind
    omega
  have hp : 0 < yn1 * 4294967296 + yn0 := by omega
  apply Int.le_antisymm
  · have := Int.ediv_lt_of_lt_mul hp hge
    omega
  · exact Int.le_ediv_of_mul_le hp e1
theorem q1_le (un yn1 yn0 : Int) (hy1 : 2147483648 ≤ yn1) (hy1' : yn1 ≤ 4294967295) (h0 : 0 ≤ yn0 ∧ yn0 ≤ 4294967295) (hu : 0 ≤ un) (hlt : un < yn1 * 4294967296 + yn0) : 0 ≤ un / yn1 ∧ un / yn1 ≤ 4294967297 := by
  refine ⟨Int.ediv_nonneg hu (by omega), ?_⟩
  have : un / yn1 < 4294967298 := Int.ediv_lt_of_lt_mul (by omega) (by omega)
  omega
/-- the estimate is not too small -/
theorem q_ge (q yn1 yn0 un un1 rhat : Int) (hy1 : 2147483648 ≤ yn1) (h0 : 0 ≤ yn0) (h1 : un1 ≤ 4294967295) (hq : q * yn1 + rhat = un) (hr : rhat < yn1) (hq0 : 0 ≤ q) :
    un * 4294967296 + un1 < (q + 1) * (yn1 * 4294967296 + yn0) := by
  have e : (q + 1) * (yn1 * 4294967296 + yn0) = (q * yn1) * 4294967296 + yn1 * 4294967296 + (q + 1) * yn0 := by grind
  have : 0 ≤ (q + 1) * yn0 := Int.mul_nonneg (by omega) h0
  omega
/-- one step down -/
theorem q_down (q yn1 yn0 un un1 rhat : Int) (hy1 : 2147483648 ≤ yn1) (h0 : 0 ≤ yn0 ∧ yn0 ≤ 4294967295) (h1 : 0 ≤ un1 ∧ un1 ≤ 4294967295) (hu : 0 ≤ un) (hlt : un < yn1 * 4294967296 + yn0) (hq : q * yn1 + rhat = un) (hd : q ≥ 4294967296 ∨ q * yn0 > 4294967296 * rhat + un1) :
    un * 4294967296 + un1 < (q - 1 + 1) * (yn1 * 4294967296 + yn0) ∧ (q - 1) * yn1 + (rhat + yn1) = un := by
  constructor
  · rw [Int.sub_add_cancel]
    rcases hd with hd | hd
    · have := Int.mul_le_mul_of_nonneg_right hd (show 0 ≤ yn1 * 4294967296 + yn0 by omega)
      omega
    · have : q * (yn1 * 4294967296 + yn0) = (q * yn1) * 4294967296 + q * yn0 := by grind
      omega
  · have : (q - 1) * yn1 = q * yn1 - yn1 := by grind
    omega
theorem mul_range (q y : Int) (hq : 0 ≤ q) (hq' : q ≤ 4294967297) (hy : 0 ≤ y) (hy' : y ≤ 4294967295) : 0 ≤ q * y ∧ q * y ≤ 18446744073709551615 := by
  refine ⟨Int.mul_nonneg hq hy, ?_⟩
  have := Int.mul_le_mul hq' hy' hy (by omega : (0 : Int) ≤ 4294967297)
  omega
/-- the first digit's loop: what it goes on with -/
theorem loop0 (s yn1 yn0 un un1 un0 : Int) (hy1 : 2147483648 ≤ yn1) (hy1' : yn1 ≤ 4294967295) (h0 : 0 ≤ yn0 ∧ yn0 ≤ 4294967295) (h1 : 0 ≤ un1 ∧ un1 ≤ 4294967295) (hu : 0 ≤ un) (hlt : un < yn1 * 4294967296 + yn0) (d : Nat) :
    ∀ (k : Nat) (q rhat : Int), 2 * d + 4 ≤ k → 0 ≤ q → q ≤ 4294967297 → q * yn1 + rhat = un → 0 ≤ rhat → rhat < 4294967296 → 4294967296 ≤ rhat + d * 2147483648 → un * 4294967296 + un1 < (q + 1) * (yn1 * 4294967296 + yn0) →
    ∃ k', k ≤ k' + 2 * d + 4 ∧ bits_Div64.l0 k (yn1 * 4294967296 + yn0) s yn1 yn0 un un1 un0 q rhat = bits_Div64.j2 k' (yn1 * 4294967296 + yn0) s yn1 yn0 un un1 un0 ((un * 4294967296 + un1) / (yn1 * 4294967296 + yn0)) := by
  induction d with
  | zero => intro k q rhat _ _ _ _ _ h2 h3; omega
  | succ d ih =>
    intro k q rhat hk hq0 hq1 hq hr hr1 hrd hge
    obtain ⟨k, rfl⟩ : ∃ m, k = m + 2 := ⟨k - 2, by omega⟩
    have hm := mul_range q yn0 hq0 hq1 h0.1 h0.2
    have hw : IntKind.u64.wrap (IntKind.u64.wrap (4294967296 * rhat) + un1) = 4294967296 * rhat + un1 := by rw [wu, wu]; omega
    have hw2 : IntKind.u64.wrap (q * yn0) = q * yn0 := by rw [wu]; omega
    have key : ∀ b, b = decide (q ≥ 4294967296 ∨ q * yn0 > 4294967296 * rhat + un1) →
        ∃ k', k + 2 ≤ k' + 2 * (d + 1) + 4 ∧ bits_Div64.j1 (k + 1) (yn1 * 4294967296 + yn0) s yn1 yn0 un un1 un0 q rhat b = bits_Div64.j2 k' (yn1 * 4294967296 + yn0) s yn1 yn0 un un1 un0 ((un * 4294967296 + un1) / (yn1 * 4294967296 + yn0)) := by
      intro b hb
      simp only [bits_Div64.j1]
      by_cases hd : q ≥ 4294967296 ∨ q * yn0 > 4294967296 * rhat + un1
      · rw [hb, if_pos (by simpa using hd)]
        obtain ⟨hg2, hq2⟩ := q_down q yn1 yn0 un un1 rhat hy1 h0 h1 hu hlt hq hd
        have hqp : 1 ≤ q := by
          rcases hd with hd | hd
          · omega
          · by_cases hz : q = 0
            · subst hz; omega
            · omega
        have hw3 : IntKind.u64.wrap (rhat + yn1) = rhat + yn1 := by rw [wu]; omega
        have hw4 : IntKind.u64.wrap (q - 1) = q - 1 := by rw [wu]; omega
        rw [hw3, hw4]
        by_cases hb2 : rhat + yn1 ≥ 4294967296
        · rw [if_pos hb2]
          have hm2 := mul_range (q - 1) yn0 (by omega) (by omega) h0.1 h0.2
          have hm3 : (q - 1) * yn0 ≤ 4294967296 * 4294967295 := Int.mul_le_mul (by omega) h0.2 h0.1 (by omega)
          have := digit_ok (q - 1) (rhat + yn1) yn1 yn0 un un1 hy1 hy1' h0 h1 hu hlt hq2 (by omega) hg2 (by omega)
          rw [this]
          exact ⟨k, by omega, rfl⟩
        · rw [if_neg hb2]
          obtain ⟨k', e1, e2⟩ := ih k (q - 1) (rhat + yn1) (by omega) (by omega) (by omega) hq2 (by omega) (by omega) (by omega) hg2
          exact ⟨k', by omega, e2⟩
      · rw [hb, if_neg (by simpa using hd)]
        have := digit_ok q rhat yn1 yn0 un un1 hy1 hy1' h0 h1 hu hlt hq hr hge (by omega)
        rw [this]
        exact ⟨k, by omega, rfl⟩
    simp only [bits_Div64.l0]
    by_cases hc : q ≥ 4294967296
    · rw [if_pos hc]; exact key true (by simp [hc])
    · rw [if_neg hc, hw, hw2]; exact key _ (by simp [hc])
/-- the second digit's loop -/
theorem loop1 (s yn1 yn0 un un1 q1 : Int) (hs : 0 ≤ s) (hy1 : 2147483648 ≤ yn1) (hy1' : yn1 ≤ 4294967295) (h0 : 0 ≤ yn0 ∧ yn0 ≤ 4294967295) (h1 : 0 ≤ un1 ∧ un1 ≤ 4294967295) (hu : 0 ≤ un) (hlt : un < yn1 * 4294967296 + yn0) (d : Nat) :
    ∀ (k : Nat) (q rhat : Int), 2 * d + 4 ≤ k → 0 ≤ q → q ≤ 4294967297 → q * yn1 + rhat = un → 0 ≤ rhat → rhat < 4294967296 → 4294967296 ≤ rhat + d * 2147483648 → un * 4294967296 + un1 < (q + 1) * (yn1 * 4294967296 + yn0) →
    ∃ r, bits_Div64.l1 k (yn1 * 4294967296 + yn0) s yn1 yn0 un1 q1 rhat un q = some (IntKind.u64.wrap ((IntKind.u64.wrap (q1 * 4294967296)) + ((un * 4294967296 + un1) / (yn1 * 4294967296 + yn0))), r) := by
  induction d with
  | zero => intro k q rhat _ _ _ _ _ h2 h3; omega
  | succ d ih =>
    intro k q rhat hk hq0 hq1 hq hr hr1 hrd hge
    obtain ⟨k, rfl⟩ : ∃ m, k = m + 2 := ⟨k - 2, by omega⟩
    have hm := mul_range q yn0 hq0 hq1 h0.1 h0.2
    have hw : IntKind.u64.wrap (IntKind.u64.wrap (4294967296 * rhat) + un1) = 4294967296 * rhat + un1 := by rw [wu, wu]; omega
    have hw2 : IntKind.u64.wrap (q * yn0) = q * yn0 := by rw [wu]; omega
    have key : ∀ b, b = decide (q ≥ 4294967296 ∨ q * yn0 > 4294967296 * rhat + un1) →
        ∃ r, bits_Div64.j4 (k + 1) (yn1 * 4294967296 + yn0) s yn1 yn0 un1 q1 rhat un q b = some (IntKind.u64.wrap ((IntKind.u64.wrap (q1 * 4294967296)) + ((un * 4294967296 + un1) / (yn1 * 4294967296 + yn0))), r) := by
      intro b hb
      simp only [bits_Div64.j4]
      by_cases hd : q ≥ 4294967296 ∨ q * yn0 > 4294967296 * rhat + un1
      · rw [hb, if_pos (by simpa using hd)]
        obtain ⟨hg2, hq2⟩ := q_down q yn1 yn0 un un1 rhat hy1 h0 h1 hu hlt hq hd
        have hqp : 1 ≤ q := by
          rcases hd with hd | hd
          · omega
          · by_cases hz : q = 0
            · subst hz; omega
            · omega
        have hw3 : IntKind.u64.wrap (rhat + yn1) = rhat + yn1 := by rw [wu]; omega
        have hw4 : IntKind.u64.wrap (q - 1) = q - 1 := by rw [wu]; omega
        rw [hw3, hw4]
        by_cases hb2 : rhat + yn1 ≥ 4294967296
        · rw [if_pos hb2, if_pos hs]
          have hm2 := mul_range (q - 1) yn0 (by omega) (by omega) h0.1 h0.2
          have hm3 : (q - 1) * yn0 ≤ 4294967296 * 4294967295 := Int.mul_le_mul (by omega) h0.2 h0.1 (by omega)
          have := digit_ok (q - 1) (rhat + yn1) yn1 yn0 un un1 hy1 hy1' h0 h1 hu hlt hq2 (by omega) hg2 (by omega)
          rw [this]
          exact ⟨_, rfl⟩
        · rw [if_neg hb2]
          exact ih k (q - 1) (rhat + yn1) (by omega) (by omega) (by omega) hq2 (by omega) (by omega) (by omega) hg2
      · rw [hb, if_neg (by simpa using hd), if_pos hs]
        have := digit_ok q rhat yn1 yn0 un un1 hy1 hy1' h0 h1 hu hlt hq hr hge (by omega)
        rw [this]
        exact ⟨_, rfl⟩
    simp only [bits_Div64.l1]
    by_cases hc : q ≥ 4294967296
    · rw [if_pos hc]; exact key true (by simp [hc])
    · rw [if_neg hc, hw, hw2]; exact key _ (by simp [hc])
theorem start_ok (un yn1 : Int) (hy1 : 2147483648 ≤ yn1) (hy1' : yn1 ≤ 4294967295) (hu : 0 ≤ un) (hu' : un ≤ 18446744073709551615) (hq : 0 ≤ un / yn1 ∧ un / yn1 ≤ 4294967297) :
    IntKind.u64.wrap (Int.tdiv un yn1) = un / yn1 ∧ IntKind.u64.wrap (un - IntKind.u64.wrap (un / yn1 * yn1)) = un % yn1 ∧ un / yn1 * yn1 + un % yn1 = un ∧ 0 ≤ un % yn1 ∧ un % yn1 < yn1 := by
  have e := Int.mul_ediv_add_emod un yn1
  rw [Int.mul_comm] at e
  have h1 := Int.emod_nonneg un (show yn1 ≠ 0 by omega)
  have h2 := Int.emod_lt_of_pos un (show 0 < yn1 by omega)
  rw [Int.tdiv_eq_ediv_of_nonneg hu]
  refine ⟨by rw [wu]; omega, ?_, e, h1, h2⟩
  have h3 : 0 ≤ un / yn1 * yn1 := Int.mul_nonneg hq.1 (by omega)
  rw [wu, wu]; omega
/-- both digits -/
theorem div_two (s y un un1 un0 : Int) (hs : 0 ≤ s) (hy : 9223372036854775808 ≤ y) (hy' : y ≤ 18446744073709551615) (h1 : 0 ≤ un1 ∧ un1 ≤ 4294967295) (h0 : 0 ≤ un0 ∧ un0 ≤ 4294967295) (hu : 0 ≤ un) (hlt : un < y) {k : Nat} (hk : 40 ≤ k) :
    ∃ r, bits_Div64.l0 k y s (y / 4294967296) (y % 4294967296) un un1 un0 (IntKind.u64.wrap (Int.tdiv un (y / 4294967296))) (IntKind.u64.wrap (un - IntKind.u64.wrap (IntKind.u64.wrap (Int.tdiv un (y / 4294967296)) * (y / 4294967296)))) = some ((un * 18446744073709551616 + un1 * 4294967296 + un0) / y, r) := by
  obtain ⟨yn1, hyn1⟩ : ∃ v, y / 4294967296 = v := ⟨_, rfl⟩
  obtain ⟨yn0, hyn0⟩ : ∃ v, y % 4294967296 = v := ⟨_, rfl⟩
  have ey : y = yn1 * 4294967296 + yn0 := by omega
  rw [hyn1, hyn0]
  have b1 : 2147483648 ≤ yn1 := by omega
  have b2 : yn1 ≤ 4294967295 := by omega
  have b3 : 0 ≤ yn0 ∧ yn0 ≤ 4294967295 := by omega
  rw [ey] at hlt ⊢
  have hq := q1_le un yn1 yn0 b1 b2 b3 hu hlt
  obtain ⟨s1, s2, s3, s4, s5⟩ := start_ok un yn1 b1 b2 hu (by omega) hq
  rw [s1, s2]
  obtain ⟨k', hk', e⟩ := loop0 s yn1 yn0 un un1 un0 b1 b2 b3 h1 hu hlt 2 k (un / yn1) (un % yn1) (by omega) hq.1 hq.2 s3 s4 (by omega) (by omega) (q_ge _ _ _ _ _ _ b1 b3.1 h1.2 s3 s5 hq.1)
  rw [e]
  obtain ⟨k', rfl⟩ : ∃ m, k' = m + 1 := ⟨k' - 1, by omega⟩
  have hp : 0 < yn1 * 4294967296 + yn0 := by omega
  obtain ⟨Q1, hQ1⟩ : ∃ v, (un * 4294967296 + un1) / (yn1 * 4294967296 + yn0) = v := ⟨_, rfl⟩
  obtain ⟨V, hV⟩ : ∃ v, (un * 4294967296 + un1) % (yn1 * 4294967296 + yn0) = v := ⟨_, rfl⟩
  have eN := Int.mul_ediv_add_emod (un * 4294967296 + un1) (yn1 * 4294967296 + yn0)
  have v0 := Int.emod_nonneg (un * 4294967296 + un1) (show yn1 * 4294967296 + yn0 ≠ 0 by omega)
  have v1 := Int.emod_lt_of_pos (un * 4294967296 + un1) hp
  rw [hQ1, hV] at eN
  rw [hV] at v0 v1
  rw [Int.mul_comm] at eN
  have hQ0 : 0 ≤ Q1 := by rw [← hQ1]; exact Int.ediv_nonneg (by omega) (by omega)
  have hQm : Q1 ≤ 4294967295 := by
    have : (un * 4294967296 + un1) / (yn1 * 4294967296 + yn0) < 4294967296 := Int.ediv_lt_of_lt_mul hp (by omega)
    omega
  rw [hQ1]
  simp only [bits_Div64.j2]
  rw [if_neg (by omega)]
  have hun : IntKind.u64.wrap (IntKind.u64.wrap (IntKind.u64.wrap (un * 4294967296) + un1) - IntKind.u64.wrap (Q1 * (yn1 * 4294967296 + yn0))) = V := by
    have : 0 ≤ Q1 * (yn1 * 4294967296 + yn0) := Int.mul_nonneg hQ0 (by omega)
    generalize Q1 * (yn1 * 4294967296 + yn0) = p at *
    rw [wu, wu, wu, wu]; omega
  rw [hun]
  have hq' := q1_le V yn1 yn0 b1 b2 b3 v0 v1
  obtain ⟨z1, z2, z3, z4, z5⟩ := start_ok V yn1 b1 b2 v0 (by omega) hq'
  rw [z1, z2]
  obtain ⟨r, hr⟩ := loop1 s yn1 yn0 V un0 Q1 hs b1 b2 b3 h0 v0 v1 2 k' (V / yn1) (V % yn1) (by omega) hq'.1 hq'.2 z3 z4 (by omega) (by omega) (q_ge _ _ _ _ _ _ b1 b3.1 h0.2 z3 z5 hq'.1)
  refine ⟨r, ?_⟩
  rw [hr]
  have hQ2 : 0 ≤ (V * 4294967296 + un0) / (yn1 * 4294967296 + yn0) := Int.ediv_nonneg (by omega) (by omega)
  have hQ3 : (V * 4294967296 + un0) / (yn1 * 4294967296 + yn0) < 4294967296 := Int.ediv_lt_of_lt_mul hp (by omega)
  have hfin : (un * 18446744073709551616 + un1 * 4294967296 + un0) / (yn1 * 4294967296 + yn0) = Q1 * 4294967296 + (V * 4294967296 + un0) / (yn1 * 4294967296 + yn0) := by
    have : un * 18446744073709551616 + un1 * 4294967296 + un0 = (V * 4294967296 + un0) + (yn1 * 4294967296 + yn0) * (Q1 * 4294967296) := by
      have : (yn1 * 4294967296 + yn0) * (Q1 * 4294967296) = Q1 * (yn1 * 4294967296 + yn0) * 4294967296 := by grind
      omega
    rw [this, Int.add_mul_ediv_left _ _ (by omega)]; omega
  rw [hfin, wu, wu]
  congr 2
  omega
def divv (a b : Int) : Int := if b ≤ a / 4294967296 then 18446744073709551615 else a * 4294967296 / b
theorem bl_spec : ∀ (f x : Nat), x < 2 ^ f → x ≠ 0 → 1 ≤ Lib.bitLenAux f x ∧ 2 ^ (Lib.bitLenAux f x - 1) ≤ x ∧ x < 2 ^ Lib.bitLenAux f x
  | 0, x, h, h0 => by omega
  | f + 1, x, h, h0 => by
    simp only [Lib.bitLenAux]
    rw [if_neg h0]
    by_cases hz : x / 2 = 0
    · have : x = 1 := by omega
      subst this
      cases f with
      | zero => simp [Lib.bitLenAux]
      | succ f => simp [Lib.bitLenAux]
    · obtain ⟨h1, h2, h3⟩ := bl_spec f (x / 2) (by rw [Nat.pow_succ] at h; omega) hz
      generalize Lib.bitLenAux f (x / 2) = m at *
      obtain ⟨m, rfl⟩ : ∃ j, m = j + 1 := ⟨m - 1, by omega⟩
      refine ⟨by omega, ?_, ?_⟩
      · rw [show 1 + (m + 1) - 1 = m + 1 from by omega, Nat.pow_succ]
        rw [Nat.add_sub_cancel] at h2; omega
      · rw [show 1 + (m + 1) = (m + 1) + 1 from by omega, Nat.pow_succ]; omega
theorem div64_f (hi lo y : Int) (h0 : 0 ≤ hi) (h1 : hi < y) (hl : 0 ≤ lo ∧ lo ≤ 18446744073709551615) (hy : y ≤ 18446744073709551615) {k : Nat} (hk : 40 ≤ k) :
    ∃ r, bits_Div64.f k hi lo y = some ((hi * 18446744073709551616 + lo) / y, r) := by
  unfold bits_Div64.f
  rw [if_neg (by omega), if_neg (by omega)]
  by_cases hz : hi = 0
  · rw [if_pos hz, hz]
    refine ⟨Int.tmod lo y, ?_⟩
    rw [Int.tdiv_eq_ediv_of_nonneg hl.1, wu]
    have a1 : 0 ≤ lo / y := Int.ediv_nonneg hl.1 (by omega)
    have a2 : lo / y ≤ lo := Int.ediv_le_self _ hl.1
    rw [show lo / y % 18446744073709551616 = lo / y from by omega]; simp
  · rw [if_neg hz]
    obtain ⟨b1, b2, b3⟩ := bl_spec 64 y.toNat (by omega) (by omega)
    have b4 : Lib.bitLen y.toNat ≤ 64 := Lib.bitLen_le y.toNat 64 (by omega) (by omega)
    change 1 ≤ Lib.bitLen y.toNat at b1
    change 2 ^ (Lib.bitLen y.toNat - 1) ≤ y.toNat at b2
    change y.toNat < 2 ^ Lib.bitLen y.toNat at b3
    have hlz : bits_LeadingZeros64.f y = some (64 - (Lib.bitLen y.toNat : Int)) := by
      unfold bits_LeadingZeros64.f
      rw [if_pos (by omega), if_pos hy]
    rw [hlz]
    generalize Lib.bitLen y.toNat = L at *
    clear hlz
    simp only [Option.bind_some]
    obtain ⟨s, hs⟩ : ∃ s : Nat, s = 64 - L := ⟨_, rfl⟩
    have hw : IntKind.u64.wrap (64 - (L : Int)) = (s : Int) := by rw [wu]; omega
    have hw2 : IntKind.u64.wrap (64 - (s : Int)) = (L : Int) := by rw [wu]; omega
    rw [hw, hw2, if_pos (by omega), if_pos (by omega)]
    rw [shl_u y s (by omega) (by omega), shl_u hi s (by omega) (by omega), shl_u lo s (by omega) (by omega), shr_u lo L (by omega) (by omega)]
    rw [Int.toNat_natCast, Int.toNat_natCast]
    have hP : (0 : Int) < 2 ^ s := Int.pow_pos (by omega)
    have hLs : (2 : Int) ^ L * 2 ^ s = 18446744073709551616 := by
      rw [← Int.pow_add, show L + s = 64 from by omega]; rfl
    have hLs1 : (2 : Int) ^ (L - 1) * 2 ^ s = 9223372036854775808 := by
      rw [← Int.pow_add, show L - 1 + s = 63 from by omega]; rfl
    have hPs : (2 : Int) ^ s < 18446744073709551616 := by
      have h1 : (0 : Int) < 2 ^ (L - 1) := Int.pow_pos (by omega)
      have := Int.mul_le_mul_of_nonneg_right (show (1 : Int) ≤ 2 ^ (L - 1) by omega) (show (0 : Int) ≤ 2 ^ s by omega)
      omega
    have y1 : y < 2 ^ L := by
      have : (y.toNat : Int) < ((2 ^ L : Nat) : Int) := by exact_mod_cast b3
      have e : ((2 ^ L : Nat) : Int) = 2 ^ L := by simp
      omega
    have y0 : 2 ^ (L - 1) ≤ y := by
      have : ((2 ^ (L - 1) : Nat) : Int) ≤ (y.toNat : Int) := by exact_mod_cast b2
      have e : ((2 ^ (L - 1) : Nat) : Int) = 2 ^ (L - 1) := by simp
      omega
    have z1 : y * 2 ^ s < 18446744073709551616 := by rw [← hLs]; exact Int.mul_lt_mul_of_pos_right y1 hP
    have z0 : 9223372036854775808 ≤ y * 2 ^ s := by rw [← hLs1]; exact Int.mul_le_mul_of_nonneg_right y0 (by omega)
    have x1 : (hi + 1) * 2 ^ s ≤ y * 2 ^ s := Int.mul_le_mul_of_nonneg_right (by omega) (by omega)
    have x2 : (hi + 1) * 2 ^ s = hi * 2 ^ s + 2 ^ s := by grind
    have x3 : 0 ≤ hi * 2 ^ s := Int.mul_nonneg h0 (by omega)
    have hLp : (0 : Int) < 2 ^ L := Int.pow_pos (by omega)
    have l1 : 0 ≤ lo / 2 ^ L := Int.ediv_nonneg hl.1 (by omega)
    have l2 : lo / 2 ^ L < 2 ^ s := Int.ediv_lt_of_lt_mul hLp (by rw [Int.mul_comm, hLs]; omega)
    have hm : hi * 2 ^ s % 2 ^ s = 0 := Int.mul_emod_left _ _
    have ll : lo * 2 ^ s / 18446744073709551616 = lo / 2 ^ L := by
      rw [← hLs]; exact Int.mul_ediv_mul_of_pos_left _ _ hP
    have ly : y * 2 ^ s % 18446744073709551616 = y * 2 ^ s := by omega
    have lh : hi * 2 ^ s % 18446744073709551616 = hi * 2 ^ s := by omega
    rw [ly, lh, or_join s (hi * 2 ^ s) (lo / 2 ^ L) x3 hm (by omega) l1 l2 (by omega), and32 (y * 2 ^ s) (by omega) z1, and32 _ (by omega) (by omega)]
    rw [if_neg (by omega)]
    have hun : hi * 2 ^ s + lo / 2 ^ L < y * 2 ^ s := by omega
    obtain ⟨r, hr⟩ := div_two s (y * 2 ^ s) (hi * 2 ^ s + lo / 2 ^ L) (lo * 2 ^ s % 18446744073709551616 / 4294967296) (lo * 2 ^ s % 18446744073709551616 % 4294967296) (by omega) z0 (by omega) (by omega) (by omega) (by omega) hun hk
    refine ⟨r, ?_⟩
    rw [hr]
    congr 2
    have hx : (hi * 2 ^ s + lo / 2 ^ L) * 18446744073709551616 + lo * 2 ^ s % 18446744073709551616 / 4294967296 * 4294967296 + lo * 2 ^ s % 18446744073709551616 % 4294967296 = (hi * 18446744073709551616 + lo) * 2 ^ s := by
      have e1 : (hi * 18446744073709551616 + lo) * 2 ^ s = hi * 2 ^ s * 18446744073709551616 + lo * 2 ^ s := by grind
      omega
    rw [hx]
    exact Int.mul_ediv_mul_of_pos_left _ _ hP
theorem quot_f (a b : Int) (ha : 0 ≤ a ∧ a ≤ 18446744073709551615) (hb : 0 ≤ b ∧ b ≤ 18446744073709551615) {k : Nat} (hk : 40 ≤ k) : fix_quotient.f k a b = some (divv a b) := by
  unfold fix_quotient.f divv
  split
  · rfl
  · rw [wu]
    obtain ⟨r, hr⟩ := div64_f (a / 4294967296) (a * 4294967296 % 18446744073709551616) b (by omega) (by omega) (by omega) hb.2 hk
    rw [hr]
    simp only [Option.bind_some]
    congr 2; omega
theorem divv_range (a b : Int) (ha : 0 ≤ a ∧ a ≤ 18446744073709551615) (hb : 0 ≤ b) : 0 ≤ divv a b ∧ divv a b ≤ 18446744073709551615 := by
  unfold divv
  split
  · omega
  · refine ⟨Int.ediv_nonneg (by omega) hb, ?_⟩
    have : a * 4294967296 / b < 18446744073709551616 := Int.ediv_lt_of_lt_mul (by omega) (by omega)
    omega
def mulv (a b : Int) : Int := if a * b / 79228162514264337593543950336 = 0 then a * b / 4294967296 else 18446744073709551615
theorem mul64_range (a b : Int) (ha : 0 ≤ a ∧ a ≤ 18446744073709551615) (hb : 0 ≤ b ∧ b ≤ 18446744073709551615) : 0 ≤ a * b ∧ a * b ≤ 340282366920938463426481119284349108225 := by
  refine ⟨Int.mul_nonneg ha.1 hb.1, ?_⟩
  have := Int.mul_le_mul ha.2 hb.2 hb.1 (by omega : (0 : Int) ≤ 18446744073709551615)
  omega
theorem shifted_f (p : Int) (h0 : 0 ≤ p) (h1 : p ≤ 340282366920938463426481119284349108225) : fix_shifted.f (p / 18446744073709551616) (p % 18446744073709551616) = some (if p / 79228162514264337593543950336 = 0 then p / 4294967296 else 18446744073709551615) := by
  unfold fix_shifted.f
  have e : p / 18446744073709551616 / 4294967296 = p / 79228162514264337593543950336 := by omega
  rw [e]
  by_cases h : p / 79228162514264337593543950336 = 0
  · rw [if_pos h, if_pos h, wu, or_join 32 _ _ (by omega) (by omega) (by omega) (by omega) (by omega) (by omega)]
    congr 1; omega
  · rw [if_neg h, if_neg h]
theorem mul64_f (a b : Int) (ha : 0 ≤ a ∧ a ≤ 18446744073709551615) (hb : 0 ≤ b ∧ b ≤ 18446744073709551615) : bits_Mul64.f a b = some (a * b / 18446744073709551616, a * b % 18446744073709551616) := by
  unfold bits_Mul64.f; rw [if_pos ⟨ha.1, ha.2, hb.1, hb.2⟩]
theorem mul_f (a b : Int) (ha : 0 ≤ a ∧ a ≤ 18446744073709551615) (hb : 0 ≤ b ∧ b ≤ 18446744073709551615) : fix_F_Mul.f a b = some (mulv a b) := by
  unfold fix_F_Mul.f mulv
  have h := mul64_range a b ha hb
  rw [mul64_f a b ha hb]; simp only [Option.bind_some]
  rw [shifted_f _ h.1 h.2]; rfl
theorem mulv_range (a b : Int) (ha : 0 ≤ a ∧ a ≤ 18446744073709551615) (hb : 0 ≤ b ∧ b ≤ 18446744073709551615) : 0 ≤ mulv a b ∧ mulv a b ≤ 18446744073709551615 := by
  have h := mul64_range a b ha hb
  unfold mulv; split <;> omega
/-- r is the square root of n, rounded down. -/
def IsRoot (n r : Int) : Prop := 0 ≤ r ∧ r * r ≤ n ∧ n < (r + 1) * (r + 1)
theorem root_l (a : Int) (ha : 0 ≤ a ∧ a ≤ 18446744073709551615) : ∀ (d k : Nat) (r : Int), d ≤ 48 → d < k → 0 ≤ r → r % 2 ^ d = 0 → r + 2 ^ d ≤ 281474976710656 → r * r ≤ a * 4294967296 → a * 4294967296 < (r + 2 ^ d) * (r + 2 ^ d) → ∃ q, fix_F_Root.l0 k a r ((d : Int) - 1) = some q ∧ IsRoot (a * 4294967296) q ∧ q < 281474976710656
  | 0, k, r, hd, hk, h0, hm, hr, h1, h2 => by
    obtain ⟨k, rfl⟩ : ∃ m, k = m + 1 := ⟨k - 1, by omega⟩
    refine ⟨r, ?_, ⟨h0, h1, by simpa using h2⟩, by simp at hr; omega⟩
    simp only [fix_F_Root.l0]
    rw [if_neg (by omega)]
  | d + 1, k, r, hd, hk, h0, hm, hr, h1, h2 => by
    obtain ⟨k, rfl⟩ : ∃ m, k = m + 1 := ⟨k - 1, by omega⟩
    have hP : (0 : Int) < 2 ^ d := Int.pow_pos (by omega)
    obtain ⟨P, hPe⟩ : ∃ P : Int, 2 ^ d = P := ⟨_, rfl⟩
    have e2 : (2 : Int) ^ (d + 1) = 2 * P := by rw [Int.pow_succ, hPe]; omega
    rw [e2] at hm hr h2
    rw [hPe] at hP
    have hs : shl .u64 1 (((d + 1 : Nat) : Int) - 1) = P := by
      rw [shl_u 1 _ (by omega) (by omega), show (((d + 1 : Nat) : Int) - 1).toNat = d from by omega, hPe]; omega
    have hmd : r % P = 0 := by
      have := Int.emod_emod_of_dvd r (show P ∣ 2 * P from ⟨2, by omega⟩)
      rw [hm] at this; simpa using this.symm
    have hj : Go.bits .or .u64 r P = r + P := or_join (d + 1) r P h0 (by rw [e2]; exact hm) (by omega) (by omega) (by rw [e2]; omega) (by omega)
    have hn : 0 ≤ r + P ∧ r + P ≤ 18446744073709551615 := by omega
    have hsq : 0 ≤ (r + P) * (r + P) := Int.mul_nonneg hn.1 hn.1
    have hsq2 : (r + P) * (r + P) ≤ 281474976710656 * 281474976710656 := Int.mul_le_mul (by omega) (by omega) (by omega) (by omega)
    simp only [fix_F_Root.l0]
    rw [if_pos (by omega), if_pos (by omega), hs, hj, mul64_f _ _ hn hn]
    simp only [Option.bind_some]
    rw [w64 (by omega) (by omega), wu]
    have ed : (((d + 1 : Nat) : Int) - 1 - 1) = (d : Int) - 1 := by omega
    rw [ed]
    by_cases hc : (r + P) * (r + P) ≤ a * 4294967296
    · obtain ⟨q, hq, hroot⟩ := root_l a ha d k (r + P) (by omega) (by omega) hn.1 (by rw [hPe, Int.add_emod, hmd]; simp) (by rw [hPe]; omega) hc (by rw [hPe, show r + P + P = r + 2 * P from by omega]; exact h2)
      refine ⟨q, ?_, hroot⟩
      generalize (r + P) * (r + P) = s at *
      split
      · exact hq
      · split
        · rw [if_pos (by omega)]; exact hq
        · omega
    · obtain ⟨q, hq, hroot⟩ := root_l a ha d k r (by omega) (by omega) h0 (by rw [hPe]; exact hmd) (by rw [hPe]; omega) h1 (by rw [hPe]; omega)
      refine ⟨q, ?_, hroot⟩
      generalize (r + P) * (r + P) = s at *
      split
      · omega
      · split
        · rw [if_neg (by omega)]; exact hq
        · exact hq
theorem root_f (a : Int) (ha : 0 ≤ a ∧ a ≤ 18446744073709551615) {k : Nat} (hk : 60 ≤ k) : ∃ q, fix_F_Root.f k a = some q ∧ IsRoot (a * 4294967296) q ∧ q < 281474976710656 := by
  unfold fix_F_Root.f
  exact root_l a ha 48 k 0 (by omega) (by omega) (by omega) (by simp) (by decide) (by omega) (by
    have : ((0 : Int) + 2 ^ 48) * (0 + 2 ^ 48) = 79228162514264337593543950336 := by decide
    omega)
theorem root_mono {m n q r : Int} (h : m ≤ n) (hq : IsRoot m q) (hr : IsRoot n r) : q ≤ r := by
  obtain ⟨q0, q1, q2⟩ := hq
  obtain ⟨r0, r1, r2⟩ := hr
  apply Int.not_lt.mp
  intro hlt
  have : (r + 1) * (r + 1) ≤ q * q := Int.mul_le_mul (by omega) (by omega) (by omega) (by omega)
  omega
theorem root_one {n q r : Int} (hq : IsRoot n q) (hr : IsRoot n r) : q = r := Int.le_antisymm (root_mono (Int.le_refl n) hq hr) (root_mono (Int.le_refl n) hr hq)
def rootv (a : Int) : Int := (fix_F_Root.f 60 a).getD 0
theorem root_v (a : Int) (ha : 0 ≤ a ∧ a ≤ 18446744073709551615) : IsRoot (a * 4294967296) (rootv a) ∧ rootv a < 281474976710656 ∧ ∀ k, 60 ≤ k → fix_F_Root.f k a = some (rootv a) := by
  obtain ⟨q, h1, h2, h3⟩ := root_f a ha (k := 60) (by omega)
  have e : rootv a = q := by unfold rootv; rw [h1]; rfl
  rw [e]
  exact ⟨h2, h3, fun k hk => at_rounds (g := fun k => fix_F_Root.f k a) (fun k => fix_F_Root.mono a k) hk h1⟩
theorem rootv_range (a : Int) (ha : 0 ≤ a ∧ a ≤ 18446744073709551615) : 0 ≤ rootv a ∧ rootv a ≤ 18446744073709551615 := by
  obtain ⟨h1, h2, _⟩ := root_v a ha
  have := h1.1
  omega
theorem rootv_le {a b : Int} (ha : 0 ≤ a ∧ a ≤ 18446744073709551615) (hb : 0 ≤ b ∧ b ≤ 18446744073709551615) (h : a ≤ b) : rootv a ≤ rootv b :=
  root_mono (by omega) (root_v a ha).1 (root_v b hb).1
theorem mulv_comm (a b : Int) : mulv a b = mulv b a := by unfold mulv; rw [Int.mul_comm]
theorem mulv_le1 {x y c : Int} (hx : 0 ≤ x ∧ x ≤ 18446744073709551615) (hy : 0 ≤ y ∧ y ≤ 18446744073709551615) (hc : 0 ≤ c ∧ c ≤ 18446744073709551615) (h : x ≤ y) : mulv x c ≤ mulv y c := by
  have h1 := mul64_range x c hx hc
  have h2 := mul64_range y c hy hc
  have h3 := Int.mul_le_mul_of_nonneg_right h hc.1
  unfold mulv; split <;> split <;> omega
theorem mulv_le2 {x y u v : Int} (hx : 0 ≤ x ∧ x ≤ 18446744073709551615) (hy : 0 ≤ y ∧ y ≤ 18446744073709551615) (hu : 0 ≤ u ∧ u ≤ 18446744073709551615) (hv : 0 ≤ v ∧ v ≤ 18446744073709551615) (h : x ≤ y) (h' : u ≤ v) : mulv x u ≤ mulv y v := by
  have h1 := mulv_le1 hx hy hu h
  have h2 := mulv_le1 hu hv hy h'
  rw [mulv_comm u y, mulv_comm v y] at h2
  omega
theorem addv_le2 {x y u v : Int} (h : x ≤ y) (h' : u ≤ v) : addv x u ≤ addv y v := by unfold addv; split <;> split <;> omega
theorem divv_le1 {x y c : Int} (hx : 0 ≤ x ∧ x ≤ 18446744073709551615) (hy : 0 ≤ y ∧ y ≤ 18446744073709551615) (hc : 0 ≤ c) (h : x ≤ y) : divv x c ≤ divv y c := by
  have h1 := divv_range x c hx hc
  have h2 := divv_range y c hy hc
  unfold divv at *
  by_cases e1 : c ≤ x / 4294967296
  · rw [if_pos e1, if_pos (by omega)]; omega
  · rw [if_neg e1] at *
    by_cases e2 : c ≤ y / 4294967296
    · rw [if_pos e2]; omega
    · rw [if_neg e2]; exact Int.ediv_le_ediv (by omega) (by omega)
theorem divv_ge1 {x y c : Int} (hx : 0 ≤ x) (hc : 0 ≤ c ∧ c ≤ 18446744073709551615) (h : x ≤ y) : divv c y ≤ divv c x := by
  have h1 := divv_range c x hc hx
  have h2 := divv_range c y hc (by omega)
  unfold divv at *
  by_cases e1 : y ≤ c / 4294967296
  · rw [if_pos e1, if_pos (by omega)]; omega
  · rw [if_neg e1] at *
    by_cases e2 : x ≤ c / 4294967296
    · rw [if_pos e2]; omega
    · rw [if_neg e2]
      apply Int.le_ediv_of_mul_le (by omega)
      have e := Int.mul_ediv_add_emod (c * 4294967296) y
      have e3 := Int.emod_nonneg (c * 4294967296) (show y ≠ 0 by omega)
      have e4 : c * 4294967296 / y * x ≤ c * 4294967296 / y * y := Int.mul_le_mul_of_nonneg_left h (Int.ediv_nonneg (by omega) (by omega))
      rw [Int.mul_comm] at e
      omega
/-! what the equation says -/
def againv (p : Int) : Int := mulv p (addv 4294967296 (mulv 137438953472 (mulv p p)))
def slopev (p : Int) : Int := addv (rootv (mulv p 2863311530)) (mulv (mulv 51539607552 (rootv (mulv p 1610612736))) (againv p))
def ratev (s r p : Int) : Int := if p = 0 then 18446744073709551615 else divv (s * 4294967296) (mulv r (slopev p))
def U (a : Int) : Prop := 0 ≤ a ∧ a ≤ 18446744073709551615
theorem U_lit {a : Int} (h : 0 ≤ a ∧ a ≤ 18446744073709551615) : U a := h
theorem mulv_U {a b : Int} (ha : U a) (hb : U b) : U (mulv a b) := mulv_range a b ha hb
theorem addv_U {a b : Int} (ha : U a) (hb : U b) : U (addv a b) := addv_range a b ha hb
theorem rootv_U {a : Int} (ha : U a) : U (rootv a) := rootv_range a ha
theorem againv_U {p : Int} (h : U p) : U (againv p) := mulv_U h (addv_U (U_lit (by omega)) (mulv_U (U_lit (by omega)) (mulv_U h h)))
theorem slopev_U {p : Int} (h : U p) : U (slopev p) := addv_U (rootv_U (mulv_U h (U_lit (by omega)))) (mulv_U (mulv_U (U_lit (by omega)) (rootv_U (mulv_U h (U_lit (by omega))))) (againv_U h))
theorem againv_le {p q : Int} (hp : U p) (hq : U q) (h : p ≤ q) : againv p ≤ againv q :=
  mulv_le2 hp hq (addv_U (U_lit (by omega)) (mulv_U (U_lit (by omega)) (mulv_U hp hp))) (addv_U (U_lit (by omega)) (mulv_U (U_lit (by omega)) (mulv_U hq hq))) h (addv_le2 (Int.le_refl _) (mulv_le2 (U_lit (by omega)) (U_lit (by omega)) (mulv_U hp hp) (mulv_U hq hq) (Int.le_refl _) (mulv_le2 hp hq hp hq h h)))
theorem slopev_le {p q : Int} (hp : U p) (hq : U q) (h : p ≤ q) : slopev p ≤ slopev q := by
  have c1 : U 2863311530 := U_lit (by omega)
  have c2 : U 1610612736 := U_lit (by omega)
  have c3 : U 51539607552 := U_lit (by omega)
  exact addv_le2 (rootv_le (mulv_U hp c1) (mulv_U hq c1) (mulv_le1 hp hq c1 h)) (mulv_le2 (mulv_U c3 (rootv_U (mulv_U hp c2))) (mulv_U c3 (rootv_U (mulv_U hq c2))) (againv_U hp) (againv_U hq) (mulv_le2 c3 c3 (rootv_U (mulv_U hp c2)) (rootv_U (mulv_U hq c2)) (Int.le_refl _) (rootv_le (mulv_U hp c2) (mulv_U hq c2) (mulv_le1 hp hq c2 h))) (againv_le hp hq h))
theorem slope_f (p : Int) (hp : U p) {k : Nat} (hk : 100 ≤ k) : eqn_slope.f k p = some (slopev p) := by
  have r1 : fix_Ratio.f k 2 3 = some 2863311530 := bs (quot_f 2 3 (by omega) (by omega) (by omega)) (by unfold divv; simp)
  have r2 : fix_Ratio.f k 3 8 = some 1610612736 := bs (quot_f 3 8 (by omega) (by omega) (by omega)) (by unfold divv; simp)
  have o1 : fix_Of.f 12 = some 51539607552 := by unfold fix_Of.f; simp [wu]
  have o2 : fix_Of.f 32 = some 137438953472 := by unfold fix_Of.f; simp [wu]
  have c1 : U 2863311530 := U_lit (by omega)
  have c2 : U 1610612736 := U_lit (by omega)
  have c3 : U 51539607552 := U_lit (by omega)
  have c4 : U 137438953472 := U_lit (by omega)
  have c5 : U 4294967296 := U_lit (by omega)
  have g1 := mulv_U hp c1
  have g2 := mulv_U hp c2
  unfold eqn_slope.f
  refine bs r1 (bs (mul_f p _ hp c1) (bs ((root_v _ g1).2.2 k (by omega)) (bs o1 (bs r2 (bs (mul_f p _ hp c2) (bs ((root_v _ g2).2.2 k (by omega)) ?_))))))
  refine bs (mul_f _ _ c3 (rootv_U g2)) (bs o2 (bs (mul_f p p hp hp) (bs (mul_f _ _ c4 (mulv_U hp hp)) (bs (add_f _ _ c5 (mulv_U c4 (mulv_U hp hp))) ?_))))
  refine bs (mul_f _ _ hp (addv_U c5 (mulv_U c4 (mulv_U hp hp)))) (bs (mul_f _ _ (mulv_U c3 (rootv_U g2)) (againv_U hp)) (bs (add_f _ _ (rootv_U g1) (mulv_U (mulv_U c3 (rootv_U g2)) (againv_U hp))) rfl))
theorem of_f32 (s : Int) (h : 0 ≤ s ∧ s ≤ 4294967295) : fix_Of.f s = some (s * 4294967296) := by
  unfold fix_Of.f; rw [wu, wu]; congr 1; omega
theorem rate_f (s r p : Int) (hs : 0 ≤ s ∧ s ≤ 4294967295) (hr : U r) (hp : U p) {k : Nat} (hk : 100 ≤ k) : eqn_Rate.f k s r p = some (ratev s r p) := by
  unfold eqn_Rate.f ratev
  by_cases h : p = 0
  · rw [if_pos h, if_pos h]
  · rw [if_neg h, if_neg h]
    refine bs (of_f32 s hs) (bs (slope_f p hp hk) (bs (mul_f r _ hr (slopev_U hp)) ?_))
    exact bs (a := divv (s * 4294967296) (mulv r (slopev p))) (bs (quot_f _ _ (by omega) (mulv_U hr (slopev_U hp)) (by omega)) rfl) rfl
theorem ratev_U (s r p : Int) (hs : 0 ≤ s ∧ s ≤ 4294967295) (hr : U r) (hp : U p) : U (ratev s r p) := by
  unfold ratev
  split
  · exact U_lit (by omega)
  · exact divv_range _ _ (by omega) (mulv_U hr (slopev_U hp)).1
theorem ratev_p {s r p q : Int} (hs : 0 ≤ s ∧ s ≤ 4294967295) (hr : U r) (hp : U p) (hq : U q) (h : p ≤ q) : ratev s r q ≤ ratev s r p := by
  have u1 := ratev_U s r q hs hr hq
  unfold ratev at *
  by_cases h1 : p = 0
  · rw [if_pos h1]; exact u1.2
  · have := hp.1
    rw [if_neg h1, if_neg (by omega)]
    exact divv_ge1 (mulv_U hr (slopev_U hp)).1 (by omega) (mulv_le2 hr hr (slopev_U hp) (slopev_U hq) (Int.le_refl _) (slopev_le hp hq h))
theorem ratev_r {s r t p : Int} (hs : 0 ≤ s ∧ s ≤ 4294967295) (hr : U r) (ht : U t) (hp : U p) (h : r ≤ t) : ratev s t p ≤ ratev s r p := by
  unfold ratev
  split
  · omega
  · exact divv_ge1 (mulv_U hr (slopev_U hp)).1 (by omega) (mulv_le1 hr ht (slopev_U hp) h)
theorem ratev_s {s t r p : Int} (hs : 0 ≤ s ∧ s ≤ 4294967295) (ht : 0 ≤ t ∧ t ≤ 4294967295) (hr : U r) (hp : U p) (h : s ≤ t) : ratev s r p ≤ ratev t r p := by
  unfold ratev
  split
  · omega
  · exact divv_le1 (by omega) (by omega) (mulv_U hr (slopev_U hp)).1 (by omega)
/-! digits of the base 2^16, the lowest first -/
def val : List Int → Int
  | [] => 0
  | d :: r => d + 65536 * val r
def Dig (l : List Int) : Prop := ∀ x ∈ l, 0 ≤ x ∧ x ≤ 65535
/-- no nought at the end: the number is as great as its length says -/
def Norm (l : List Int) : Prop := Dig l ∧ (l = [] ∨ 65536 ^ (l.length - 1) ≤ val l)
theorem val_append : ∀ a b : List Int, val (a ++ b) = val a + 65536 ^ a.length * val b
  | [], b => by simp [val]
  | d :: r, b => by
    rw [List.cons_append, val, val_append r b, val, List.length_cons, Int.pow_succ]; grind
theorem val_range : ∀ l : List Int, Dig l → 0 ≤ val l ∧ val l < 65536 ^ l.length
  | [], _ => by simp [val]
  | d :: r, h => by
    obtain ⟨h1, h2⟩ := val_range r (fun x hx => h x (List.mem_cons_of_mem _ hx))
    have := h d List.mem_cons_self
    rw [val, List.length_cons, Int.pow_succ]
    omega
theorem Dig.append {a b : List Int} (ha : Dig a) (hb : Dig b) : Dig (a ++ b) := fun x hx => by
  rcases List.mem_append.1 hx with h | h
  · exact ha x h
  · exact hb x h
theorem Dig.take {a : List Int} (ha : Dig a) (n : Nat) : Dig (a.take n) := fun x hx => ha x (List.mem_of_mem_take hx)
theorem Dig.one {d : Int} (h : 0 ≤ d ∧ d ≤ 65535) : Dig [d] := fun x hx => by
  have : x = d := by simpa using hx
  subst this; exact h
theorem Dig.nil : Dig [] := fun x hx => by cases hx
theorem pw_pos (n : Nat) : (0 : Int) < 65536 ^ n := Int.pow_pos (by omega)
theorem pw_le {m n : Nat} (h : m ≤ n) : (65536 : Int) ^ m ≤ 65536 ^ n := by
  obtain ⟨d, rfl⟩ := Nat.exists_eq_add_of_le h
  rw [Int.pow_add]
  have h1 := pw_pos m
  have h2 := pw_pos d
  have := Int.mul_le_mul_of_nonneg_left (show (1 : Int) ≤ 65536 ^ d by omega) (show (0 : Int) ≤ 65536 ^ m by omega)
  omega
/-- a number's digit, noughts behind its end -/
def dg (l : List Int) (i : Int) : Int := if i < (l.length : Int) then rd l i else 0
theorem dg_range {l : List Int} (h : Dig l) (i : Int) (h0 : 0 ≤ i) : 0 ≤ dg l i ∧ dg l i ≤ 65535 := by
  unfold dg
  split
  · unfold rd
    rw [List.getD_eq_getElem?_getD, List.getElem?_eq_getElem (by omega), Option.getD_some]
    exact h _ (List.getElem_mem _)
  · omega
theorem val_take (l : List Int) (i : Int) (h0 : 0 ≤ i) : val (l.take (i + 1).toNat) = val (l.take i.toNat) + 65536 ^ i.toNat * dg l i := by
  unfold dg
  rw [show (i + 1).toNat = i.toNat + 1 from by omega]
  by_cases h : i < (l.length : Int)
  · rw [if_pos h, List.take_succ_eq_append_getElem (by omega), val_append, List.length_take, Nat.min_eq_left (by omega)]
    unfold rd
    rw [List.getD_eq_getElem?_getD, List.getElem?_eq_getElem (by omega), Option.getD_some]
    simp [val]
  · rw [if_neg h, List.take_of_length_le (by omega), List.take_of_length_le (by omega)]; omega
theorem val_set : ∀ (l : List Int) (i : Nat) (v : Int), i < l.length → val (l.set i v) = val l + 65536 ^ i * (v - l.getD i 0)
  | [], i, v, h => by simp at h
  | d :: r, 0, v, _ => by simp [val]; omega
  | d :: r, i + 1, v, h => by
    rw [List.set_cons_succ, val, val_set r i v (by simpa using h), val, List.getD_cons_succ, Int.pow_succ]; grind
theorem Dig.set {l : List Int} (h : Dig l) (i : Nat) {v : Int} (hv : 0 ≤ v ∧ v ≤ 65535) : Dig (l.set i v) := fun x hx => by
  rcases List.mem_or_eq_of_mem_set hx with hm | rfl
  · exact h x hm
  · exact hv
theorem len_le {l : List Int} (h : Norm l) (n : Nat) (hv : val l < 65536 ^ n) : l.length ≤ n := by
  rcases h.2 with rfl | h2
  · simp
  · apply Nat.not_lt.mp
    intro hlt
    have := pw_le (show n ≤ l.length - 1 by omega)
    omega
/-! trim -/
theorem trim_l (l : List Int) (hd : Dig l) (hl : l.length ≤ 100000) (d : Nat) : ∀ (k : Nat) (i : Int), i = d → i ≤ l.length → d < k → val (l.take d) = val l → ∃ r, terraceref01_trim.l0 k l i = some r ∧ Norm r ∧ val r = val l ∧ r.length ≤ l.length := by
  induction d with
  | zero =>
    intro k i hi hle hk hv
    obtain ⟨k, rfl, hk⟩ := fuel hk
    subst hi
    simp only [terraceref01_trim.l0]
    rw [if_neg (by omega), if_pos (by omega), if_pos (by omega)]
    refine ⟨_, rfl, ⟨by simp; exact Dig.nil, .inl (by simp)⟩, by simpa using hv, by simp⟩
  | succ d ih =>
    intro k i hi hle hk hv
    obtain ⟨k, rfl, hk⟩ := fuel hk
    simp only [terraceref01_trim.l0]
    rw [if_pos (by omega), w64 (by omega) (by omega), if_pos (by omega), if_pos (by omega)]
    have e := val_take l (i - 1) (by omega)
    rw [show (i - 1 + 1).toNat = d + 1 from by omega, show (i - 1).toNat = d from by omega] at e
    unfold dg at e
    rw [if_pos (by omega)] at e
    have hg := dg_range hd (i - 1) (by omega)
    unfold dg at hg
    rw [if_pos (by omega)] at hg
    by_cases h : rd l (i - 1) = 0
    · rw [if_pos h]
      rw [h] at e
      exact ih k (i - 1) (by omega) (by omega) (by omega) (by omega)
    · rw [if_neg h, if_pos (by omega), if_pos (by omega)]
      have hi2 : (i : Int).toNat = d + 1 := by omega
      refine ⟨_, rfl, ⟨hd.take _, .inr ?_⟩, by rw [hi2]; exact hv, by simp; omega⟩
      rw [hi2, List.length_take, Nat.min_eq_left (by omega), Nat.add_sub_cancel, e]
      have h1 := (val_range _ (hd.take d)).1
      have h2 := Int.mul_le_mul_of_nonneg_left (show (1 : Int) ≤ rd l (i - 1) by omega) (show (0 : Int) ≤ 65536 ^ d by have := pw_pos d; omega)
      omega
theorem trim_f (l : List Int) (hd : Dig l) (hl : l.length ≤ 100000) {k : Nat} (hk : l.length < k) : ∃ r, terraceref01_trim.f k l = some r ∧ Norm r ∧ val r = val l ∧ r.length ≤ l.length := by
  unfold terraceref01_trim.f
  exact trim_l l hd hl l.length k (l.length : Int) rfl (by omega) hk (by simp)
/-! Of -/
theorem of_l : ∀ (d k : Nat) (n : Int) (out : List Int), d < k → 0 ≤ n → n < 65536 ^ d → n ≤ 18446744073709551615 → Dig out → out.length + d ≤ 100 → (0 < n ∨ out = [] ∨ 65536 ^ (out.length - 1) ≤ val out) →
    ∃ r, terraceref01_Of.l0 k n out = some r ∧ Norm r ∧ val r = val out + 65536 ^ out.length * n
  | 0, k, n, out, hk, h0, h1, h2, hd, hl, hn => by
    obtain ⟨k, rfl, hk⟩ := fuel hk
    have : n = 0 := by simp at h1; omega
    subst this
    simp only [terraceref01_Of.l0]
    refine ⟨out, by rw [if_neg (by omega)], ⟨hd, ?_⟩, by omega⟩
    rcases hn with hn | hn
    · omega
    · exact hn
  | d + 1, k, n, out, hk, h0, h1, h2, hd, hl, hn => by
    obtain ⟨k, rfl, hk⟩ := fuel hk
    simp only [terraceref01_Of.l0]
    by_cases hz : n > 0
    · rw [if_pos hz, if_pos (by omega), Int.tdiv_eq_ediv_of_nonneg h0, Int.tmod_eq_emod_of_nonneg h0, w64 (by omega) (by omega), wu]
      have e1 : n / 65536 % 18446744073709551616 = n / 65536 := by omega
      rw [e1]
      have hval : val (out ++ [n % 65536]) = val out + 65536 ^ out.length * (n % 65536) := by rw [val_append]; simp [val]
      have hp := pw_pos out.length
      have h0' := (val_range out hd).1
      obtain ⟨r, hr, hn2, hv⟩ := of_l d k (n / 65536) (out ++ [n % 65536]) (by omega) (by omega) (by rw [Int.pow_succ] at h1; omega) (by omega) (hd.append (Dig.one (by omega))) (by simp; omega) (by
        by_cases hq : 0 < n / 65536
        · exact .inl hq
        · right; right
          rw [hval, List.length_append, List.length_singleton, Nat.add_sub_cancel]
          have : n % 65536 = n := by omega
          rw [this]
          have := Int.mul_le_mul_of_nonneg_left (show (1 : Int) ≤ n by omega) (show (0 : Int) ≤ 65536 ^ out.length by omega)
          omega)
      refine ⟨r, hr, hn2, ?_⟩
      rw [hv, hval, List.length_append, List.length_singleton, Int.pow_succ]
      have : n = 65536 * (n / 65536) + n % 65536 := by omega
      generalize (65536 : Int) ^ out.length = p at *
      have e : p * n = p * (65536 * (n / 65536) + n % 65536) := by rw [← this]
      rw [e]; grind
    · have : n = 0 := by omega
      subst this
      refine ⟨out, by rw [if_neg (by omega)], ⟨hd, ?_⟩, by omega⟩
      rcases hn with hn | hn
      · omega
      · exact hn
theorem of_f (n : Int) (h : 0 ≤ n ∧ n ≤ 18446744073709551615) {k : Nat} (hk : 10 ≤ k) : ∃ r, terraceref01_Of.f k n = some r ∧ Norm r ∧ val r = n ∧ r.length ≤ 4 := by
  unfold terraceref01_Of.f
  have e : (65536 : Int) ^ 4 = 18446744073709551616 := by decide
  obtain ⟨r, hr, hn, hv⟩ := of_l 4 k n [] (by omega) h.1 (by omega) h.2 Dig.nil (by simp) (.inr (.inl rfl))
  have hv' : val r = n := by rw [hv]; simp [val]
  exact ⟨r, hr, hn, hv', len_le hn 4 (by omega)⟩
/-! Cmp -/
theorem cmp_l (a b : List Int) (ha : Dig a) (hb : Dig b) (hab : a.length = b.length) (hl : a.length ≤ 100000) (d : Nat) : ∀ (k : Nat) (i : Int), i = (d : Int) - 1 → d ≤ a.length → d < k → ∃ c, terraceref01_Cmp.l0 k a b i = some c ∧ (c > 0 ↔ val (a.take d) > val (b.take d)) ∧ (c = 0 ↔ val (a.take d) = val (b.take d)) := by
  induction d with
  | zero =>
    intro k i hi hle hk
    obtain ⟨k, rfl, hk⟩ := fuel hk
    simp only [terraceref01_Cmp.l0]
    rw [if_neg (by omega)]
    exact ⟨0, rfl, by simp, by simp⟩
  | succ d ih =>
    intro k i hi hle hk
    obtain ⟨k, rfl, hk⟩ := fuel hk
    simp only [terraceref01_Cmp.l0]
    rw [if_pos (by omega), if_pos (by omega), if_pos (by omega), if_pos (by omega), w64 (by omega) (by omega)]
    have e1 := val_take a i (by omega)
    have e2 := val_take b i (by omega)
    rw [show (i + 1).toNat = d + 1 from by omega, show i.toNat = d from by omega] at e1 e2
    unfold dg at e1 e2
    rw [if_pos (by omega)] at e1 e2
    have r1 := val_range _ (ha.take d)
    have r2 := val_range _ (hb.take d)
    rw [List.length_take, Nat.min_eq_left (by omega)] at r1 r2
    have hp := pw_pos d
    by_cases h1 : rd a i < rd b i
    · rw [if_pos h1]
      have : (65536 : Int) ^ d * (rd a i + 1) ≤ 65536 ^ d * rd b i := Int.mul_le_mul_of_nonneg_left (by omega) (by omega)
      have e3 : (65536 : Int) ^ d * (rd a i + 1) = 65536 ^ d * rd a i + 65536 ^ d := by grind
      exact ⟨-1, rfl, by omega, by omega⟩
    · rw [if_neg h1]
      by_cases h2 : rd a i > rd b i
      · rw [if_pos h2]
        have : (65536 : Int) ^ d * (rd b i + 1) ≤ 65536 ^ d * rd a i := Int.mul_le_mul_of_nonneg_left (by omega) (by omega)
        have e3 : (65536 : Int) ^ d * (rd b i + 1) = 65536 ^ d * rd b i + 65536 ^ d := by grind
        exact ⟨1, rfl, by omega, by omega⟩
      · rw [if_neg h2]
        have : rd a i = rd b i := by omega
        rw [this] at e1
        obtain ⟨c, hc, h3, h4⟩ := ih k (i - 1) (by omega) (by omega) (by omega)
        exact ⟨c, hc, by rw [h3]; omega, by rw [h4]; omega⟩
theorem cmp_f (a b : List Int) (ha : Norm a) (hb : Norm b) (hl : a.length ≤ 100) (hl2 : b.length ≤ 100) {k : Nat} (hk : 110 ≤ k) : ∃ c, terraceref01_Cmp.f k a b = some c ∧ (c > 0 ↔ val a > val b) ∧ (c = 0 ↔ val a = val b) := by
  unfold terraceref01_Cmp.f
  have ra := val_range a ha.1
  have rb := val_range b hb.1
  by_cases h : (a.length : Int) = (b.length : Int)
  · rw [if_pos h, w64 (by omega) (by omega)]
    obtain ⟨c, hc, h3, h4⟩ := cmp_l a b ha.1 hb.1 (by omega) (by omega) a.length k ((a.length : Int) - 1) rfl (by omega) (by omega)
    rw [List.take_of_length_le (Nat.le_refl _), List.take_of_length_le (by omega)] at h3 h4
    exact ⟨c, hc, h3, h4⟩
  · rw [if_neg h]
    by_cases h2 : (a.length : Int) < (b.length : Int)
    · rw [if_pos h2]
      have hb2 : 65536 ^ (b.length - 1) ≤ val b := by
        rcases hb.2 with rfl | hb2
        · simp only [List.length_nil] at h2; omega
        · exact hb2
      have := pw_le (show a.length ≤ b.length - 1 by omega)
      exact ⟨-1, rfl, by omega, by omega⟩
    · rw [if_neg h2]
      have ha2 : 65536 ^ (a.length - 1) ≤ val a := by
        rcases ha.2 with rfl | ha2
        · simp only [List.length_nil] at h h2; omega
        · exact ha2
      have := pw_le (show b.length ≤ a.length - 1 by omega)
      exact ⟨1, rfl, by omega, by omega⟩
/-! Add -/
theorem add_l (a b : List Int) (ha : Dig a) (hb : Dig b) (hla : a.length ≤ 100) (hlb : b.length ≤ 100) (d : Nat) : ∀ (k : Nat) (out : List Int) (c i : Int), 0 ≤ i → i ≤ 102 → i + d = 102 → out.length = i.toNat → 0 ≤ c → c ≤ 1 → Dig out → val out + 65536 ^ i.toNat * c = val (a.take i.toNat) + val (b.take i.toNat) →
    (100 ≤ i - 1 → c = 0) → 2 * d + 200 < k → ∃ r, terraceref01_Add.l0 k a b out c i = some r ∧ Norm r ∧ val r = val a + val b ∧ r.length ≤ 102 := by
  induction d with
  | zero =>
    intro k out c i h0 h1 hd hl hc0 hc1 hdig hv hlast hk
    obtain ⟨k, rfl⟩ : ∃ m, k = m + 2 := ⟨k - 2, by omega⟩
    have hc : c = 0 := hlast (by omega)
    simp only [terraceref01_Add.l0, terraceref01_Add.j1]
    rw [if_neg (by omega), if_neg (by omega), if_neg (by simp; omega)]
    obtain ⟨r, hr, hn, hrv, hrl⟩ := trim_f out hdig (by omega) (k := k) (by omega)
    rw [hr]; simp only [Option.bind_some]
    rw [List.take_of_length_le (by omega), List.take_of_length_le (by omega), hc] at hv
    exact ⟨r, rfl, hn, by omega, by omega⟩
  | succ d ih =>
    intro k out c i h0 h1 hd hl hc0 hc1 hdig hv hlast hk
    obtain ⟨k, rfl⟩ : ∃ m, k = m + 2 := ⟨k - 2, by omega⟩
    have ga := dg_range ha i h0
    have gb := dg_range hb i h0
    have ta := val_take a i h0
    have tb := val_take b i h0
    have hp := pw_pos i.toNat
    have step : ∀ n, n = c + dg a i + dg b i → ∃ r, terraceref01_Add.l0 k a b (out ++ [Int.tmod n 65536]) (wrap64 (Int.tdiv n 65536)) (wrap64 (i + 1)) = some r ∧ Norm r ∧ val r = val a + val b ∧ r.length ≤ 102 := by
      intro n hn
      rw [Int.tdiv_eq_ediv_of_nonneg (by omega), Int.tmod_eq_emod_of_nonneg (by omega), w64 (by omega) (by omega), w64 (n := i + 1) (by omega) (by omega)]
      refine ih k (out ++ [n % 65536]) (n / 65536) (i + 1) (by omega) (by omega) (by omega) (by simp; omega) (by omega) (by omega) (hdig.append (Dig.one (by omega))) ?_ ?_ (by omega)
      · rw [val_append, ta, tb, hl, show (i + 1).toNat = i.toNat + 1 from by omega, Int.pow_succ]
        simp only [val]
        have e : n = 65536 * (n / 65536) + n % 65536 := by omega
        generalize n / 65536 = x at *
        generalize n % 65536 = y at *
        generalize (65536 : Int) ^ i.toNat = p at *
        have e2 : p * (65536 * x + y) = p * (c + dg a i + dg b i) := by rw [← e, hn]
        have e3 : p * (c + dg a i + dg b i) = p * c + p * dg a i + p * dg b i := by grind
        have e4 : p * (65536 * x + y) = p * 65536 * x + p * y := by grind
        have e5 : p * (y + 65536 * 0) = p * y := by grind
        omega
      · intro hi
        have za : dg a i = 0 := by unfold dg; rw [if_neg (by omega)]
        have zb : dg b i = 0 := by unfold dg; rw [if_neg (by omega)]
        omega
    simp only [terraceref01_Add.l0]
    by_cases h2 : i < (a.length : Int)
    · rw [if_pos h2]
      have da : dg a i = rd a i := by unfold dg; rw [if_pos h2]
      simp only [terraceref01_Add.j1]
      rw [if_pos trivial, if_pos h2, if_pos h0]
      by_cases h3 : i < (b.length : Int)
      · have db : dg b i = rd b i := by unfold dg; rw [if_pos h3]
        rw [if_pos h3, if_pos (by omega), w64 (n := c + rd a i) (by omega) (by omega), w64 (n := c + rd a i + rd b i) (by omega) (by omega)]
        exact step _ (by omega)
      · have db : dg b i = 0 := by unfold dg; rw [if_neg h3]
        rw [if_neg h3, if_pos (by omega), w64 (n := c + rd a i) (by omega) (by omega)]
        exact step _ (by omega)
    · have da : dg a i = 0 := by unfold dg; rw [if_neg h2]
      rw [if_neg h2]
      by_cases h3 : i < (b.length : Int)
      · have db : dg b i = rd b i := by unfold dg; rw [if_pos h3]
        rw [if_pos h3]
        simp only [terraceref01_Add.j1]
        rw [if_pos trivial, if_neg h2, if_pos h3, if_pos h0, if_pos (by omega), w64 (n := c + rd b i) (by omega) (by omega)]
        exact step _ (by omega)
      · have db : dg b i = 0 := by unfold dg; rw [if_neg h3]
        rw [if_neg h3]
        simp only [terraceref01_Add.j1]
        by_cases h4 : c > 0
        · rw [if_pos (by simp; omega), if_neg h2, if_neg h3, if_pos (by omega)]
          exact step _ (by omega)
        · rw [if_neg (by simp; omega)]
          obtain ⟨r, hr, hn, hrv, hrl⟩ := trim_f out hdig (by omega) (k := k) (by omega)
          rw [hr]; simp only [Option.bind_some]
          have hc : c = 0 := by omega
          rw [List.take_of_length_le (by omega), List.take_of_length_le (by omega), hc] at hv
          exact ⟨r, rfl, hn, by omega, by omega⟩
theorem add_f1 (a b : List Int) (ha : Norm a) (hb : Norm b) (hla : a.length ≤ 100) (hlb : b.length ≤ 100) {k : Nat} (hk : 500 ≤ k) : ∃ r, terraceref01_Add.f k a b = some r ∧ Norm r ∧ val r = val a + val b ∧ r.length ≤ 102 := by
  unfold terraceref01_Add.f
  exact add_l a b ha.1 hb.1 hla hlb 102 k [] 0 0 (by omega) (by omega) (by omega) (by simp) (by omega) (by omega) Dig.nil (by simp [val]) (by omega) (by omega)
/-! Mul -/
theorem rd_set (l : List Int) (i : Nat) (v : Int) (m : Int) (hi : i < l.length) : rd (l.set i v) m = if m.toNat = i then v else rd l m := by
  unfold rd
  rw [List.getD_eq_getElem?_getD, List.getD_eq_getElem?_getD, List.getElem?_set]
  by_cases h : i = m.toNat
  · rw [if_pos h, if_pos (by omega), if_pos h.symm]; rfl
  · rw [if_neg h, if_neg (fun e => h e.symm)]
theorem rd_range {l : List Int} (h : Dig l) (i : Int) (h0 : 0 ≤ i) (h1 : i < (l.length : Int)) : 0 ≤ rd l i ∧ rd l i ≤ 65535 := by
  have := dg_range h i h0
  unfold dg at this; rwa [if_pos h1] at this
theorem val_set' (l : List Int) (i : Int) (v : Int) (h0 : 0 ≤ i) (h : i < (l.length : Int)) : val (l.set i.toNat v) = val l + 65536 ^ i.toNat * (v - rd l i) := by
  rw [val_set l i.toNat v (by omega)]; rfl
theorem mul_in (a b : List Int) (ha : Dig a) (hb : Dig b) (hla : a.length ≤ 20) (hlb : b.length ≤ 20) (i : Int) (hi0 : 0 ≤ i) (hi1 : i < (a.length : Int)) (V : Int) (d : Nat) : ∀ (k : Nat) (out : List Int) (c j : Int), 0 ≤ j → j ≤ (b.length : Int) + 1 → j + d = (b.length : Int) + 1 → (out.length : Int) = a.length + b.length + 1 → Dig out → 0 ≤ c → c ≤ 65535 → (j = (b.length : Int) + 1 → c = 0) →
    val out + 65536 ^ (i + j).toNat * c = V + 65536 ^ i.toNat * (rd a i * val (b.take j.toNat)) → (∀ m : Int, i + b.length + (if j = (b.length : Int) + 1 then 1 else 0) ≤ m → rd out m = 0) → 2 * d + 4 ≤ k →
    ∃ k' out', k ≤ k' + 2 * d + 4 ∧ terraceref01_Mul.l1 k a b out i c j = terraceref01_Mul.l0 k' a b out' (i + 1) ∧ (out'.length : Int) = a.length + b.length + 1 ∧ Dig out' ∧ val out' = V + 65536 ^ i.toNat * (rd a i * val b) ∧ (∀ m : Int, i + 1 + b.length ≤ m → rd out' m = 0) := by
  have ra := rd_range ha i hi0 hi1
  induction d with
  | zero =>
    intro k out c j h0 h1 hd hl hdig hc0 hc1 hc2 hv hz hk
    obtain ⟨k, rfl⟩ : ∃ m, k = m + 2 := ⟨k - 2, by omega⟩
    have hj : j = (b.length : Int) + 1 := by omega
    have hc := hc2 hj
    simp only [terraceref01_Mul.l1, terraceref01_Mul.j2]
    rw [if_neg (by omega), if_neg (by simp; omega), w64 (n := i + 1) (by omega) (by omega)]
    refine ⟨k, out, by omega, rfl, hl, hdig, ?_, ?_⟩
    · rw [hc, List.take_of_length_le (by omega)] at hv; omega
    · intro m hm; exact hz m (by rw [if_pos hj]; omega)
  | succ d ih =>
    intro k out c j h0 h1 hd hl hdig hc0 hc1 hc2 hv hz hk
    obtain ⟨k, rfl⟩ : ∃ m, k = m + 2 := ⟨k - 2, by omega⟩
    have hjn : ¬ j = (b.length : Int) + 1 := by omega
    simp only [if_neg hjn] at hz
    have ro := rd_range hdig (i + j) (by omega) (by omega)
    simp only [terraceref01_Mul.l1]
    by_cases hj : j < (b.length : Int)
    · rw [if_pos hj]
      simp only [terraceref01_Mul.j2]
      have rb := rd_range hb j h0 hj
      have hp0 : 0 ≤ rd a i * rd b j := Int.mul_nonneg ra.1 rb.1
      have hp1 : rd a i * rd b j ≤ 65535 * 65535 := Int.mul_le_mul ra.2 rb.2 rb.1 (by omega)
      rw [if_pos trivial, w64 (n := i + j) (by omega) (by omega), if_pos (by omega), if_pos (by omega), if_pos hj, if_pos hi0, if_pos hi1, if_pos h0, w64 (n := rd out (i + j) + c) (by omega) (by omega), w64 (n := rd a i * rd b j) (by omega) (by omega), w64 (n := rd out (i + j) + c + rd a i * rd b j) (by omega) (by omega), Int.tdiv_eq_ediv_of_nonneg (by omega), Int.tmod_eq_emod_of_nonneg (by omega), w64 (by omega) (by omega), w64 (n := j + 1) (by omega) (by omega)]
      obtain ⟨n, hn⟩ : ∃ n, rd out (i + j) + c + rd a i * rd b j = n := ⟨_, rfl⟩
      rw [hn]
      have hcn : n / 65536 ≤ 65535 := by omega
      obtain ⟨k', out', h2, h3, h4, h5, h6, h7⟩ := ih k (out.set (i + j).toNat (n % 65536)) (n / 65536) (j + 1) (by omega) (by omega) (by omega) (by rw [List.length_set]; exact hl) (hdig.set _ (by omega)) (by omega) (by omega) (by
          intro hh; exfalso; omega) (by
          rw [val_set' out (i + j) (n % 65536) (by omega) (by omega), show (i + (j + 1)).toNat = (i + j).toNat + 1 from by omega, Int.pow_succ, val_take b j h0]
          unfold dg; rw [if_pos hj]
          have e : n = 65536 * (n / 65536) + n % 65536 := by omega
          have e0 : (65536 : Int) ^ (i + j).toNat = 65536 ^ i.toNat * 65536 ^ j.toNat := by rw [← Int.pow_add]; congr 1; omega
          rw [e0] at hv ⊢
          generalize n / 65536 = x at *
          generalize n % 65536 = y at *
          generalize (65536 : Int) ^ i.toNat = p at *
          generalize (65536 : Int) ^ j.toNat = q at *
          generalize rd a i = u at *
          generalize rd b j = v at *
          generalize rd out (i + j) = o at *
          generalize val (b.take j.toNat) = t at *
          have e2 : y = o + c + u * v - 65536 * x := by omega
          rw [e2]
          have e3 : p * q * (o + c + u * v - 65536 * x - o) + p * q * 65536 * x = p * q * c + p * (u * (q * v)) := by grind
          have e4 : p * (u * (t + q * v)) = p * (u * t) + p * (u * (q * v)) := by grind
          omega) (by
          intro m hm
          rw [rd_set _ _ _ _ (by omega)]
          rw [if_neg (by split at hm <;> omega)]
          exact hz m (by split at hm <;> omega)) (by omega)
      exact ⟨k', out', by omega, h3, h4, h5, h6, h7⟩
    · rw [if_neg hj]
      simp only [terraceref01_Mul.j2]
      have hjl : j = b.length := by omega
      have hzo : rd out (i + j) = 0 := hz _ (by omega)
      by_cases hc : c > 0
      · rw [if_pos (by simp; omega), w64 (n := i + j) (by omega) (by omega), if_pos (by omega), if_pos (by omega), if_neg hj, w64 (n := rd out (i + j) + c) (by omega) (by omega), Int.tdiv_eq_ediv_of_nonneg (by omega), Int.tmod_eq_emod_of_nonneg (by omega), w64 (by omega) (by omega), w64 (n := j + 1) (by omega) (by omega), hzo]
        have e1 : (0 + c) / 65536 = 0 := by omega
        have e2 : (0 + c) % 65536 = c := by omega
        rw [e1, e2]
        obtain ⟨k', out', h2, h3, h4, h5, h6, h7⟩ := ih k (out.set (i + j).toNat c) 0 (j + 1) (by omega) (by omega) (by omega) (by rw [List.length_set]; exact hl) (hdig.set _ (by omega)) (by omega) (by omega) (by intro _; rfl) (by
            rw [val_set' out (i + j) c (by omega) (by omega), hzo, List.take_of_length_le (by omega)]
            rw [List.take_of_length_le (by omega)] at hv
            have : (65536 : Int) ^ (i + j).toNat * (c - 0) = 65536 ^ (i + j).toNat * c := by grind
            omega) (by
            intro m hm
            rw [if_pos (by omega)] at hm
            rw [rd_set _ _ _ _ (by omega), if_neg (by omega)]
            exact hz m (by omega)) (by omega)
        exact ⟨k', out', by omega, h3, h4, h5, h6, h7⟩
      · rw [if_neg (by simp; omega), w64 (n := i + 1) (by omega) (by omega)]
        have hc' : c = 0 := by omega
        refine ⟨k, out, by omega, rfl, hl, hdig, ?_, ?_⟩
        · rw [hc', List.take_of_length_le (by omega)] at hv; omega
        · intro m hm; exact hz m (by omega)
theorem mul_out (a b : List Int) (ha : Dig a) (hb : Dig b) (hla : a.length ≤ 20) (hlb : b.length ≤ 20) (d : Nat) : ∀ (k : Nat) (out : List Int) (i : Int), 0 ≤ i → i + d = (a.length : Int) → (out.length : Int) = a.length + b.length + 1 → Dig out → val out = val (a.take i.toNat) * val b → (∀ m : Int, i + b.length ≤ m → rd out m = 0) → 60 * d + 200 ≤ k →
    ∃ r, terraceref01_Mul.l0 k a b out i = some r ∧ Norm r ∧ val r = val a * val b ∧ r.length ≤ a.length + b.length + 1 := by
  induction d with
  | zero =>
    intro k out i h0 hd hl hdig hv hz hk
    obtain ⟨k, rfl⟩ : ∃ m, k = m + 1 := ⟨k - 1, by omega⟩
    simp only [terraceref01_Mul.l0]
    rw [if_neg (by omega)]
    obtain ⟨r, hr, hn, hrv, hrl⟩ := trim_f out hdig (by omega) (k := k) (by omega)
    rw [hr]; simp only [Option.bind_some]
    rw [List.take_of_length_le (by omega)] at hv
    exact ⟨r, rfl, hn, by omega, by omega⟩
  | succ d ih =>
    intro k out i h0 hd hl hdig hv hz hk
    obtain ⟨k, rfl⟩ : ∃ m, k = m + 1 := ⟨k - 1, by omega⟩
    simp only [terraceref01_Mul.l0]
    rw [if_pos (by omega)]
    obtain ⟨k', out', h2, h3, h4, h5, h6, h7⟩ := mul_in a b ha hb hla hlb i h0 (by omega) (val out) (b.length + 1) k out 0 0 (by omega) (by omega) (by omega) hl hdig (by omega) (by omega) (by omega) (by simp [val]) (by
      intro m hm; rw [if_neg (by omega)] at hm; exact hz m (by omega)) (by omega)
    rw [h3]
    refine ih k' out' (i + 1) (by omega) (by omega) h4 h5 ?_ (by intro m hm; exact h7 m (by omega)) (by omega)
    rw [h6, hv, val_take a i h0]
    unfold dg; rw [if_pos (by omega)]; grind
theorem val_replicate (n : Nat) : val (List.replicate n 0) = 0 := by
  induction n with
  | zero => rfl
  | succ n ih => rw [List.replicate_succ, val, ih]; rfl
theorem mul_f1 (a b : List Int) (ha : Norm a) (hb : Norm b) (hla : a.length ≤ 20) (hlb : b.length ≤ 20) {k : Nat} (hk : 1400 ≤ k) : ∃ r, terraceref01_Mul.f k a b = some r ∧ Norm r ∧ val r = val a * val b ∧ r.length ≤ a.length + b.length + 1 := by
  unfold terraceref01_Mul.f
  rw [w64 (n := (a.length : Int) + b.length) (by omega) (by omega), w64 (by omega) (by omega), if_pos (by omega), if_pos (by omega)]
  refine mul_out a b ha.1 hb.1 hla hlb a.length k _ 0 (by omega) (by omega) (by simp; omega) ?_ ?_ ?_ (by omega)
  · intro x hx
    have := List.eq_of_mem_replicate hx
    omega
  · rw [val_replicate]; simp [val]
  · intro m hm
    unfold rd
    rw [List.getD_eq_getElem?_getD, List.getElem?_replicate]
    split <;> rfl
theorem norm_small : Norm [1] ∧ Norm [0, 0, 1] := by
  constructor
  · exact ⟨Dig.one (by omega), .inr (by decide)⟩
  · refine ⟨fun x hx => ?_, .inr (by decide)⟩
    simp at hx; omega
theorem up_f (a : List Int) (ha : Norm a) (hl : a.length ≤ 12) {k : Nat} (hk : 1400 ≤ k) : ∃ r, terraceref01_Up.f k a = some r ∧ Norm r ∧ val r = val a * 4294967296 ∧ r.length ≤ a.length + 4 := by
  unfold terraceref01_Up.f
  obtain ⟨r, hr, hn, hv, hl2⟩ := mul_f1 a [0, 0, 1] ha norm_small.2 (by omega) (by decide) hk
  have e : val [0, 0, 1] = 4294967296 := by simp [val]
  exact ⟨r, bs hr rfl, hn, by rw [hv, e], hl2⟩
theorem awake_k {k : Nat} (hk : 150 ≤ k) : terracelaw03_awake.f k = some true :=
  at_rounds (g := fun k => terracelaw03_awake.f k) (fun k => terracelaw03_awake.mono k) hk (by decide +kernel)
theorem val_drop (l : List Int) (i : Nat) (h : i < l.length) : val (l.drop i) = rd l (i : Int) + 65536 * val (l.drop (i + 1)) := by
  rw [List.drop_eq_getElem_cons h, val]
  unfold rd
  rw [Int.toNat_natCast, List.getD_eq_getElem?_getD, List.getElem?_eq_getElem h, Option.getD_some]
theorem Dig.drop {a : List Int} (ha : Dig a) (n : Nat) : Dig (a.drop n) := fun x hx => ha x (List.mem_of_mem_drop hx)
theorem val4 (l : List Int) (hd : Dig l) (hl : l.length ≤ 4) : 0 ≤ val l ∧ val l ≤ 18446744073709551615 := by
  have h := val_range l hd
  have e : (65536 : Int) ^ 4 = 18446744073709551616 := by decide
  have := pw_le hl
  omega
theorem cut_l (l : List Int) (hd : Dig l) (hl : l.length ≤ 4) (d : Nat) : ∀ (k : Nat) (i : Int), i = (d : Int) - 1 → d ≤ l.length → d < k → terraceref03_cut.l0 k l (val (l.drop d)) i = some (val l) := by
  induction d with
  | zero =>
    intro k i hi hle hk
    obtain ⟨k, rfl, hk⟩ := fuel hk
    simp only [terraceref03_cut.l0]
    rw [if_neg (by omega), List.drop_zero]
  | succ d ih =>
    intro k i hi hle hk
    obtain ⟨k, rfl, hk⟩ := fuel hk
    simp only [terraceref03_cut.l0]
    have hid : i = (d : Int) := by omega
    have e := val_drop l d (by omega)
    have h1 := val4 (l.drop d) (hd.drop d) (by simp; omega)
    have h2 := val4 (l.drop (d + 1)) (hd.drop (d + 1)) (by simp; omega)
    have h3 := rd_range hd i (by omega) (by omega)
    rw [hid] at h3
    have ew : IntKind.u64.wrap (IntKind.u64.wrap (val (l.drop (d + 1)) * 65536) + IntKind.u64.wrap (rd l i)) = val (l.drop d) := by
      rw [hid, wu, wu, wu]; omega
    rw [if_pos (by omega), if_pos (by omega), if_pos (by omega), ew, w64 (by omega) (by omega)]
    exact ih k (i - 1) (by omega) (by omega) (by omega)
theorem cut_f (l : List Int) (hn : Norm l) (hlen : l.length ≤ 100) {k : Nat} (hk : 10 ≤ k) : terraceref03_cut.f k l = some (if val l ≤ 18446744073709551615 then val l else 18446744073709551615) := by
  unfold terraceref03_cut.f
  by_cases h : (l.length : Int) > 4
  · have h2 : 65536 ^ (l.length - 1) ≤ val l := by
      rcases hn.2 with rfl | h2
      · simp at h
      · exact h2
    have := pw_le (show 4 ≤ l.length - 1 by omega)
    have e : (65536 : Int) ^ 4 = 18446744073709551616 := by decide
    rw [if_pos h, if_neg (by omega)]
  · rw [if_neg h, if_pos (val4 l hn.1 (by omega)).2, w64 (by omega) (by omega)]
    have := cut_l l hn.1 (by omega) l.length k ((l.length : Int) - 1) rfl (by omega) (by omega)
    rw [List.drop_of_length_le (Nat.le_refl _)] at this
    exact this
theorem Norm.drop {l : List Int} (h : Norm l) (n : Nat) (hn : n < l.length) : Norm (l.drop n) := by
  refine ⟨h.1.drop n, .inr ?_⟩
  rcases h.2 with rfl | h2
  · simp at hn
  · have e := val_append (l.take n) (l.drop n)
    rw [List.take_append_drop, List.length_take, Nat.min_eq_left (by omega)] at e
    have h3 := (val_range _ (h.1.take n)).2
    rw [List.length_take, Nat.min_eq_left (by omega)] at h3
    have e2 : (65536 : Int) ^ (l.length - 1) = 65536 ^ n * 65536 ^ (l.length - n - 1) := by rw [← Int.pow_add]; congr 1; omega
    rw [List.length_drop]
    have hp := pw_pos n
    apply Int.not_lt.mp
    intro hlt
    have h4 : 65536 ^ n * (val (l.drop n) + 1) ≤ 65536 ^ n * 65536 ^ (l.length - n - 1) := Int.mul_le_mul_of_nonneg_left (by omega) (by omega)
    have e3 : (65536 : Int) ^ n * (val (l.drop n) + 1) = 65536 ^ n * val (l.drop n) + 65536 ^ n := by grind
    omega
theorem refmul_f (a b : Int) (ha : U a) (hb : U b) {k : Nat} (hk : 1400 ≤ k) : terraceref03_Mul.f k a b = some (mulv a b) := by
  obtain ⟨la, h1, n1, v1, l1⟩ := of_f a ha (k := k) (by omega)
  obtain ⟨lb, h2, n2, v2, l2⟩ := of_f b hb (k := k) (by omega)
  obtain ⟨p, h3, n3, v3, l3⟩ := mul_f1 la lb n1 n2 (by omega) (by omega) (k := k) (by omega)
  unfold terraceref03_Mul.f
  refine bs h1 (bs h2 (bs h3 ?_))
  have hm := mul64_range a b ha hb
  rw [v1, v2] at v3
  rw [← v3] at hm
  unfold mulv
  rw [← v3]
  clear v3
  have hr := val_range p n3.1
  by_cases h : (p.length : Int) ≤ 2
  · rw [if_pos h]
    have := pw_le (show p.length ≤ 2 by omega)
    have e : (65536 : Int) ^ 2 = 4294967296 := by decide
    rw [if_pos (by omega)]; congr 1; omega
  · rw [if_neg h, if_pos (by omega)]
    refine bs (cut_f (p.drop 2) (n3.drop 2 (by omega)) (by simp; omega) (by omega)) ?_
    have e := val_append (p.take 2) (p.drop 2)
    rw [List.take_append_drop, List.length_take, Nat.min_eq_left (by omega)] at e
    have h4 := val_range _ (n3.1.take 2)
    rw [List.length_take, Nat.min_eq_left (by omega)] at h4
    have e2 : (65536 : Int) ^ 2 = 4294967296 := by decide
    rw [e2] at e h4
    generalize val (p.drop 2) = x at *
    congr 1
    by_cases hx : x ≤ 18446744073709551615
    · rw [if_pos hx, if_pos (by omega)]; omega
    · rw [if_neg hx, if_neg (by omega)]
theorem refadd_f (a b : Int) (ha : U a) (hb : U b) {k : Nat} (hk : 1400 ≤ k) : terraceref03_Add.f k a b = some (addv a b) := by
  obtain ⟨la, h1, n1, v1, l1⟩ := of_f a ha (k := k) (by omega)
  obtain ⟨lb, h2, n2, v2, l2⟩ := of_f b hb (k := k) (by omega)
  obtain ⟨p, h3, n3, v3, l3⟩ := add_f1 la lb n1 n2 (by omega) (by omega) (k := k) (by omega)
  unfold terraceref03_Add.f
  have hpl : p.length ≤ 5 := by
    have e : (65536 : Int) ^ 5 = 1208925819614629174706176 := by decide
    have := ha.2; have := hb.2
    exact len_le n3 5 (by omega)
  refine bs h1 (bs h2 (bs h3 (bs (cut_f p n3 (by omega) (by omega)) ?_)))
  unfold addv
  rw [v3, v1, v2]
  congr 1
  split <;> split <;> omega
theorem sqcmp (n : Int) (hn : U n) (u : List Int) (hu : Norm u) (hl : u.length ≤ 20) {k : Nat} (hk : 1400 ≤ k) : ∃ la lp c, terraceref01_Of.f k n = some la ∧ terraceref01_Mul.f k la la = some lp ∧ terraceref01_Cmp.f k lp u = some c ∧ (c ≤ 0 ↔ n * n ≤ val u) := by
  obtain ⟨la, h1, n1, v1, l1⟩ := of_f n hn (k := k) (by omega)
  obtain ⟨p, h3, n3, v3, l3⟩ := mul_f1 la la n1 n1 (by omega) (by omega) (k := k) (by omega)
  obtain ⟨c, h4, c1, c2⟩ := cmp_f p u n3 hu (by omega) (by omega) (k := k) (by omega)
  refine ⟨la, p, c, h1, h3, h4, ?_⟩
  rw [v1] at v3
  rw [← v3]; omega
theorem refroot_l (a : Int) (ha : U a) (u : List Int) (hu : Norm u) (hl : u.length ≤ 20) (hv : val u = a * 4294967296) : ∀ (d k : Nat) (r : Int), d ≤ 48 → d + 1500 < k → 0 ≤ r → r + 2 ^ d ≤ 281474976710656 → r * r ≤ a * 4294967296 → a * 4294967296 < (r + 2 ^ d) * (r + 2 ^ d) → ∃ q, terraceref03_Root.l0 k u r ((d : Int) - 1) = some q ∧ IsRoot (a * 4294967296) q
  | 0, k, r, hd, hk, h0, hr, h1, h2 => by
    obtain ⟨k, rfl⟩ : ∃ m, k = m + 1 := ⟨k - 1, by omega⟩
    refine ⟨r, ?_, h0, h1, by simpa using h2⟩
    simp only [terraceref03_Root.l0]
    rw [if_neg (by omega)]
  | d + 1, k, r, hd, hk, h0, hr, h1, h2 => by
    obtain ⟨k, rfl⟩ : ∃ m, k = m + 1 := ⟨k - 1, by omega⟩
    have hP : (0 : Int) < 2 ^ d := Int.pow_pos (by omega)
    obtain ⟨P, hPe⟩ : ∃ P : Int, 2 ^ d = P := ⟨_, rfl⟩
    have e2 : (2 : Int) ^ (d + 1) = 2 * P := by rw [Int.pow_succ, hPe]; omega
    rw [e2] at hr h2
    rw [hPe] at hP
    have hs : shl .u64 1 (((d + 1 : Nat) : Int) - 1) = P := by
      rw [shl_u 1 _ (by omega) (by omega), show (((d + 1 : Nat) : Int) - 1).toNat = d from by omega, hPe]; omega
    have hj : IntKind.u64.wrap (r + P) = r + P := by rw [wu]; omega
    have hn : U (r + P) := by unfold U; omega
    obtain ⟨la, lp, c, g1, g2, g3, g4⟩ := sqcmp (r + P) hn u hu hl (k := k) (by omega)
    simp only [terraceref03_Root.l0]
    rw [if_pos (by omega), if_pos (by omega), hs, hj, g1, Option.bind_some, Option.bind_some, g2, Option.bind_some, g3, Option.bind_some, w64 (by omega) (by omega)]
    have ed : (((d + 1 : Nat) : Int) - 1 - 1) = (d : Int) - 1 := by omega
    rw [ed]
    rw [hv] at g4
    by_cases hc : (r + P) * (r + P) ≤ a * 4294967296
    · rw [if_pos (g4.2 hc)]
      exact refroot_l a ha u hu hl hv d k (r + P) (by omega) (by omega) (by omega) (by rw [hPe]; omega) hc (by rw [hPe, show r + P + P = r + 2 * P from by omega]; exact h2)
    · rw [if_neg (fun h => hc (g4.1 h))]
      exact refroot_l a ha u hu hl hv d k r (by omega) (by omega) h0 (by rw [hPe]; omega) h1 (by rw [hPe]; omega)
theorem refroot_f (a : Int) (ha : U a) {k : Nat} (hk : 1600 ≤ k) : terraceref03_Root.f k a = some (rootv a) := by
  obtain ⟨la, h1, n1, v1, l1⟩ := of_f a ha (k := k) (by omega)
  obtain ⟨u, h2, n2, v2, l2⟩ := up_f la n1 (by omega) (k := k) (by omega)
  have := ha.1
  have := ha.2
  obtain ⟨q, h3, hq⟩ := refroot_l a ha u n2 (by omega) (by rw [v2, v1]) 48 k 0 (by omega) (by omega) (by omega) (by decide) (by omega) (by
    have : ((0 : Int) + 2 ^ 48) * (0 + 2 ^ 48) = 79228162514264337593543950336 := by decide
    omega)
  unfold terraceref03_Root.f
  refine bs h1 (bs h2 ?_)
  rw [root_one (root_v a ha).1 hq]
  exact h3
theorem prodcmp (n b : Int) (hn : U n) (hb : U b) (u : List Int) (hu : Norm u) (hl : u.length ≤ 20) {k : Nat} (hk : 1400 ≤ k) : ∃ la lb lp c, terraceref01_Of.f k n = some la ∧ terraceref01_Of.f k b = some lb ∧ terraceref01_Mul.f k la lb = some lp ∧ terraceref01_Cmp.f k lp u = some c ∧ (c ≤ 0 ↔ n * b ≤ val u) := by
  obtain ⟨la, h1, n1, v1, l1⟩ := of_f n hn (k := k) (by omega)
  obtain ⟨lb, h2, n2, v2, l2⟩ := of_f b hb (k := k) (by omega)
  obtain ⟨p, h3, n3, v3, l3⟩ := mul_f1 la lb n1 n2 (by omega) (by omega) (k := k) (by omega)
  obtain ⟨c, h4, c1, c2⟩ := cmp_f p u n3 hu (by omega) (by omega) (k := k) (by omega)
  refine ⟨la, lb, p, c, h1, h2, h3, h4, ?_⟩
  rw [v1, v2] at v3
  rw [← v3]; omega
theorem refdiv_l (b A : Int) (hb : U b) (u : List Int) (hu : Norm u) (hl : u.length ≤ 20) (hv : val u = A) : ∀ (d k : Nat) (r : Int), d ≤ 64 → d + 1500 < k → 0 ≤ r → r + 2 ^ d ≤ 18446744073709551616 → r * b ≤ A → (r + 2 ^ d = 18446744073709551616 ∨ A < (r + 2 ^ d) * b) → ∃ q, terraceref03_Div.l0 k b u r ((d : Int) - 1) = some q ∧ 0 ≤ q ∧ q ≤ 18446744073709551615 ∧ q * b ≤ A ∧ (q = 18446744073709551615 ∨ A < (q + 1) * b)
  | 0, k, r, hd, hk, h0, hr, h1, h2 => by
    obtain ⟨k, rfl⟩ : ∃ m, k = m + 1 := ⟨k - 1, by omega⟩
    have e1 : (2 : Int) ^ 0 = 1 := rfl
    rw [e1] at hr h2
    refine ⟨r, ?_, h0, by omega, h1, ?_⟩
    · simp only [terraceref03_Div.l0]
      rw [if_neg (by omega)]
    · rcases h2 with h2 | h2
      · left; omega
      · exact .inr h2
  | d + 1, k, r, hd, hk, h0, hr, h1, h2 => by
    obtain ⟨k, rfl⟩ : ∃ m, k = m + 1 := ⟨k - 1, by omega⟩
    have hP : (0 : Int) < 2 ^ d := Int.pow_pos (by omega)
    obtain ⟨P, hPe⟩ : ∃ P : Int, 2 ^ d = P := ⟨_, rfl⟩
    have e2 : (2 : Int) ^ (d + 1) = 2 * P := by rw [Int.pow_succ, hPe]; omega
    rw [e2] at hr h2
    rw [hPe] at hP
    have hs : shl .u64 1 (((d + 1 : Nat) : Int) - 1) = P := by
      rw [shl_u 1 _ (by omega) (by omega), show (((d + 1 : Nat) : Int) - 1).toNat = d from by omega, hPe]; omega
    have hj : IntKind.u64.wrap (r + P) = r + P := by rw [wu]; omega
    have hn : U (r + P) := by unfold U; omega
    obtain ⟨la, lb, lp, c, g1, g2, g3, g5, g4⟩ := prodcmp (r + P) b hn hb u hu hl (k := k) (by omega)
    simp only [terraceref03_Div.l0]
    rw [if_pos (by omega), if_pos (by omega), hs, hj, g1, Option.bind_some, g2, Option.bind_some, g3, Option.bind_some, g5, Option.bind_some, w64 (by omega) (by omega)]
    have ed : (((d + 1 : Nat) : Int) - 1 - 1) = (d : Int) - 1 := by omega
    rw [ed]
    rw [hv] at g4
    by_cases hc : (r + P) * b ≤ A
    · rw [if_pos (g4.2 hc)]
      exact refdiv_l b A hb u hu hl hv d k (r + P) (by omega) (by omega) (by omega) (by rw [hPe]; omega) hc (by rw [hPe, show r + P + P = r + 2 * P from by omega]; exact h2)
    · rw [if_neg (fun h => hc (g4.1 h))]
      exact refdiv_l b A hb u hu hl hv d k r (by omega) (by omega) h0 (by rw [hPe]; omega) h1 (by rw [hPe]; right; omega)
theorem refdiv_f (a b : Int) (ha : U a) (hb : U b) {k : Nat} (hk : 1600 ≤ k) : terraceref03_Div.f k a b = some (divv a b) := by
  obtain ⟨la, h1, n1, v1, l1⟩ := of_f a ha (k := k) (by omega)
  obtain ⟨u, h2, n2, v2, l2⟩ := up_f la n1 (by omega) (k := k) (by omega)
  have a0 := ha.1
  have b0 := hb.1
  obtain ⟨q, h3, q0, q1, q2, q3⟩ := refdiv_l b (a * 4294967296) hb u n2 (by omega) (by rw [v2, v1]) 64 k 0 (by omega) (by omega) (by omega) (by decide) (by omega) (.inl (by decide))
  unfold terraceref03_Div.f
  refine bs h1 (bs h2 ?_)
  rw [show divv a b = q from ?_]
  · exact h3
  · unfold divv
    by_cases h : b ≤ a / 4294967296
    · rw [if_pos h]
      rcases q3 with q3 | q3
      · exact q3.symm
      · have : (q + 1) * b ≤ 18446744073709551616 * b := Int.mul_le_mul_of_nonneg_right (by omega) b0
        omega
    · rw [if_neg h]
      have hb0 : 0 < b := by omega
      apply Int.le_antisymm
      · have : a * 4294967296 / b < q + 1 := by
          rcases q3 with q3 | q3
          · exact Int.ediv_lt_of_lt_mul hb0 (by rw [q3]; omega)
          · exact Int.ediv_lt_of_lt_mul hb0 q3
        omega
      · exact Int.le_ediv_of_mul_le hb0 q2
theorem refrate_f (s r p : Int) (hs : 0 ≤ s ∧ s ≤ 4294967295) (hr : U r) (hp : U p) {k : Nat} (hk : 1600 ≤ k) : terraceref03_Rate.f k s r p = some (divv (s * 4294967296) (mulv r (slopev p))) := by
  have r1 : terraceref03_Div.f k 8589934592 12884901888 = some 2863311530 := by rw [refdiv_f _ _ (U_lit (by omega)) (U_lit (by omega)) hk]; unfold divv; simp
  have r2 : terraceref03_Div.f k 12884901888 34359738368 = some 1610612736 := by rw [refdiv_f _ _ (U_lit (by omega)) (U_lit (by omega)) hk]; unfold divv; simp
  have c1 : U 2863311530 := U_lit (by omega)
  have c2 : U 1610612736 := U_lit (by omega)
  have c3 : U 51539607552 := U_lit (by omega)
  have c4 : U 137438953472 := U_lit (by omega)
  have c5 : U 4294967296 := U_lit (by omega)
  have g1 := mulv_U hp c1
  have g2 := mulv_U hp c2
  have hk2 : 1400 ≤ k := by omega
  unfold terraceref03_Rate.f
  refine bs r1 (bs (refmul_f p _ hp c1 hk2) (bs (refroot_f _ g1 hk) (bs r2 (bs (refmul_f p _ hp c2 hk2) (bs (refroot_f _ g2 hk) ?_)))))
  refine bs (refmul_f _ _ c3 (rootv_U g2) hk2) (bs (refmul_f p p hp hp hk2) (bs (refmul_f _ _ c4 (mulv_U hp hp) hk2) (bs (refadd_f _ _ c5 (mulv_U c4 (mulv_U hp hp)) hk2) ?_)))
  refine bs (refmul_f _ _ hp (addv_U c5 (mulv_U c4 (mulv_U hp hp))) hk2) (bs (refmul_f _ _ (mulv_U c3 (rootv_U g2)) (againv_U hp) hk2) (bs (refadd_f _ _ (rootv_U g1) (mulv_U (mulv_U c3 (rootv_U g2)) (againv_U hp)) hk2) ?_))
  refine bs (refmul_f _ _ hr (slopev_U hp) hk2) ?_
  have e : IntKind.u64.wrap (IntKind.u64.wrap s * 4294967296) = s * 4294967296 := by rw [wu, wu]; omega
  rw [e]
  exact bs (refdiv_f _ _ (by unfold U; omega) (mulv_U hr (slopev_U hp)) hk) rfl
theorem EqnRates : terracelaw03_EqnRates.Pure := by
  intro s r p hs hr hp
  have hs := wf_u32 hs
  have hr : U r := wf_u64 hr
  have hp : U p := wf_u64 hp
  obtain ⟨k, hk⟩ : ∃ k, 2000 < k := ⟨2001, by omega⟩
  refine ⟨k, ?_⟩
  unfold terracelaw03_EqnRates.f
  refine bs (rate_f s r p hs hr hp (by omega)) ?_
  unfold ratev
  by_cases h : p = 0
  · rw [if_pos h, if_pos h, if_pos rfl]; exact bs (awake_k (by omega)) rfl
  · rw [if_neg h, if_neg h]
    refine bs (refrate_f s r p hs hr hp (by omega)) ?_
    rw [if_pos rfl]; exact bs (awake_k (by omega)) rfl

end Go.Proofs.Ytfnlepedmppncaa.Pure
