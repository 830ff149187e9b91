/- Proved: more loss, or a longer round trip, never makes a rate greater; greater packets never make it less (for every input that the statement's guards let in; the Go function returns true and leaves its arguments as they were). -/
import Derived.Test.YtfnlepedmppncaaPEqnFallsx3
set_option linter.unusedVariables false
set_option linter.unusedSimpArgs false
namespace Go.Proofs.Ytfnlepedmppncaa.Pure
open Go.RowKit Go.Proofs.Ytfnlepedmppncaa.PEqnFalls Go.Proofs.YtfnlepedmppncaaW.PrintWords Go.Proofs.YtfnlepedmppncaaW.PrintLast Go.Proofs.YtfnlepedmppncaaW.PrintMore

theorem wf_u8 {a : Int} (h : (Lit.int .u8 a).wf = true) : 0 ≤ a ∧ a ≤ 255 := by
  simpa [Lit.wf, IntKind.min, IntKind.max, IntKind.signed, IntKind.bits] using h
theorem wf_u16 {a : Int} (h : (Lit.int .u16 a).wf = true) : 0 ≤ a ∧ a ≤ 65535 := by
  simpa [Lit.wf, IntKind.min, IntKind.max, IntKind.signed, IntKind.bits] using h
theorem wf_u32 {a : Int} (h : (Lit.int .u32 a).wf = true) : 0 ≤ a ∧ a ≤ 4294967295 := by
  simpa [Lit.wf, IntKind.min, IntKind.max, IntKind.signed, IntKind.bits] using h
theorem wf_u64 {a : Int} (h : (Lit.int .u64 a).wf = true) : 0 ≤ a ∧ a ≤ 18446744073709551615 := by
  simpa [Lit.wf, IntKind.min, IntKind.max, IntKind.signed, IntKind.bits] using h
theorem wf_i64 {a : Int} (h : (Lit.int .i64 a).wf = true) : -9223372036854775808 ≤ a ∧ a ≤ 9223372036854775807 := by
  simpa [Lit.wf, IntKind.min, IntKind.max, IntKind.signed, IntKind.bits] using h
theorem w64 {n : Int} (h : -9223372036854775808 ≤ n) (h' : n ≤ 9223372036854775807) : wrap64 n = n := by
  unfold wrap64; omega
theorem fuel {k n : Nat} (h : n < k) : ∃ m, k = m + 1 ∧ n ≤ m := ⟨k - 1, by omega, by omega⟩
theorem u64 {n : Int} (h : 0 ≤ n) (h' : n ≤ 18446744073709551615) : IntKind.u64.wrap n = n := by
  simp only [IntKind.wrap, IntKind.bits, IntKind.signed]; simp; omega
theorem wu (n : Int) : IntKind.u64.wrap n = n % 18446744073709551616 := by
  simp [IntKind.wrap, IntKind.bits, IntKind.signed]
theorem wraps_u64 (n : Int) (h0 : 0 ≤ n) (h1 : n < 2 ^ 64) : IntKind.u64.wrap n = n := by rw [wu]; omega
theorem and32 (x : Int) (h0 : 0 ≤ x) (h1 : x < 18446744073709551616) : Go.bits .and .u64 x 4294967295 = x % 4294967296 :=
  bits_mask .u64 64 (by decide) wraps_u64 32 (by decide) x h0 h1
theorem or_join (i : Nat) (x y : Int) (h0 : 0 ≤ x) (h1 : x % 2 ^ i = 0) (h2 : x < 18446744073709551616) (h3 : 0 ≤ y) (h4 : y < 2 ^ i) (h5 : y < 18446744073709551616) : Go.bits .or .u64 x y = x + y :=
  bits_join .u64 64 (by decide) wraps_u64 i x y h0 h1 h2 h3 h4 h5
theorem shl_u (x y : Int) (h0 : 0 ≤ y) (h1 : y ≤ 64) : shl .u64 x y = (x * 2 ^ y.toNat) % 18446744073709551616 := by
  unfold shl; rw [wu, show min y.toNat (IntKind.bits .u64) = y.toNat from Nat.min_eq_left (by simp [IntKind.bits]; omega)]
theorem shr_u (x y : Int) (h0 : 0 ≤ y) (h1 : y ≤ 64) : shr .u64 x y = x / 2 ^ y.toNat := by
  unfold shr; rw [show min y.toNat (IntKind.bits .u64) = y.toNat from Nat.min_eq_left (by simp [IntKind.bits]; omega)]
/-- one call behind another (no unfolding: the kernel need not look into what is called) -/
theorem bs {α β : Type} {x : Option α} {f : α → Option β} {a : α} {r : Option β} (h : x = some a) (h2 : f a = r) : x.bind f = r := by
  subst h; exact h2
def addv (a b : Int) : Int := if a + b > 18446744073709551615 then 18446744073709551615 else a + b
theorem add_f (a b : Int) (ha : 0 ≤ a ∧ a ≤ 18446744073709551615) (hb : 0 ≤ b ∧ b ≤ 18446744073709551615) : fix_F_Add.f a b = some (addv a b) := by
  unfold fix_F_Add.f addv addC addS
  by_cases h : a + b > 18446744073709551615
  · rw [if_neg (by omega), if_pos h]
  · rw [if_pos (by omega), if_neg h]; congr 1; omega
theorem addv_range (a b : Int) (ha : 0 ≤ a ∧ a ≤ 18446744073709551615) (hb : 0 ≤ b ∧ b ≤ 18446744073709551615) : 0 ≤ addv a b ∧ addv a b ≤ 18446744073709551615 := by
  unfold addv; split <;> omega
/-- One digit of a long division by a number of 64 bits whose highest bit is set. -/
theorem digit_ok (q rhat yn1 yn0 un un1 : Int) (hy1 : 2147483648 ≤ yn1) (hy1' : yn1 ≤ 4294967295) (h0 : 0 ≤ yn0 ∧ yn0 ≤ 4294967295) (h1 : 0 ≤ un1 ∧ un1 ≤ 4294967295) (hu : 0 ≤ un) (hlt : un < yn1 * 4294967296 + yn0)
    (hq : q * yn1 + rhat = un) (hr : 0 ≤ rhat) (hge : un * 4294967296 + un1 < (q + 1) * (yn1 * 4294967296 + yn0)) (hle : q * yn0 ≤ 4294967296 * rhat + un1) :
    (un * 4294967296 + un1) / (yn1 * 4294967296 + yn0) = q := by
  have e1 : q * (yn1 * 4294967296 + yn0) ≤ un * 4294967296 + un1 := by
    have : q * (yn1 * 4294967296 + yn0) = (q * yn1) * 4294967296 + q * yn0 := by grind
    omega
  have hp : 0 < yn1 * 4294967296 + yn0 := by omega
  apply Int.le_antisymm
  · have := Int.ediv_lt_of_lt_mul hp hge
    omega
  · exact Int.le_ediv_of_mul_le hp e1
theorem q1_le (un yn1 yn0 : Int) (hy1 : 2147483648 ≤ yn1) (hy1' : yn1 ≤ 4294967295) (h0 : 0 ≤ yn0 ∧ yn0 ≤ 4294967295) (hu : 0 ≤ un) (hlt : un < yn1 * 4294967296 + yn0) : 0 ≤ un / yn1 ∧ un / yn1 ≤ 4294967297 := by
  refine ⟨Int.ediv_nonneg hu (by omega), ?_⟩
  have : un / yn1 < 4294967298 := Int.ediv_lt_of_lt_mul (by omega) (by omega)
  omega
/-- the estimate is not too small -/
theorem q_ge (q yn1 yn0 un un1 rhat : Int) (hy1 : 2147483648 ≤ yn1) (h0 : 0 ≤ yn0) (h1 : un1 ≤ 4294967295) (hq : q * yn1 + rhat = un) (hr : rhat < yn1) (hq0 : 0 ≤ q) :
    un * 4294967296 + un1 < (q + 1) * (yn1 * 4294967296 + yn0) := by
  have e : (q + 1) * (yn1 * 4294967296 + yn0) = (q * yn1) * 4294967296 + yn1 * 4294967296 + (q + 1) * yn0 := by grind
  have : 0 ≤ (q + 1) * yn0 := Int.mul_nonneg (by omega) h0
  omega
/-- one step down -/
theorem q_down (q yn1 yn0 un un1 rhat : Int) (hy1 : 2147483648 ≤ yn1) (h0 : 0 ≤ yn0 ∧ yn0 ≤ 4294967295) (h1 : 0 ≤ un1 ∧ un1 ≤ 4294967295) (hu : 0 ≤ un) (hlt : un < yn1 * 4294967296 + yn0) (hq : q * yn1 + rhat = un) (hd : q ≥ 4294967296 ∨ q * yn0 > 4294967296 * rhat + un1) :
    un * 4294967296 + un1 < (q - 1 + 1) * (yn1 * 4294967296 + yn0) ∧ (q - 1) * yn1 + (rhat + yn1) = un := by
  constructor
  · rw [Int.sub_add_cancel]
    rcases hd with hd | hd
    · have := Int.mul_le_mul_of_nonneg_right hd (show 0 ≤ yn1 * 4294967296 + yn0 by omega)
      omega
    · have : q * (yn1 * 4294967296 + yn0) = (q * yn1) * 4294967296 + q * yn0 := by grind
      omega
  · have : (q - 1) * yn1 = q * yn1 - yn1 := by grind
    omega
theorem mul_range (q y : Int) (hq : 0 ≤ q) (hq' : q ≤ 4294967297) (hy : 0 ≤ y) (hy' : y ≤ 4294967295) : 0 ≤ q * y ∧ q * y ≤ 18446744073709551615 := by
  refine ⟨Int.mul_nonneg hq hy, ?_⟩
  have := Int.mul_le_mul hq' hy' hy (by omega : (0 : Int) ≤ 4294967297)
  omega
/-- the first digit's loop: what it goes on with -/
theorem loop0 (s yn1 yn0 un un1 un0 : Int) (hy1 : 2147483648 ≤ yn1) (hy1' : yn1 ≤ 4294967295) (h0 : 0 ≤ yn0 ∧ yn0 ≤ 4294967295) (h1 : 0 ≤ un1 ∧ un1 ≤ 4294967295) (hu : 0 ≤ un) (hlt : un < yn1 * 4294967296 + yn0) (d : Nat) :
    ∀ (k : Nat) (q rhat : Int), 2 * d + 4 ≤ k → 0 ≤ q → q ≤ 4294967297 → q * yn1 + rhat = un → 0 ≤ rhat → rhat < 4294967296 → 4294967296 ≤ rhat + d * 2147483648 → un * 4294967296 + un1 < (q + 1) * (yn1 * 4294967296 + yn0) →
    ∃ k', k ≤ k' + 2 * d + 4 ∧ bits_Div64.l0 k (yn1 * 4294967296 + yn0) s yn1 yn0 un un1 un0 q rhat = bits_Div64.j2 k' (yn1 * 4294967296 + yn0) s yn1 yn0 un un1 un0 ((un * 4294967296 + un1) / (yn1 * 4294967296 + yn0)) := by
  induction d with
  | zero => intro k q rhat _ _ _ _ _ h2 h3; omega
  | succ d ih =>
    intro k q rhat hk hq0 hq1 hq hr hr1 hrd hge
    obtain ⟨k, rfl⟩ : ∃ m, k = m + 2 := ⟨k - 2, by omega⟩
    have hm := mul_range q yn0 hq0 hq1 h0.1 h0.2
    have hw : IntKind.u64.wrap (IntKind.u64.wrap (4294967296 * rhat) + un1) = 4294967296 * rhat + un1 := by rw [wu, wu]; omega
    have hw2 : IntKind.u64.wrap (q * yn0) = q * yn0 := by rw [wu]; omega
    have key : ∀ b, b = decide (q ≥ 4294967296 ∨ q * yn0 > 4294967296 * rhat + un1) →
        ∃ k', k + 2 ≤ k' + 2 * (d + 1) + 4 ∧ bits_Div64.j1 (k + 1) (yn1 * 4294967296 + yn0) s yn1 yn0 un un1 un0 q rhat b = bits_Div64.j2 k' (yn1 * 4294967296 + yn0) s yn1 yn0 un un1 un0 ((un * 4294967296 + un1) / (yn1 * 4294967296 + yn0)) := by
      intro b hb
      simp only [bits_Div64.j1]
      by_cases hd : q ≥ 4294967296 ∨ q * yn0 > 4294967296 * rhat + un1
      · rw [hb, if_pos (by simpa using hd)]
        obtain ⟨hg2, hq2⟩ := q_down q yn1 yn0 un un1 rhat hy1 h0 h1 hu hlt hq hd
        have hqp : 1 ≤ q := by
          rcases hd with hd | hd
          · omega
          · by_cases hz : q = 0
            · subst hz; omega
            · omega
        have hw3 : IntKind.u64.wrap (rhat + yn1) = rhat + yn1 := by rw [wu]; omega
        have hw4 : IntKind.u64.wrap (q - 1) = q - 1 := by rw [wu]; omega
        rw [hw3, hw4]
        by_cases hb2 : rhat + yn1 ≥ 4294967296
        · rw [if_pos hb2]
          have hm2 := mul_range (q - 1) yn0 (by omega) (by omega) h0.1 h0.2
          have hm3 : (q - 1) * yn0 ≤ 4294967296 * 4294967295 := Int.mul_le_mul (by omega) h0.2 h0.1 (by omega)
          have := digit_ok (q - 1) (rhat + yn1) yn1 yn0 un un1 hy1 hy1' h0 h1 hu hlt hq2 (by omega) hg2 (by omega)
          rw [this]
          exact ⟨k, by omega, rfl⟩
        · rw [if_neg hb2]
          obtain ⟨k', e1, e2⟩ := ih k (q - 1) (rhat + yn1) (by omega) (by omega) (by omega) hq2 (by omega) (by omega) (by omega) hg2
          exact ⟨k', by omega, e2⟩
      · rw [hb, if_neg (by simpa using hd)]
        have := digit_ok q rhat yn1 yn0 un un1 hy1 hy1' h0 h1 hu hlt hq hr hge (by omega)
        rw [this]
        exact ⟨k, by omega, rfl⟩
    simp only [bits_Div64.l0]
    by_cases hc : q ≥ 4294967296
    · rw [if_pos hc]; exact key true (by simp [hc])
    · rw [if_neg hc, hw, hw2]; exact key _ (by simp [hc])
/-- the second digit's loop -/
theorem loop1 (s yn1 yn0 un un1 q1 : Int) (hs : 0 ≤ s) (hy1 : 2147483648 ≤ yn1) (hy1' : yn1 ≤ 4294967295) (h0 : 0 ≤ yn0 ∧ yn0 ≤ 4294967295) (h1 : 0 ≤ un1 ∧ un1 ≤ 4294967295) (hu : 0 ≤ un) (hlt : un < yn1 * 4294967296 + yn0) (d : Nat) :
    ∀ (k : Nat) (q rhat : Int), 2 * d + 4 ≤ k → 0 ≤ q → q ≤ 4294967297 → q * yn1 + rhat = un → 0 ≤ rhat → rhat < 4294967296 → 4294967296 ≤ rhat + d * 2147483648 → un * 4294967296 + un1 < (q + 1) * (yn1 * 4294967296 + yn0) →
    ∃ r, bits_Div64.l1 k (yn1 * 4294967296 + yn0) s yn1 yn0 un1 q1 rhat un q = some (IntKind.u64.wrap ((IntKind.u64.wrap (q1 * 4294967296)) + ((un * 4294967296 + un1) / (yn1 * 4294967296 + yn0))), r) := by
  induction d with
  | zero => intro k q rhat _ _ _ _ _ h2 h3; omega
  | succ d ih =>
    intro k q rhat hk hq0 hq1 hq hr hr1 hrd hge
    obtain ⟨k, rfl⟩ : ∃ m, k = m + 2 := ⟨k - 2, by omega⟩
    have hm := mul_range q yn0 hq0 hq1 h0.1 h0.2
    have hw : IntKind.u64.wrap (IntKind.u64.wrap (4294967296 * rhat) + un1) = 4294967296 * rhat + un1 := by rw [wu, wu]; omega
    have hw2 : IntKind.u64.wrap (q * yn0) = q * yn0 := by rw [wu]; omega
    have key : ∀ b, b = decide (q ≥ 4294967296 ∨ q * yn0 > 4294967296 * rhat + un1) →
        ∃ r, bits_Div64.j4 (k + 1) (yn1 * 4294967296 + yn0) s yn1 yn0 un1 q1 rhat un q b = some (IntKind.u64.wrap ((IntKind.u64.wrap (q1 * 4294967296)) + ((un * 4294967296 + un1) / (yn1 * 4294967296 + yn0))), r) := by
      intro b hb
      simp only [bits_Div64.j4]
      by_cases hd : q ≥ 4294967296 ∨ q * yn0 > 4294967296 * rhat + un1
      · rw [hb, if_pos (by simpa using hd)]
        obtain ⟨hg2, hq2⟩ := q_down q yn1 yn0 un un1 rhat hy1 h0 h1 hu hlt hq hd
        have hqp : 1 ≤ q := by
          rcases hd with hd | hd
          · omega
          · by_cases hz : q = 0
            · subst hz; omega
            · omega
        have hw3 : IntKind.u64.wrap (rhat + yn1) = rhat + yn1 := by rw [wu]; omega
        have hw4 : IntKind.u64.wrap (q - 1) = q - 1 := by rw [wu]; omega
        rw [hw3, hw4]
        by_cases hb2 : rhat + yn1 ≥ 4294967296
        · rw [if_pos hb2, if_pos hs]
          have hm2 := mul_range (q - 1) yn0 (by omega) (by omega) h0.1 h0.2
          have hm3 : (q - 1) * yn0 ≤ 4294967296 * 4294967295 := Int.mul_le_mul (by omega) h0.2 h0.1 (by omega)
          have := digit_ok (q - 1) (rhat + yn1) yn1 yn0 un un1 hy1 hy1' h0 h1 hu hlt hq2 (by omega) hg2 (by omega)
          rw [this]
          exact ⟨_, rfl⟩
        · rw [if_neg hb2]
          exact ih k (q - 1) (rhat + yn1) (by omega) (by omega) (by omega) hq2 (by omega) (by omega) (by omega) hg2
      · rw [hb, if_neg (by simpa using hd), if_pos hs]
        have := digit_ok q rhat yn1 yn0 un un1 hy1 hy1' h0 h1 hu hlt hq hr hge (by omega)
        rw [this]
        exact ⟨_, rfl⟩
    simp only [bits_Div64.l1]
    by_cases hc : q ≥ 4294967296
    · rw [if_pos hc]; exact key true (by simp [hc])
    · rw [if_neg hc, hw, hw2]; exact key _ (by simp [hc])
theorem start_ok (un yn1 : Int) (hy1 : 2147483648 ≤ yn1) (hy1' : yn1 ≤ 4294967295) (hu : 0 ≤ un) (hu' : un ≤ 18446744073709551615) (hq : 0 ≤ un / yn1 ∧ un / yn1 ≤ 4294967297) :
    IntKind.u64.wrap (Int.tdiv un yn1) = un / yn1 ∧ IntKind.u64.wrap (un - IntKind.u64.wrap (un / yn1 * yn1)) = un % yn1 ∧ un / yn1 * yn1 + un % yn1 = un ∧ 0 ≤ un % yn1 ∧ un % yn1 < yn1 := by
  have e := Int.mul_ediv_add_emod un yn1
  rw [Int.mul_comm] at e
  have h1 := Int.emod_nonneg un (show yn1 ≠ 0 by omega)
  have h2 := Int.emod_lt_of_pos un (show 0 < yn1 by omega)
  rw [Int.tdiv_eq_ediv_of_nonneg hu]
  refine ⟨by rw [wu]; omega, ?_, e, h1, h2⟩
  have h3 : 0 ≤ un / yn1 * yn1 := Int.mul_nonneg hq.1 (by omega)
  rw [wu, wu]; omega
/-- both digits -/
theorem div_two (s y un un1 un0 : Int) (hs : 0 ≤ s) (hy : 9223372036854775808 ≤ y) (hy' : y ≤ 18446744073709551615) (h1 : 0 ≤ un1 ∧ un1 ≤ 4294967295) (h0 : 0 ≤ un0 ∧ un0 ≤ 4294967295) (hu : 0 ≤ un) (hlt : un < y) {k : Nat} (hk : 40 ≤ k) :
    ∃ r, bits_Div64.l0 k y s (y / 4294967296) (y % 4294967296) un un1 un0 (IntKind.u64.wrap (Int.tdiv un (y / 4294967296))) (IntKind.u64.wrap (un - IntKind.u64.wrap (IntKind.u64.wrap (Int.tdiv un (y / 4294967296)) * (y / 4294967296)))) = some ((un * 18446744073709551616 + un1 * 4294967296 + un0) / y, r) := by
  obtain ⟨yn1, hyn1⟩ : ∃ v, y / 4294967296 = v := ⟨_, rfl⟩
  obtain ⟨yn0, hyn0⟩ : ∃ v, y % 4294967296 = v := ⟨_, rfl⟩
  have ey : y = yn1 * 4294967296 + yn0 := by omega
  rw [hyn1, hyn0]
  have b1 : 2147483648 ≤ yn1 := by omega
  have b2 : yn1 ≤ 4294967295 := by omega
  have b3 : 0 ≤ yn0 ∧ yn0 ≤ 4294967295 := by omega
  rw [ey] at hlt ⊢
  have hq := q1_le un yn1 yn0 b1 b2 b3 hu hlt
  obtain ⟨s1, s2, s3, s4, s5⟩ := start_ok un yn1 b1 b2 hu (by omega) hq
  rw [s1, s2]
  obtain ⟨k', hk', e⟩ := loop0 s yn1 yn0 un un1 un0 b1 b2 b3 h1 hu hlt 2 k (un / yn1) (un % yn1) (by omega) hq.1 hq.2 s3 s4 (by omega) (by omega) (q_ge _ _ _ _ _ _ b1 b3.1 h1.2 s3 s5 hq.1)
  rw [e]
  obtain ⟨k', rfl⟩ : ∃ m, k' = m + 1 := ⟨k' - 1, by omega⟩
  have hp : 0 < yn1 * 4294967296 + yn0 := by omega
  obtain ⟨Q1, hQ1⟩ : ∃ v, (un * 4294967296 + un1) / (yn1 * 4294967296 + yn0) = v := ⟨_, rfl⟩
  obtain ⟨V, hV⟩ : ∃ v, (un * 4294967296 + un1) % (yn1 * 4294967296 + yn0) = v := ⟨_, rfl⟩
  have eN := Int.mul_ediv_add_emod (un * 4294967296 + un1) (yn1 * 4294967296 + yn0)
  have v0 := Int.emod_nonneg (un * 4294967296 + un1) (show yn1 * 4294967296 + yn0 ≠ 0 by omega)
  have v1 := Int.emod_lt_of_pos (un * 4294967296 + un1) hp
  rw [hQ1, hV] at eN
  rw [hV] at v0 v1
  rw [Int.mul_comm] at eN
  have hQ0 : 0 ≤ Q1 := by rw [← hQ1]; exact Int.ediv_nonneg (by omega) (by omega)
  have hQm : Q1 ≤ 4294967295 := by
    have : (un * 4294967296 + un1) / (yn1 * 4294967296 + yn0) < 4294967296 := Int.ediv_lt_of_lt_mul hp (by omega)
    omega
  rw [hQ1]
  simp only [bits_Div64.j2]
  rw [if_neg (by omega)]
  have hun : IntKind.u64.wrap (IntKind.u64.wrap (IntKind.u64.wrap (un * 4294967296) + un1) - IntKind.u64.wrap (Q1 * (yn1 * 4294967296 + yn0))) = V := by
    have : 0 ≤ Q1 * (yn1 * 4294967296 + yn0) := Int.mul_nonneg hQ0 (by omega)
    generalize Q1 * (yn1 * 4294967296 + yn0) = p at *
    rw [wu, wu, wu, wu]; omega
  rw [hun]
  have hq' := q1_le V yn1 yn0 b1 b2 b3 v0 v1
  obtain ⟨z1, z2, z3, z4, z5⟩ := start_ok V yn1 b1 b2 v0 (by omega) hq'
  rw [z1, z2]
  obtain ⟨r, hr⟩ := loop1 s yn1 yn0 V un0 Q1 hs b1 b2 b3 h0 v0 v1 2 k' (V / yn1) (V % yn1) (by omega) hq'.1 hq'.2 z3 z4 (by omega) (by omega) (q_ge _ _ _ _ _ _ b1 b3.1 h0.2 z3 z5 hq'.1)
  refine ⟨r, ?_⟩
  rw [hr]
  have hQ2 : 0 ≤ (V * 4294967296 + un0) / (yn1 * 4294967296 + yn0) := Int.ediv_nonneg (by omega) (by omega)
  have hQ3 : (V * 4294967296 + un0) / (yn1 * 4294967296 + yn0) < 4294967296 := Int.ediv_lt_of_lt_mul hp (by omega)
  have hfin : (un * 18446744073709551616 + un1 * 4294967296 + un0) / (yn1 * 4294967296 + yn0) = Q1 * 4294967296 + (V * 4294967296 + un0) / (yn1 * 4294967296 + yn0) := by
    have : un * 18446744073709551616 + un1 * 4294967296 + un0 = (V * 4294967296 + un0) + (yn1 * 4294967296 + yn0) * (Q1 * 4294967296) := by
      have : (yn1 * 4294967296 + yn0) * (Q1 * 4294967296) = Q1 * (yn1 * 4294967296 + yn0) * 4294967296 := by grind
      omega
    rw [this, Int.add_mul_ediv_left _ _ (by omega)]; omega
  rw [hfin, wu, wu]
  congr 2
  omega
def divv (a b : Int) : Int := if b ≤ a / 4294967296 then 18446744073709551615 else a * 4294967296 / b
theorem bl_spec : ∀ (f x : Nat), x < 2 ^ f → x ≠ 0 → 1 ≤ Lib.bitLenAux f x ∧ 2 ^ (Lib.bitLenAux f x - 1) ≤ x ∧ x < 2 ^ Lib.bitLenAux f x
  | 0, x, h, h0 => by omega
  | f + 1, x, h, h0 => by
    simp only [Lib.bitLenAux]
    rw [if_neg h0]
    by_cases hz : x / 2 = 0
    · have : x = 1 := by omega
      subst this
      cases f with
      | zero => simp [Lib.bitLenAux]
      | succ f => simp [Lib.bitLenAux]
    · obtain ⟨h1, h2, h3⟩ := bl_spec f (x / 2) (by rw [Nat.pow_succ] at h; omega) hz
      generalize Lib.bitLenAux f (x / 2) = m at *
      obtain ⟨m, rfl⟩ : ∃ j, m = j + 1 := ⟨m - 1, by omega⟩
      refine ⟨by omega, ?_, ?_⟩
      · rw [show 1 + (m + 1) - 1 = m + 1 from by omega, Nat.pow_succ]
        rw [Nat.add_sub_cancel] at h2; omega
      · rw [show 1 + (m + 1) = (m + 1) + 1 from by omega, Nat.pow_succ]; omega
theorem div64_f (hi lo y : Int) (h0 : 0 ≤ hi) (h1 : hi < y) (hl : 0 ≤ lo ∧ lo ≤ 18446744073709551615) (hy : y ≤ 18446744073709551615) {k : Nat} (hk : 40 ≤ k) :
    ∃ r, bits_Div64.f k hi lo y = some ((hi * 18446744073709551616 + lo) / y, r) := by
  unfold bits_Div64.f
  rw [if_neg (by omega), if_neg (by omega)]
  by_cases hz : hi = 0
  · rw [if_pos hz, hz]
    refine ⟨Int.tmod lo y, ?_⟩
    rw [Int.tdiv_eq_ediv_of_nonneg hl.1, wu]
    have a1 : 0 ≤ lo / y := Int.ediv_nonneg hl.1 (by omega)
    have a2 : lo / y ≤ lo := Int.ediv_le_self _ hl.1
    rw [show lo / y % 18446744073709551616 = lo / y from by omega]; simp
  · rw [if_neg hz]
    obtain ⟨b1, b2, b3⟩ := bl_spec 64 y.toNat (by omega) (by omega)
    have b4 : Lib.bitLen y.toNat ≤ 64 := Lib.bitLen_le y.toNat 64 (by omega) (by omega)
    change 1 ≤ Lib.bitLen y.toNat at b1
    change 2 ^ (Lib.bitLen y.toNat - 1) ≤ y.toNat at b2
    change y.toNat < 2 ^ Lib.bitLen y.toNat at b3
    have hlz : bits_LeadingZeros64.f y = some (64 - (Lib.bitLen y.toNat : Int)) := by
      unfold bits_LeadingZeros64.f
      rw [if_pos (by omega), if_pos hy]
    rw [hlz]
    generalize Lib.bitLen y.toNat = L at *
    clear hlz
    simp only [Option.bind_some]
    obtain ⟨s, hs⟩ : ∃ s : Nat, s = 64 - L := ⟨_, rfl⟩
    have hw : IntKind.u64.wrap (64 - (L : Int)) = (s : Int) := by rw [wu]; omega
    have hw2 : IntKind.u64.wrap (64 - (s : Int)) = (L : Int) := by rw [wu]; omega
    rw [hw, hw2, if_pos (by omega), if_pos (by omega)]
    rw [shl_u y s (by omega) (by omega), shl_u hi s (by omega) (by omega), shl_u lo s (by omega) (by omega), shr_u lo L (by omega) (by omega)]
    rw [Int.toNat_natCast, Int.toNat_natCast]
    have hP : (0 : Int) < 2 ^ s := Int.pow_pos (by omega)
    have hLs : (2 : Int) ^ L * 2 ^ s = 18446744073709551616 := by
      rw [← Int.pow_add, show L + s = 64 from by omega]; rfl
    have hLs1 : (2 : Int) ^ (L - 1) * 2 ^ s = 9223372036854775808 := by
      rw [← Int.pow_add, show L - 1 + s = 63 from by omega]; rfl
    have hPs : (2 : Int) ^ s < 18446744073709551616 := by
      have h1 : (0 : Int) < 2 ^ (L - 1) := Int.pow_pos (by omega)
      have := Int.mul_le_mul_of_nonneg_right (show (1 : Int) ≤ 2 ^ (L - 1) by omega) (show (0 : Int) ≤ 2 ^ s by omega)
      omega
    have y1 : y < 2 ^ L := by
      have : (y.toNat : Int) < ((2 ^ L : Nat) : Int) := by exact_mod_cast b3
      have e : ((2 ^ L : Nat) : Int) = 2 ^ L := by simp
      omega
    have y0 : 2 ^ (L - 1) ≤ y := by
      have : ((2 ^ (L - 1) : Nat) : Int) ≤ (y.toNat : Int) := by exact_mod_cast b2
      have e : ((2 ^ (L - 1) : Nat) : Int) = 2 ^ (L - 1) := by simp
      omega
    have z1 : y * 2 ^ s < 18446744073709551616 := by rw [← hLs]; exact Int.mul_lt_mul_of_pos_right y1 hP
    have z0 : 9223372036854775808 ≤ y * 2 ^ s := by rw [← hLs1]; exact Int.mul_le_mul_of_nonneg_right y0 (by omega)
    have x1 : (hi + 1) * 2 ^ s ≤ y * 2 ^ s := Int.mul_le_mul_of_nonneg_right (by omega) (by omega)
    have x2 : (hi + 1) * 2 ^ s = hi * 2 ^ s + 2 ^ s := by grind
    have x3 : 0 ≤ hi * 2 ^ s := Int.mul_nonneg h0 (by omega)
    have hLp : (0 : Int) < 2 ^ L := Int.pow_pos (by omega)
    have l1 : 0 ≤ lo / 2 ^ L := Int.ediv_nonneg hl.1 (by omega)
    have l2 : lo / 2 ^ L < 2 ^ s := Int.ediv_lt_of_lt_mul hLp (by rw [Int.mul_comm, hLs]; omega)
    have hm : hi * 2 ^ s % 2 ^ s = 0 := Int.mul_emod_left _ _
    have ll : lo * 2 ^ s / 18446744073709551616 = lo / 2 ^ L := by
      rw [← hLs]; exact Int.mul_ediv_mul_of_pos_left _ _ hP
    have ly : y * 2 ^ s % 18446744073709551616 = y * 2 ^ s := by omega
    have lh : hi * 2 ^ s % 18446744073709551616 = hi * 2 ^ s := by omega
    rw [ly, lh, or_join s (hi * 2 ^ s) (lo / 2 ^ L) x3 hm (by omega) l1 l2 (by omega), and32 (y * 2 ^ s) (by omega) z1, and32 _ (by omega) (by omega)]
    rw [if_neg (by omega)]
    have hun : hi * 2 ^ s + lo / 2 ^ L < y * 2 ^ s := by omega
    obtain ⟨r, hr⟩ := div_two s (y * 2 ^ s) (hi * 2 ^ s + lo / 2 ^ L) (lo * 2 ^ s % 18446744073709551616 / 4294967296) (lo * 2 ^ s % 18446744073709551616 % 4294967296) (by omega) z0 (by omega) (by omega) (by omega) (by omega) hun hk
    refine ⟨r, ?_⟩
    rw [hr]
    congr 2
    have hx : (hi * 2 ^ s + lo / 2 ^ L) * 18446744073709551616 + lo * 2 ^ s % 18446744073709551616 / 4294967296 * 4294967296 + lo * 2 ^ s % 18446744073709551616 % 4294967296 = (hi * 18446744073709551616 + lo) * 2 ^ s := by
      have e1 : (hi * 18446744073709551616 + lo) * 2 ^ s = hi * 2 ^ s * 18446744073709551616 + lo * 2 ^ s := by grind
      omega
    rw [hx]
    exact Int.mul_ediv_mul_of_pos_left _ _ hP
theorem quot_f (a b : Int) (ha : 0 ≤ a ∧ a ≤ 18446744073709551615) (hb : 0 ≤ b ∧ b ≤ 18446744073709551615) {k : Nat} (hk : 40 ≤ k) : fix_quotient.f k a b = some (divv a b) := by
  unfold fix_quotient.f divv
  split
  · rfl
  · rw [wu]
    obtain ⟨r, hr⟩ := div64_f (a / 4294967296) (a * 4294967296 % 18446744073709551616) b (by omega) (by omega) (by omega) hb.2 hk
    rw [hr]
    simp only [Option.bind_some]
    congr 2; omega
theorem divv_range (a b : Int) (ha : 0 ≤ a ∧ a ≤ 18446744073709551615) (hb : 0 ≤ b) : 0 ≤ divv a b ∧ divv a b ≤ 18446744073709551615 := by
  unfold divv
  split
  · omega
  · refine ⟨Int.ediv_nonneg (by omega) hb, ?_⟩
    have : a * 4294967296 / b < 18446744073709551616 := Int.ediv_lt_of_lt_mul (by omega) (by omega)
    omega
def mulv (a b : Int) : Int := if a * b / 79228162514264337593543950336 = 0 then a * b / 4294967296 else 18446744073709551615
theorem mul64_range (a b : Int) (ha : 0 ≤ a ∧ a ≤ 18446744073709551615) (hb : 0 ≤ b ∧ b ≤ 18446744073709551615) : 0 ≤ a * b ∧ a * b ≤ 340282366920938463426481119284349108225 := by
  refine ⟨Int.mul_nonneg ha.1 hb.1, ?_⟩
  have := Int.mul_le_mul ha.2 hb.2 hb.1 (by omega : (0 : Int) ≤ 18446744073709551615)
  omega
theorem shifted_f (p : Int) (h0 : 0 ≤ p) (h1 : p ≤ 340282366920938463426481119284349108225) : fix_shifted.f (p / 18446744073709551616) (p % 18446744073709551616) = some (if p / 79228162514264337593543950336 = 0 then p / 4294967296 else 18446744073709551615) := by
  unfold fix_shifted.f
  have e : p / 18446744073709551616 / 4294967296 = p / 79228162514264337593543950336 := by omega
  rw [e]
  by_cases h : p / 79228162514264337593543950336 = 0
  · rw [if_pos h, if_pos h, wu, or_join 32 _ _ (by omega) (by omega) (by omega) (by omega) (by omega) (by omega)]
    congr 1; omega
  · rw [if_neg h, if_neg h]
theorem mul64_f (a b : Int) (ha : 0 ≤ a ∧ a ≤ 18446744073709551615) (hb : 0 ≤ b ∧ b ≤ 18446744073709551615) : bits_Mul64.f a b = some (a * b / 18446744073709551616, a * b % 18446744073709551616) := by
  unfold bits_Mul64.f; rw [if_pos ⟨ha.1, ha.2, hb.1, hb.2⟩]
theorem mul_f (a b : Int) (ha : 0 ≤ a ∧ a ≤ 18446744073709551615) (hb : 0 ≤ b ∧ b ≤ 18446744073709551615) : fix_F_Mul.f a b = some (mulv a b) := by
  unfold fix_F_Mul.f mulv
  have h := mul64_range a b ha hb
  rw [mul64_f a b ha hb]; simp only [Option.bind_some]
  rw [shifted_f _ h.1 h.2]; rfl
theorem mulv_range (a b : Int) (ha : 0 ≤ a ∧ a ≤ 18446744073709551615) (hb : 0 ≤ b ∧ b ≤ 18446744073709551615) : 0 ≤ mulv a b ∧ mulv a b ≤ 18446744073709551615 := by
  have h := mul64_range a b ha hb
  unfold mulv; split <;> omega
/-- r is the square root of n, rounded down. -/
def IsRoot (n r : Int) : Prop := 0 ≤ r ∧ r * r ≤ n ∧ n < (r + 1) * (r + 1)
theorem root_l (a : Int) (ha : 0 ≤ a ∧ a ≤ 18446744073709551615) : ∀ (d k : Nat) (r : Int), d ≤ 48 → d < k → 0 ≤ r → r % 2 ^ d = 0 → r + 2 ^ d ≤ 281474976710656 → r * r ≤ a * 4294967296 → a * 4294967296 < (r + 2 ^ d) * (r + 2 ^ d) → ∃ q, fix_F_Root.l0 k a r ((d : Int) - 1) = some q ∧ IsRoot (a * 4294967296) q ∧ q < 281474976710656
  | 0, k, r, hd, hk, h0, hm, hr, h1, h2 => by
    obtain ⟨k, rfl⟩ : ∃ m, k = m + 1 := ⟨k - 1, by omega⟩
    refine ⟨r, ?_, ⟨h0, h1, by simpa using h2⟩, by simp at hr; omega⟩
    simp only [fix_F_Root.l0]
    rw [if_neg (by omega)]
  | d + 1, k, r, hd, hk, h0, hm, hr, h1, h2 => by
    obtain ⟨k, rfl⟩ : ∃ m, k = m + 1 := ⟨k - 1, by omega⟩
    have hP : (0 : Int) < 2 ^ d := Int.pow_pos (by omega)
    obtain ⟨P, hPe⟩ : ∃ P : Int, 2 ^ d = P := ⟨_, rfl⟩
    have e2 : (2 : Int) ^ (d + 1) = 2 * P := by rw [Int.pow_succ, hPe]; omega
    rw [e2] at hm hr h2
    rw [hPe] at hP
    have hs : shl .u64 1 (((d + 1 : Nat) : Int) - 1) = P := by
      rw [shl_u 1 _ (by omega) (by omega), show (((d + 1 : Nat) : Int) - 1).toNat = d from by omega, hPe]; omega
    have hmd : r % P = 0 := by
      have := Int.emod_emod_of_dvd r (show P ∣ 2 * P from ⟨2, by omega⟩)
      rw [hm] at this; simpa using this.symm
    have hj : Go.bits .or .u64 r P = r + P := or_join (d + 1) r P h0 (by rw [e2]; exact hm) (by omega) (by omega) (by rw [e2]; omega) (by omega)
    have hn : 0 ≤ r + P ∧ r + P ≤ 18446744073709551615 := by omega
    have hsq : 0 ≤ (r + P) * (r + P) := Int.mul_nonneg hn.1 hn.1
    have hsq2 : (r + P) * (r + P) ≤ 281474976710656 * 281474976710656 := Int.mul_le_mul (by omega) (by omega) (by omega) (by omega)
    simp only [fix_F_Root.l0]
    rw [if_pos (by omega), if_pos (by omega), hs, hj, mul64_f _ _ hn hn]
    simp only [Option.bind_some]
    rw [w64 (by omega) (by omega), wu]
    have ed : (((d + 1 : Nat) : Int) - 1 - 1) = (d : Int) - 1 := by omega
    rw [ed]
    by_cases hc : (r + P) * (r + P) ≤ a * 4294967296
    · obtain ⟨q, hq, hroot⟩ := root_l a ha d k (r + P) (by omega) (by omega) hn.1 (by rw [hPe, Int.add_emod, hmd]; simp) (by rw [hPe]; omega) hc (by rw [hPe, show r + P + P = r + 2 * P from by omega]; exact h2)
      refine ⟨q, ?_, hroot⟩
      generalize (r + P) * (r + P) = s at *
      split
      · exact hq
      · split
        · rw [if_pos (by omega)]; exact hq
        · omega
    · obtain ⟨q, hq, hroot⟩ := root_l a ha d k r (by omega) (by omega) h0 (by rw [hPe]; exact hmd) (by rw [hPe]; omega) h1 (by rw [hPe]; omega)
      refine ⟨q, ?_, hroot⟩
      generalize (r + P) * (r + P) = s at *
      split
      · omega
      · split
        · rw [if_neg (by omega)]; exact hq
        · exact hq
theorem root_f (a : Int) (ha : 0 ≤ a ∧ a ≤ 18446744073709551615) {k : Nat} (hk : 60 ≤ k) : ∃ q, fix_F_Root.f k a = some q ∧ IsRoot (a * 4294967296) q ∧ q < 281474976710656 := by
  unfold fix_F_Root.f
  exact root_l a ha 48 k 0 (by omega) (by omega) (by omega) (by simp) (by decide) (by omega) (by
    have : ((0 : Int) + 2 ^ 48) * (0 + 2 ^ 48) = 79228162514264337593543950336 := by decide
    omega)
theorem root_mono {m n q r : Int} (h : m ≤ n) (hq : IsRoot m q) (hr : IsRoot n r) : q ≤ r := by
  obtain ⟨q0, q1, q2⟩ := hq
  obtain ⟨r0, r1, r2⟩ := hr
  apply Int.not_lt.mp
  intro hlt
  have : (r + 1) * (r + 1) ≤ q * q := Int.mul_le_mul (by omega) (by omega) (by omega) (by omega)
  omega
theorem root_one {n q r : Int} (hq : IsRoot n q) (hr : IsRoot n r) : q = r := Int.le_antisymm (root_mono (Int.le_refl n) hq hr) (root_mono (Int.le_refl n) hr hq)
def rootv (a : Int) : Int := (fix_F_Root.f 60 a).getD 0
theorem root_v (a : Int) (ha : 0 ≤ a ∧ a ≤ 18446744073709551615) : IsRoot (a * 4294967296) (rootv a) ∧ rootv a < 281474976710656 ∧ ∀ k, 60 ≤ k → fix_F_Root.f k a = some (rootv a) := by
  obtain ⟨q, h1, h2, h3⟩ := root_f a ha (k := 60) (by omega)
  have e : rootv a = q := by unfold rootv; rw [h1]; rfl
  rw [e]
  exact ⟨h2, h3, fun k hk => at_rounds (g := fun k => fix_F_Root.f k a) (fun k => fix_F_Root.mono a k) hk h1⟩
theorem rootv_range (a : Int) (ha : 0 ≤ a ∧ a ≤ 18446744073709551615) : 0 ≤ rootv a ∧ rootv a ≤ 18446744073709551615 := by
  obtain ⟨h1, h2, _⟩ := root_v a ha
  have := h1.1
  omega
theorem rootv_le {a b : Int} (ha : 0 ≤ a ∧ a ≤ 18446744073709551615) (hb : 0 ≤ b ∧ b ≤ 18446744073709551615) (h : a ≤ b) : rootv a ≤ rootv b :=
  root_mono (by omega) (root_v a ha).1 (root_v b hb).1
theorem mulv_comm (a b : Int) : mulv a b = mulv b a := by unfold mulv; rw [Int.mul_comm]
theorem mulv_le1 {x y c : Int} (hx : 0 ≤ x ∧ x ≤ 18446744073709551615) (hy : 0 ≤ y ∧ y ≤ 18446744073709551615) (hc : 0 ≤ c ∧ c ≤ 18446744073709551615) (h : x ≤ y) : mulv x c ≤ mulv y c := by
  have h1 := mul64_range x c hx hc
  have h2 := mul64_range y c hy hc
  have h3 := Int.mul_le_mul_of_nonneg_right h hc.1
  unfold mulv; split <;> split <;> omega
theorem mulv_le2 {x y u v : Int} (hx : 0 ≤ x ∧ x ≤ 18446744073709551615) (hy : 0 ≤ y ∧ y ≤ 18446744073709551615) (hu : 0 ≤ u ∧ u ≤ 18446744073709551615) (hv : 0 ≤ v ∧ v ≤ 18446744073709551615) (h : x ≤ y) (h' : u ≤ v) : mulv x u ≤ mulv y v := by
  have h1 := mulv_le1 hx hy hu h
  have h2 := mulv_le1 hu hv hy h'
  rw [mulv_comm u y, mulv_comm v y] at h2
  omega
theorem addv_le2 {x y u v : Int} (h : x ≤ y) (h' : u ≤ v) : addv x u ≤ addv y v := by unfold addv; split <;> split <;> omega
theorem divv_le1 {x y c : Int} (hx : 0 ≤ x ∧ x ≤ 18446744073709551615) (hy : 0 ≤ y ∧ y ≤ 18446744073709551615) (hc : 0 ≤ c) (h : x ≤ y) : divv x c ≤ divv y c := by
  have h1 := divv_range x c hx hc
  have h2 := divv_range y c hy hc
  unfold divv at *
  by_cases e1 : c ≤ x / 4294967296
  · rw [if_pos e1, if_pos (by omega)]; omega
  · rw [if_neg e1] at *
    by_cases e2 : c ≤ y / 4294967296
    · rw [if_pos e2]; omega
    · rw [if_neg e2]; exact Int.ediv_le_ediv (by omega) (by omega)
theorem divv_ge1 {x y c : Int} (hx : 0 ≤ x) (hc : 0 ≤ c ∧ c ≤ 18446744073709551615) (h : x ≤ y) : divv c y ≤ divv c x := by
  have h1 := divv_range c x hc hx
  have h2 := divv_range c y hc (by omega)
  unfold divv at *
  by_cases e1 : y ≤ c / 4294967296
  · rw [if_pos e1, if_pos (by omega)]; omega
  · rw [if_neg e1] at *
    by_cases e2 : x ≤ c / 4294967296
    · rw [if_pos e2]; omega
    · rw [if_neg e2]
      apply Int.le_ediv_of_mul_le (by omega)
      have e := Int.mul_ediv_add_emod (c * 4294967296) y
      have e3 := Int.emod_nonneg (c * 4294967296) (show y ≠ 0 by omega)
      have e4 : c * 4294967296 / y * x ≤ c * 4294967296 / y * y := Int.mul_le_mul_of_nonneg_left h (Int.ediv_nonneg (by omega) (by omega))
      rw [Int.mul_comm] at e
      omega
/-! what the equation says -/
def againv (p : Int) : Int := mulv p (addv 4294967296 (mulv 137438953472 (mulv p p)))
def slopev (p : Int) : Int := addv (rootv (mulv p 2863311530)) (mulv (mulv 51539607552 (rootv (mulv p 1610612736))) (againv p))
def ratev (s r p : Int) : Int := if p = 0 then 18446744073709551615 else divv (s * 4294967296) (mulv r (slopev p))
def U (a : Int) : Prop := 0 ≤ a ∧ a ≤ 18446744073709551615
theorem U_lit {a : Int} (h : 0 ≤ a ∧ a ≤ 18446744073709551615) : U a := h
theorem mulv_U {a b : Int} (ha : U a) (hb : U b) : U (mulv a b) := mulv_range a b ha hb
theorem addv_U {a b : Int} (ha : U a) (hb : U b) : U (addv a b) := addv_range a b ha hb
theorem rootv_U {a : Int} (ha : U a) : U (rootv a) := rootv_range a ha
theorem againv_U {p : Int} (h : U p) : U (againv p) := mulv_U h (addv_U (U_lit (by omega)) (mulv_U (U_lit (by omega)) (mulv_U h h)))
theorem slopev_U {p : Int} (h : U p) : U (slopev p) := addv_U (rootv_U (mulv_U h (U_lit (by omega)))) (mulv_U (mulv_U (U_lit (by omega)) (rootv_U (mulv_U h (U_lit (by omega))))) (againv_U h))
theorem againv_le {p q : Int} (hp : U p) (hq : U q) (h : p ≤ q) : againv p ≤ againv q :=
  mulv_le2 hp hq (addv_U (U_lit (by omega)) (mulv_U (U_lit (by omega)) (mulv_U hp hp))) (addv_U (U_lit (by omega)) (mulv_U (U_lit (by omega)) (mulv_U hq hq))) h (addv_le2 (Int.le_refl _) (mulv_le2 (U_lit (by omega)) (U_lit (by omega)) (mulv_U hp hp) (mulv_U hq hq) (Int.le_refl _) (mulv_le2 hp hq hp hq h h)))
theorem slopev_le {p q : Int} (hp : U p) (hq : U q) (h : p ≤ q) : slopev p ≤ slopev q := by
  have c1 : U 2863311530 := U_lit (by omega)
  have c2 : U 1610612736 := U_lit (by omega)
  have c3 : U 51539607552 := U_lit (by omega)
  exact addv_le2 (rootv_le (mulv_U hp c1) (mulv_U hq c1) (mulv_le1 hp hq c1 h)) (mulv_le2 (mulv_U c3 (rootv_U (mulv_U hp c2))) (mulv_U c3 (rootv_U (mulv_U hq c2))) (againv_U hp) (againv_U hq) (mulv_le2 c3 c3 (rootv_U (mulv_U hp c2)) (rootv_U (mulv_U hq c2)) (Int.le_refl _) (rootv_le (mulv_U hp c2) (mulv_U hq c2) (mulv_le1 hp hq c2 h))) (againv_le hp hq h))
theorem slope_f (p : Int) (hp : U p) {k : Nat} (hk : 100 ≤ k) : eqn_slope.f k p = some (slopev p) := by
  have r1 : fix_Ratio.f k 2 3 = some 2863311530 := bs (quot_f 2 3 (by omega) (by omega) (by omega)) (by unfold divv; simp)
  have r2 : fix_Ratio.f k 3 8 = some 1610612736 := bs (quot_f 3 8 (by omega) (by omega) (by omega)) (by unfold divv; simp)
  have o1 : fix_Of.f 12 = some 51539607552 := by unfold fix_Of.f; simp [wu]
  have o2 : fix_Of.f 32 = some 137438953472 := by unfold fix_Of.f; simp [wu]
  have c1 : U 2863311530 := U_lit (by omega)
  have c2 : U 1610612736 := U_lit (by omega)
  have c3 : U 51539607552 := U_lit (by omega)
  have c4 : U 137438953472 := U_lit (by omega)
  have c5 : U 4294967296 := U_lit (by omega)
  have g1 := mulv_U hp c1
  have g2 := mulv_U hp c2
  unfold eqn_slope.f
  refine bs r1 (bs (mul_f p _ hp c1) (bs ((root_v _ g1).2.2 k (by omega)) (bs o1 (bs r2 (bs (mul_f p _ hp c2) (bs ((root_v _ g2).2.2 k (by omega)) ?_))))))
  refine bs (mul_f _ _ c3 (rootv_U g2)) (bs o2 (bs (mul_f p p hp hp) (bs (mul_f _ _ c4 (mulv_U hp hp)) (bs (add_f _ _ c5 (mulv_U c4 (mulv_U hp hp))) ?_))))
  refine bs (mul_f _ _ hp (addv_U c5 (mulv_U c4 (mulv_U hp hp)))) (bs (mul_f _ _ (mulv_U c3 (rootv_U g2)) (againv_U hp)) (bs (add_f _ _ (rootv_U g1) (mulv_U (mulv_U c3 (rootv_U g2)) (againv_U hp))) rfl))
theorem of_f32 (s : Int) (h : 0 ≤ s ∧ s ≤ 4294967295) : fix_Of.f s = some (s * 4294967296) := by
  unfold fix_Of.f; rw [wu, wu]; congr 1; omega
theorem rate_f (s r p : Int) (hs : 0 ≤ s ∧ s ≤ 4294967295) (hr : U r) (hp : U p) {k : Nat} (hk : 100 ≤ k) : eqn_Rate.f k s r p = some (ratev s r p) := by
  unfold eqn_Rate.f ratev
  by_cases h : p = 0
  · rw [if_pos h, if_pos h]
  · rw [if_neg h, if_neg h]
    refine bs (of_f32 s hs) (bs (slope_f p hp hk) (bs (mul_f r _ hr (slopev_U hp)) ?_))
    exact bs (a := divv (s * 4294967296) (mulv r (slopev p))) (bs (quot_f _ _ (by omega) (mulv_U hr (slopev_U hp)) (by omega)) rfl) rfl
theorem ratev_U (s r p : Int) (hs : 0 ≤ s ∧ s ≤ 4294967295) (hr : U r) (hp : U p) : U (ratev s r p) := by
  unfold ratev
  split
  · exact U_lit (by omega)
  · exact divv_range _ _ (by omega) (mulv_U hr (slopev_U hp)).1
theorem ratev_p {s r p q : Int} (hs : 0 ≤ s ∧ s ≤ 4294967295) (hr : U r) (hp : U p) (hq : U q) (h : p ≤ q) : ratev s r q ≤ ratev s r p := by
  have u1 := ratev_U s r q hs hr hq
  unfold ratev at *
  by_cases h1 : p = 0
  · rw [if_pos h1]; exact u1.2
  · have := hp.1
    rw [if_neg h1, if_neg (by omega)]
    exact divv_ge1 (mulv_U hr (slopev_U hp)).1 (by omega) (mulv_le2 hr hr (slopev_U hp) (slopev_U hq) (Int.le_refl _) (slopev_le hp hq h))
theorem ratev_r {s r t p : Int} (hs : 0 ≤ s ∧ s ≤ 4294967295) (hr : U r) (ht : U t) (hp : U p) (h : r ≤ t) : ratev s t p ≤ ratev s r p := by
  unfold ratev
  split
  · omega
  · exact divv_ge1 (mulv_U hr (slopev_U hp)).1 (by omega) (mulv_le1 hr ht (slopev_U hp) h)
theorem ratev_s {s t r p : Int} (hs : 0 ≤ s ∧ s ≤ 4294967295) (ht : 0 ≤ t ∧ t ≤ 4294967295) (hr : U r) (hp : U p) (h : s ≤ t) : ratev s r p ≤ ratev t r p := by
  unfold ratev
  split
  · omega
  · exact divv_le1 (by omega) (by omega) (mulv_U hr (slopev_U hp)).1 (by omega)
theorem awake_k {k : Nat} (hk : 150 ≤ k) : terracelaw03_awake.f k = some true :=
  at_rounds (g := fun k => terracelaw03_awake.f k) (fun k => terracelaw03_awake.mono k) hk (by decide +kernel)
theorem or32_ge (a b : Int) (ha : 0 ≤ a ∧ a ≤ 4294967295) (hb : 0 ≤ b ∧ b ≤ 4294967295) : a ≤ Go.bits .or .u32 a b ∧ Go.bits .or .u32 a b ≤ 4294967295 := by
  obtain ⟨x, rfl⟩ := Int.eq_ofNat_of_zero_le ha.1
  obtain ⟨y, rfl⟩ := Int.eq_ofNat_of_zero_le hb.1
  have h := (bits_nat .u32 32 (by decide) (fun n h0 h1 => by rw [IntKind.wrap_u32]; omega) x y (by omega) (by omega)).2
  rw [h]
  have h1 : x ≤ x ||| y := Nat.left_le_or
  have h2 : x ||| y < 2 ^ 32 := Nat.or_lt_two_pow (by omega) (by omega)
  omega
theorem addv_self {a b : Int} (ha : U a) (hb : U b) : a ≤ addv a b := by
  have h1 := ha.2
  have h2 := hb.1
  unfold addv; split <;> omega
theorem EqnFalls : terracelaw03_EqnFalls.Pure := by
  intro s r p zp zr zs hs hr hp hzp hzr hzs
  have hs := wf_u32 hs
  have hr : U r := wf_u64 hr
  have hp : U p := wf_u64 hp
  have hzp : U zp := wf_u64 hzp
  have hzr : U zr := wf_u64 hzr
  have hzs := wf_u32 hzs
  obtain ⟨k, hk⟩ : ∃ k, 500 < k := ⟨501, by omega⟩
  refine ⟨k, ?_⟩
  have ho := or32_ge s zs hs hzs
  unfold terracelaw03_EqnFalls.f
  refine bs (rate_f s r p hs hr hp (by omega)) (bs (add_f p zp hp hzp) (bs (rate_f s r _ hs hr (addv_U hp hzp) (by omega)) ?_))
  rw [if_pos (ratev_p hs hr hp (addv_U hp hzp) (addv_self hp hzp))]
  refine bs (add_f r zr hr hzr) (bs (rate_f s _ p hs (addv_U hr hzr) hp (by omega)) ?_)
  rw [if_pos (ratev_r hs hr (addv_U hr hzr) hp (addv_self hr hzr))]
  refine bs (rate_f _ r p (by omega) hr hp (by omega)) ?_
  rw [if_pos (ratev_s hs (by omega) hr hp ho.1)]
  exact bs (awake_k (by omega)) rfl

end Go.Proofs.Ytfnlepedmppncaa.Pure
