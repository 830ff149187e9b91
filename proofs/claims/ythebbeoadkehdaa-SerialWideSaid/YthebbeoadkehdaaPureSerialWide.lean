/- Proved: the number that is meant has these last bits, and none with them is nearer (for every input that the statement's guards let in; the Go function returns true and leaves its arguments as they were). -/
import Derived.Test.YthebbeoadkehdaaPSerialWidex1
set_option linter.unusedVariables false
set_option linter.unusedSimpArgs false
namespace Go.Proofs.Ythebbeoadkehdaa.Pure
open Go.RowKit Go.Proofs.Ythebbeoadkehdaa.PSerialWide Go.Proofs.YthebbeoadkehdaaW.PrintWords Go.Proofs.YthebbeoadkehdaaW.PrintLast Go.Proofs.YthebbeoadkehdaaW.PrintMore

theorem wf_u8 {a : Int} (h : (Lit.int .u8 a).wf = true) : 0 ≤ a ∧ a ≤ 255 := by
  simpa [Lit.wf, IntKind.min, IntKind.max, IntKind.signed, IntKind.bits] using h
theorem wf_u16 {a : Int} (h : (Lit.int .u16 a).wf = true) : 0 ≤ a ∧ a ≤ 65535 := by
  simpa [Lit.wf, IntKind.min, IntKind.max, IntKind.signed, IntKind.bits] using h
theorem wf_u32 {a : Int} (h : (Lit.int .u32 a).wf = true) : 0 ≤ a ∧ a ≤ 4294967295 := by
  simpa [Lit.wf, IntKind.min, IntKind.max, IntKind.signed, IntKind.bits] using h
theorem wf_u64 {a : Int} (h : (Lit.int .u64 a).wf = true) : 0 ≤ a ∧ a ≤ 18446744073709551615 := by
  simpa [Lit.wf, IntKind.min, IntKind.max, IntKind.signed, IntKind.bits] using h
theorem wf_i64 {a : Int} (h : (Lit.int .i64 a).wf = true) : -9223372036854775808 ≤ a ∧ a ≤ 9223372036854775807 := by
  simpa [Lit.wf, IntKind.min, IntKind.max, IntKind.signed, IntKind.bits] using h
theorem w64 {n : Int} (h : -9223372036854775808 ≤ n) (h' : n ≤ 9223372036854775807) : wrap64 n = n := by
  unfold wrap64; omega
theorem fuel {k n : Nat} (h : n < k) : ∃ m, k = m + 1 ∧ n ≤ m := ⟨k - 1, by omega, by omega⟩
def gap (a b : Int) : Int := if (b - a) % 4294967296 = 2147483648 then 0 else if (b - a) % 4294967296 < 2147483648 then (b - a) % 4294967296 else (b - a) % 4294967296 - 4294967296
theorem gap_f (a b : Int) : serial_Gap.f a b = some (gap a b) := by
  unfold serial_Gap.f gap
  split
  · rfl
  · congr 1; unfold wrap64 wrap32; split <;> omega
theorem ahead_f (a b : Int) : serial_Ahead.f a b = some (decide (gap a b > 0)) := by
  unfold serial_Ahead.f; rw [gap_f]; rfl
theorem awake_k {k : Nat} (hk : 20 ≤ k) : terracelaw05_awake.f k = some true :=
  at_rounds (g := fun k => terracelaw05_awake.f k) (fun k => terracelaw05_awake.mono k) hk (by decide +kernel)
theorem hi_nat (n : Nat) (h : n < 2 ^ 64) : n &&& 18446744069414584320 = 2 ^ 32 * (n / 2 ^ 32) := by
  have e : (18446744069414584320 : Nat) = 2 ^ 32 * (2 ^ 32 - 1) := by decide
  rw [e]
  apply Nat.eq_of_testBit_eq
  intro i
  rw [Nat.testBit_and, Nat.testBit_two_pow_mul, Nat.testBit_two_pow_mul, Nat.testBit_two_pow_sub_one, Nat.testBit_div_two_pow]
  by_cases hi : i ≥ 32
  · simp only [hi, decide_true, Bool.true_and]
    rw [Nat.sub_add_cancel hi]
    by_cases hj : i - 32 < 32
    · simp [hj]
    · have : n.testBit i = false := Nat.testBit_lt_two_pow (Nat.lt_of_lt_of_le h (Nat.pow_le_pow_right (by decide) (by omega)))
      simp [this]
  · simp [hi]
theorem hi_i64 (n : Int) (h0 : 0 ≤ n) (h1 : n < 4611686018427387904) : Go.bits .andNot .i64 n 4294967295 = n - n % 4294967296 := by
  obtain ⟨m, rfl⟩ := Int.eq_ofNat_of_zero_le h0
  have hm : m % 2 ^ 64 = m := Nat.mod_eq_of_lt (by omega)
  have e : ((BitVec.ofInt 64 (m : Int)) &&& ~~~(BitVec.ofInt 64 4294967295)).toNat = 2 ^ 32 * (m / 2 ^ 32) := by
    rw [BitVec.toNat_and, BitVec.toNat_not, BitVec.ofInt_natCast, BitVec.toNat_ofNat, hm]
    exact hi_nat m (by omega)
  show IntKind.i64.wrap (((BitVec.ofInt 64 (m : Int)) &&& ~~~(BitVec.ofInt 64 4294967295)).toNat : Int) = _
  rw [e, IntKind.wrap_i64]
  omega
theorem join_i64 (x y : Int) (h0 : 0 ≤ x) (h1 : x % 4294967296 = 0) (h2 : x < 4611686018427387904) (h3 : 0 ≤ y) (h4 : y < 4294967296) : Go.bits .or .i64 x y = x + y :=
  bits_join .i64 62 (by decide) (fun n h h' => by rw [IntKind.wrap_i64]; omega) 32 x y h0 h1 h2 h3 h4 (by omega)
theorem wide_end {k : Nat} (hk : 3 ≤ k) (x n : Int) (h0 : 0 ≤ x) (h1 : x ≤ 1099511627776) (h2 : x - 4294967296 < n) (h3 : n ≤ x + 2147483648) :
    ∃ r, serial_Wide.l1 k x n = some r ∧ r % 4294967296 = n % 4294967296 ∧ x - 2147483648 ≤ r ∧ r < x + 2147483648 := by
  obtain ⟨k, rfl⟩ : ∃ m, k = m + 2 := ⟨k - 2, by omega⟩
  simp only [serial_Wide.l1]
  rw [w64 (n := n + 4294967296) (by omega) (by omega), w64 (n := x + 2147483648) (by omega) (by omega), w64 (n := n - 4294967296) (by omega) (by omega), w64 (n := x - (n - 4294967296)) (by omega) (by omega), w64 (n := n - x) (by omega) (by omega)]
  by_cases h : n + 4294967296 ≤ x + 2147483648
  · rw [if_pos h, w64 (n := n + 4294967296 + 4294967296) (by omega) (by omega), if_neg (by omega), w64 (n := n + 4294967296 - 4294967296) (by omega) (by omega), w64 (n := x - (n + 4294967296 - 4294967296)) (by omega) (by omega), w64 (n := n + 4294967296 - x) (by omega) (by omega)]
    split
    · exact ⟨_, rfl, by omega, by omega, by omega⟩
    · exact ⟨_, rfl, by omega, by omega, by omega⟩
  · rw [if_neg h]
    split
    · exact ⟨_, rfl, by omega, by omega, by omega⟩
    · exact ⟨_, rfl, by omega, by omega, by omega⟩
theorem wide_f {k : Nat} (hk : 10 ≤ k) (x a : Int) (h0 : 0 ≤ x) (h1 : x ≤ 1099511627776) (ha : 0 ≤ a ∧ a ≤ 4294967295) :
    ∃ r, serial_Wide.f k x a = some r ∧ r % 4294967296 = a ∧ x - 2147483648 ≤ r ∧ r < x + 2147483648 := by
  obtain ⟨k, rfl⟩ : ∃ m, k = m + 3 := ⟨k - 3, by omega⟩
  unfold serial_Wide.f
  rw [if_neg (by omega)]
  simp only [serial_Wide.j0]
  rw [if_neg (by simp; omega), w64 (n := a) (by omega) (by omega), hi_i64 x h0 (by omega), join_i64 _ _ (by omega) (by omega) (by omega) (by omega) (by omega)]
  simp only [serial_Wide.l0]
  rw [w64 (n := x + 2147483648) (by omega) (by omega), w64 (n := x - x % 4294967296 + a - 4294967296) (by omega) (by omega)]
  by_cases h : x - x % 4294967296 + a > x + 2147483648
  · rw [if_pos h, if_neg (by omega)]
    obtain ⟨r, hr, hs⟩ := wide_end (k := k) (by omega) x (x - x % 4294967296 + a - 4294967296) h0 h1 (by omega) (by omega)
    exact ⟨r, hr, by omega, by omega, by omega⟩
  · rw [if_neg h]
    obtain ⟨r, hr, hs⟩ := wide_end (k := k + 1) (by omega) x (x - x % 4294967296 + a) h0 h1 (by omega) (by omega)
    exact ⟨r, hr, by omega, by omega, by omega⟩
theorem far_f (a b : Int) (ha : -10000000000000 ≤ a ∧ a ≤ 10000000000000) (hb : -10000000000000 ≤ b ∧ b ≤ 10000000000000) : terraceref05_Far.f a b = some (if a < b then b - a else a - b) := by
  unfold terraceref05_Far.f
  split
  · rw [w64 (by omega) (by omega)]
  · rw [w64 (by omega) (by omega)]
theorem SerialWide : terracelaw05_SerialWide.Pure := by
  intro x a hx ha
  have hx := wf_i64 hx
  have ha := wf_u32 ha
  refine ⟨30 + 1, ?_⟩
  unfold terracelaw05_SerialWide.f
  by_cases h : 0 ≤ x ∧ x ≤ 1099511627776
  · obtain ⟨r, hr, h1, h2, h3⟩ := wide_f (k := 30 + 1) (by omega) x a h.1 h.2 ha
    rw [hr]; simp only [Option.bind_some]
    rw [if_neg (by omega)]
    simp only [terracelaw05_SerialWide.j0]
    rw [if_neg (by simp; omega), if_pos h1, w64 (n := r - 4294967296) (by omega) (by omega), w64 (n := r + 4294967296) (by omega) (by omega), far_f _ _ (by omega) (by omega), far_f _ _ (by omega) (by omega), far_f _ _ (by omega) (by omega)]
    simp only [Option.bind_some]
    rw [if_pos (by split <;> split <;> omega), if_pos (by split <;> split <;> omega), awake_k (by omega)]; rfl
  · have hf : serial_Wide.f (30 + 1) x a = some 0 := by
      unfold serial_Wide.f
      by_cases h' : x < 0
      · rw [if_pos h']; rfl
      · rw [if_neg h']; simp only [serial_Wide.j0]; rw [if_pos (by simp; omega)]
    rw [hf]; simp only [Option.bind_some]
    by_cases h' : x < 0
    · rw [if_pos h']; simp only [terracelaw05_SerialWide.j0]; rw [awake_k (by omega)]; rfl
    · rw [if_neg h']; simp only [terracelaw05_SerialWide.j0]; rw [if_pos (by simp; omega), awake_k (by omega)]; rfl

end Go.Proofs.Ythebbeoadkehdaa.Pure
