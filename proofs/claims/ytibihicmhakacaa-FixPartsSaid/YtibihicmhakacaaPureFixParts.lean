/- Proved: any number's whole part is told, and it halved as often as one likes (for every input that the statement's guards let in; the Go function returns true and leaves its arguments as they were). -/
import Derived.Test.YtibihicmhakacaaPFixPartsx2
set_option linter.unusedVariables false
set_option linter.unusedSimpArgs false
namespace Go.Proofs.Ytibihicmhakacaa.Pure
open Go.RowKit Go.Proofs.Ytibihicmhakacaa.PFixParts Go.Proofs.YtibihicmhakacaaW.PrintWords Go.Proofs.YtibihicmhakacaaW.PrintLast Go.Proofs.YtibihicmhakacaaW.PrintMore

theorem wf_u8 {a : Int} (h : (Lit.int .u8 a).wf = true) : 0 ≤ a ∧ a ≤ 255 := by
  simpa [Lit.wf, IntKind.min, IntKind.max, IntKind.signed, IntKind.bits] using h
theorem wf_u16 {a : Int} (h : (Lit.int .u16 a).wf = true) : 0 ≤ a ∧ a ≤ 65535 := by
  simpa [Lit.wf, IntKind.min, IntKind.max, IntKind.signed, IntKind.bits] using h
theorem wf_u32 {a : Int} (h : (Lit.int .u32 a).wf = true) : 0 ≤ a ∧ a ≤ 4294967295 := by
  simpa [Lit.wf, IntKind.min, IntKind.max, IntKind.signed, IntKind.bits] using h
theorem wf_u64 {a : Int} (h : (Lit.int .u64 a).wf = true) : 0 ≤ a ∧ a ≤ 18446744073709551615 := by
  simpa [Lit.wf, IntKind.min, IntKind.max, IntKind.signed, IntKind.bits] using h
theorem wf_i64 {a : Int} (h : (Lit.int .i64 a).wf = true) : -9223372036854775808 ≤ a ∧ a ≤ 9223372036854775807 := by
  simpa [Lit.wf, IntKind.min, IntKind.max, IntKind.signed, IntKind.bits] using h
theorem w64 {n : Int} (h : -9223372036854775808 ≤ n) (h' : n ≤ 9223372036854775807) : wrap64 n = n := by
  unfold wrap64; omega
theorem fuel {k n : Nat} (h : n < k) : ∃ m, k = m + 1 ∧ n ≤ m := ⟨k - 1, by omega, by omega⟩
theorem u64 {n : Int} (h : 0 ≤ n) (h' : n ≤ 18446744073709551615) : IntKind.u64.wrap n = n := by
  simp only [IntKind.wrap, IntKind.bits, IntKind.signed]; simp; omega
theorem wu (n : Int) : IntKind.u64.wrap n = n % 18446744073709551616 := by
  simp [IntKind.wrap, IntKind.bits, IntKind.signed]
theorem wraps_u64 (n : Int) (h0 : 0 ≤ n) (h1 : n < 2 ^ 64) : IntKind.u64.wrap n = n := by rw [wu]; omega
theorem and32 (x : Int) (h0 : 0 ≤ x) (h1 : x < 18446744073709551616) : Go.bits .and .u64 x 4294967295 = x % 4294967296 :=
  bits_mask .u64 64 (by decide) wraps_u64 32 (by decide) x h0 h1
theorem or_join (i : Nat) (x y : Int) (h0 : 0 ≤ x) (h1 : x % 2 ^ i = 0) (h2 : x < 18446744073709551616) (h3 : 0 ≤ y) (h4 : y < 2 ^ i) (h5 : y < 18446744073709551616) : Go.bits .or .u64 x y = x + y :=
  bits_join .u64 64 (by decide) wraps_u64 i x y h0 h1 h2 h3 h4 h5
theorem shl_u (x y : Int) (h0 : 0 ≤ y) (h1 : y ≤ 64) : shl .u64 x y = (x * 2 ^ y.toNat) % 18446744073709551616 := by
  unfold shl; rw [wu, show min y.toNat (IntKind.bits .u64) = y.toNat from Nat.min_eq_left (by simp [IntKind.bits]; omega)]
theorem shr_u (x y : Int) (h0 : 0 ≤ y) (h1 : y ≤ 64) : shr .u64 x y = x / 2 ^ y.toNat := by
  unfold shr; rw [show min y.toNat (IntKind.bits .u64) = y.toNat from Nat.min_eq_left (by simp [IntKind.bits]; omega)]
theorem awake_k {k : Nat} (hk : 100 ≤ k) : terracelaw01_awake.f k = some true :=
  at_rounds (g := fun k => terracelaw01_awake.f k) (fun k => terracelaw01_awake.mono k) hk (by decide +kernel)
theorem half_f (a k : Int) : fix_F_Half.f a k = some (a / 2 ^ (min k.toNat 64)) := by
  unfold fix_F_Half.f shr mx IntKind.bits
  simp only
  split
  · rw [show k.toNat = 0 from by omega]; simp
  · rfl
theorem loop (x kk : Int) (hx : 0 ≤ x ∧ x ≤ 18446744073709551615) (hk : kk ≤ 9223372036854775807) (d : Nat) : ∀ (k i : Nat) (y : Int), y = x / 2 ^ i → (i : Int) ≤ max kk 0 → i + d = 64 → d + 110 < k → terracelaw01_FixParts.l0 k x kk y i = some true := by
  have small : x < 2 ^ 64 := by
    have e : (2 : Int) ^ 64 = 18446744073709551616 := by decide
    omega
  induction d with
  | zero =>
    intro k i y hy hi hd hkk
    obtain ⟨k, rfl, hkk⟩ := fuel hkk
    have hi64 : i = 64 := by omega
    have hy0 : y = 0 := by rw [hy, hi64]; exact Int.ediv_eq_zero_of_lt hx.1 small
    have hh : x / 2 ^ (min kk.toNat 64) = y := by rw [Nat.min_eq_right (by omega), hy, hi64]
    simp only [terracelaw01_FixParts.l0]
    rw [half_f, awake_k (by omega), hh]
    simp [hy0]
  | succ d ih =>
    intro k i y hy hi hd hkk
    obtain ⟨k, rfl, hkk⟩ := fuel hkk
    have hy0 : 0 ≤ y := by rw [hy]; exact Int.ediv_nonneg hx.1 (Int.pow_nonneg (by omega))
    have hyx : y ≤ x := by rw [hy]; exact Int.ediv_le_self _ hx.1
    simp only [terracelaw01_FixParts.l0]
    rw [half_f, awake_k (by omega)]
    by_cases h1 : (i : Int) < kk
    · rw [if_pos h1]
      by_cases h2 : y > 0
      · rw [if_pos h2, Int.tdiv_eq_ediv_of_nonneg hy0, wu, w64 (by omega) (by omega)]
        rw [show y / 2 % 18446744073709551616 = y / 2 from by omega]
        have := ih k (i + 1) (y / 2) (by rw [hy, Int.ediv_ediv_of_nonneg (Int.pow_nonneg (by omega)), Int.pow_succ]) (by omega) (by omega) (by omega)
        exact this
      · rw [if_neg h2]
        have h0 : y = 0 := by omega
        have : x / 2 ^ (min kk.toNat 64) = y := by
          rw [hy] at h0
          rw [hy, h0]
          obtain ⟨j, hj⟩ : ∃ j, min kk.toNat 64 = i + j := ⟨min kk.toNat 64 - i, by omega⟩
          rw [hj, Int.pow_add, ← Int.ediv_ediv_of_nonneg (Int.pow_nonneg (by omega)), h0]; simp
        simp only [Option.bind_some]
        rw [if_pos this]
    · rw [if_neg h1]
      have : x / 2 ^ (min kk.toNat 64) = y := by
        rw [hy, show min kk.toNat 64 = i from by omega]
      simp only [Option.bind_some]
      rw [if_pos this]
theorem FixParts : terracelaw01_FixParts.Pure := by
  intro a n kk ha hn hkk
  have ha := wf_u64 ha
  have hn := wf_u32 hn
  have hkk := wf_i64 hkk
  obtain ⟨k, hk⟩ : ∃ k, 500 < k := ⟨501, by omega⟩
  refine ⟨k, ?_⟩
  unfold terracelaw01_FixParts.f fix_F_Whole.f fix_Of.f
  simp only [Option.bind_some]
  rw [Int.tdiv_eq_ediv_of_nonneg ha.1, wu, wu, wu]
  rw [if_pos (by omega), if_pos trivial]
  have : n % 18446744073709551616 * 4294967296 % 18446744073709551616 / 4294967296 % 4294967296 = n := by omega
  rw [this]
  obtain ⟨k, rfl, hk⟩ := fuel hk
  simp only [terracelaw01_FixParts.j0]
  rw [if_neg (by simp)]
  exact loop a kk ha hkk.2 64 k 0 a (by simp) (by omega) (by omega) (by omega)

end Go.Proofs.Ytibihicmhakacaa.Pure
