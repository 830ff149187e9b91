/- Proved: so many steps on, and as many back, lead to the same number; up to half of the way round a gap tells how many they were (for every input that the statement's guards let in; the Go function returns true and leaves its arguments as they were). -/
import Derived.Test.YthebbeoadkehdaaPSerialNextx1
set_option linter.unusedVariables false
set_option linter.unusedSimpArgs false
namespace Go.Proofs.Ythebbeoadkehdaa.Pure
open Go.RowKit Go.Proofs.Ythebbeoadkehdaa.PSerialNext Go.Proofs.YthebbeoadkehdaaW.PrintWords Go.Proofs.YthebbeoadkehdaaW.PrintLast Go.Proofs.YthebbeoadkehdaaW.PrintMore

theorem wf_u8 {a : Int} (h : (Lit.int .u8 a).wf = true) : 0 ≤ a ∧ a ≤ 255 := by
  simpa [Lit.wf, IntKind.min, IntKind.max, IntKind.signed, IntKind.bits] using h
theorem wf_u16 {a : Int} (h : (Lit.int .u16 a).wf = true) : 0 ≤ a ∧ a ≤ 65535 := by
  simpa [Lit.wf, IntKind.min, IntKind.max, IntKind.signed, IntKind.bits] using h
theorem wf_u32 {a : Int} (h : (Lit.int .u32 a).wf = true) : 0 ≤ a ∧ a ≤ 4294967295 := by
  simpa [Lit.wf, IntKind.min, IntKind.max, IntKind.signed, IntKind.bits] using h
theorem wf_u64 {a : Int} (h : (Lit.int .u64 a).wf = true) : 0 ≤ a ∧ a ≤ 18446744073709551615 := by
  simpa [Lit.wf, IntKind.min, IntKind.max, IntKind.signed, IntKind.bits] using h
theorem wf_i64 {a : Int} (h : (Lit.int .i64 a).wf = true) : -9223372036854775808 ≤ a ∧ a ≤ 9223372036854775807 := by
  simpa [Lit.wf, IntKind.min, IntKind.max, IntKind.signed, IntKind.bits] using h
theorem w64 {n : Int} (h : -9223372036854775808 ≤ n) (h' : n ≤ 9223372036854775807) : wrap64 n = n := by
  unfold wrap64; omega
theorem fuel {k n : Nat} (h : n < k) : ∃ m, k = m + 1 ∧ n ≤ m := ⟨k - 1, by omega, by omega⟩
def gap (a b : Int) : Int := if (b - a) % 4294967296 = 2147483648 then 0 else if (b - a) % 4294967296 < 2147483648 then (b - a) % 4294967296 else (b - a) % 4294967296 - 4294967296
theorem gap_f (a b : Int) : serial_Gap.f a b = some (gap a b) := by
  unfold serial_Gap.f gap
  split
  · rfl
  · congr 1; unfold wrap64 wrap32; split <;> omega
theorem ahead_f (a b : Int) : serial_Ahead.f a b = some (decide (gap a b > 0)) := by
  unfold serial_Ahead.f; rw [gap_f]; rfl
theorem awake_k {k : Nat} (hk : 20 ≤ k) : terracelaw05_awake.f k = some true :=
  at_rounds (g := fun k => terracelaw05_awake.f k) (fun k => terracelaw05_awake.mono k) hk (by decide +kernel)
theorem SerialNext : terracelaw05_SerialNext.Pure := by
  intro a n ha hn
  have ha := wf_u32 ha
  have hn := wf_i64 hn
  refine ⟨21, ?_⟩
  unfold terracelaw05_SerialNext.f serial_Next.f
  simp only [Option.bind_some]
  rw [if_pos (by unfold wrap64; omega)]
  by_cases h : n ≤ -2147483648
  · rw [if_pos h]; simp only [terracelaw05_SerialNext.j0]; rw [awake_k (by omega)]; rfl
  · rw [if_neg h]
    by_cases h2 : n ≥ 2147483648
    · simp only [terracelaw05_SerialNext.j0]; rw [awake_k (by omega), gap_f]; simp [h2]
    · simp only [terracelaw05_SerialNext.j0]; rw [awake_k (by omega), gap_f]
      have : gap a ((a + n % 4294967296) % 4294967296) = n := by
        unfold gap
        have hd : ((a + n % 4294967296) % 4294967296 - a) % 4294967296 = n % 4294967296 := by omega
        rw [hd]
        split
        · omega
        · split <;> omega
      rw [show decide (n ≥ 2147483648) = false from by simpa using h2]; simp only [Option.bind_some, this, if_true]; rfl

end Go.Proofs.Ythebbeoadkehdaa.Pure
