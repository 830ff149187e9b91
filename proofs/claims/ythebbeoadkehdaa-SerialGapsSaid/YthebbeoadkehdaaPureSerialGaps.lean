/- Proved: of any two numbers it is told how many steps lie between, and which one is ahead (for every input that the statement's guards let in; the Go function returns true and leaves its arguments as they were). -/
import Derived.Test.YthebbeoadkehdaaPSerialGapsx1
set_option linter.unusedVariables false
set_option linter.unusedSimpArgs false
namespace Go.Proofs.Ythebbeoadkehdaa.Pure
open Go.RowKit Go.Proofs.Ythebbeoadkehdaa.PSerialGaps Go.Proofs.YthebbeoadkehdaaW.PrintWords Go.Proofs.YthebbeoadkehdaaW.PrintLast Go.Proofs.YthebbeoadkehdaaW.PrintMore

theorem wf_u8 {a : Int} (h : (Lit.int .u8 a).wf = true) : 0 ≤ a ∧ a ≤ 255 := by
  simpa [Lit.wf, IntKind.min, IntKind.max, IntKind.signed, IntKind.bits] using h
theorem wf_u16 {a : Int} (h : (Lit.int .u16 a).wf = true) : 0 ≤ a ∧ a ≤ 65535 := by
  simpa [Lit.wf, IntKind.min, IntKind.max, IntKind.signed, IntKind.bits] using h
theorem wf_u32 {a : Int} (h : (Lit.int .u32 a).wf = true) : 0 ≤ a ∧ a ≤ 4294967295 := by
  simpa [Lit.wf, IntKind.min, IntKind.max, IntKind.signed, IntKind.bits] using h
theorem wf_u64 {a : Int} (h : (Lit.int .u64 a).wf = true) : 0 ≤ a ∧ a ≤ 18446744073709551615 := by
  simpa [Lit.wf, IntKind.min, IntKind.max, IntKind.signed, IntKind.bits] using h
theorem wf_i64 {a : Int} (h : (Lit.int .i64 a).wf = true) : -9223372036854775808 ≤ a ∧ a ≤ 9223372036854775807 := by
  simpa [Lit.wf, IntKind.min, IntKind.max, IntKind.signed, IntKind.bits] using h
theorem w64 {n : Int} (h : -9223372036854775808 ≤ n) (h' : n ≤ 9223372036854775807) : wrap64 n = n := by
  unfold wrap64; omega
theorem fuel {k n : Nat} (h : n < k) : ∃ m, k = m + 1 ∧ n ≤ m := ⟨k - 1, by omega, by omega⟩
def gap (a b : Int) : Int := if (b - a) % 4294967296 = 2147483648 then 0 else if (b - a) % 4294967296 < 2147483648 then (b - a) % 4294967296 else (b - a) % 4294967296 - 4294967296
theorem gap_f (a b : Int) : serial_Gap.f a b = some (gap a b) := by
  unfold serial_Gap.f gap
  split
  · rfl
  · congr 1; unfold wrap64 wrap32; split <;> omega
theorem ahead_f (a b : Int) : serial_Ahead.f a b = some (decide (gap a b > 0)) := by
  unfold serial_Ahead.f; rw [gap_f]; rfl
theorem awake_k {k : Nat} (hk : 20 ≤ k) : terracelaw05_awake.f k = some true :=
  at_rounds (g := fun k => terracelaw05_awake.f k) (fun k => terracelaw05_awake.mono k) hk (by decide +kernel)
/-- -/
theorem later_f (a b : Int) : serial_Later.f a b = some (if gap a b > 0 then b else a) := by
  unfold serial_Later.f; rw [ahead_f]
  by_cases h : gap a b > 0 <;> simp [h]
theorem refgap_f (a b : Int) (ha : 0 ≤ a ∧ a ≤ 4294967295) (hb : 0 ≤ b ∧ b ≤ 4294967295) : terraceref05_Gap.f a b = some (gap a b) := by
  have hs : terraceref05_Steps.f a b = some ((b - a) % 4294967296) := by
    unfold terraceref05_Steps.f
    rw [w64 (n := b) (by omega) (by omega), w64 (n := a) (by omega) (by omega), w64 (n := b - a) (by omega) (by omega)]
    split
    · rw [w64 (by omega) (by omega)]; congr 1; omega
    · congr 1; omega
  unfold terraceref05_Gap.f gap
  rw [hs]; simp only [Option.bind_some]
  by_cases h1 : (b - a) % 4294967296 = 2147483648
  · simp [h1]
  · rw [if_neg h1, if_neg h1]
    by_cases h2 : (b - a) % 4294967296 < 2147483648
    · rw [if_neg (by omega), if_pos h2]
    · rw [if_pos (by omega), if_neg h2, w64 (by omega) (by omega)]
theorem gap_range (a b : Int) : -2147483648 < gap a b ∧ gap a b < 2147483648 := by
  unfold gap; split
  · omega
  · split <;> omega
theorem gap_neg (a b : Int) : gap b a = - gap a b := by
  unfold gap
  by_cases h1 : (b - a) % 4294967296 = 2147483648
  · rw [if_pos h1, if_pos (by omega)]; rfl
  · rw [if_neg h1, if_neg (by omega)]
    by_cases h2 : (b - a) % 4294967296 < 2147483648
    · rw [if_pos h2]
      by_cases h3 : (b - a) % 4294967296 = 0
      · rw [if_pos (by omega)]; omega
      · rw [if_neg (by omega)]; omega
    · rw [if_neg h2, if_pos (by omega)]; omega
theorem SerialGaps : terracelaw05_SerialGaps.Pure := by
  intro a b ha hb
  have ha := wf_u32 ha
  have hb := wf_u32 hb
  refine ⟨21, ?_⟩
  have hr := gap_range a b
  have hj : ∀ l, l = (if gap a b > 0 then b else a) → terracelaw05_SerialGaps.j0 (20 + 1) a b (gap a b) l = some true := by
    intro l hl
    simp only [terracelaw05_SerialGaps.j0]
    rw [gap_f, gap_f, ahead_f, later_f, awake_k (by omega), gap_neg a b, w64 (by omega) (by omega)]
    simp [hl]
  unfold terracelaw05_SerialGaps.f
  rw [refgap_f a b ha hb]; simp only [Option.bind_some]
  by_cases h : gap a b > 0
  · rw [if_pos h]; exact hj _ (by rw [if_pos h])
  · rw [if_neg h]; exact hj _ (by rw [if_neg h])

end Go.Proofs.Ythebbeoadkehdaa.Pure
