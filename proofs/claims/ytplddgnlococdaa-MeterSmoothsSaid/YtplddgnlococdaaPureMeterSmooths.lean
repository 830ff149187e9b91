/- Proved: what is smoothed lies between both numbers, but for what is rounded; of one number it is that, or a little less (for every input that the statement's guards let in; the Go function returns true and leaves its arguments as they were). -/
import Derived.Test.YtplddgnlococdaaPMeterSmoothsx5
set_option linter.unusedVariables false
set_option linter.unusedSimpArgs false
namespace Go.Proofs.Ytplddgnlococdaa.Pure
open Go.RowKit Go.Proofs.Ytplddgnlococdaa.PMeterSmooths Go.Proofs.YtplddgnlococdaaW.PrintWords Go.Proofs.YtplddgnlococdaaW.PrintLast Go.Proofs.YtplddgnlococdaaW.PrintMore

theorem wf_u8 {a : Int} (h : (Lit.int .u8 a).wf = true) : 0 ≤ a ∧ a ≤ 255 := by
  simpa [Lit.wf, IntKind.min, IntKind.max, IntKind.signed, IntKind.bits] using h
theorem wf_u16 {a : Int} (h : (Lit.int .u16 a).wf = true) : 0 ≤ a ∧ a ≤ 65535 := by
  simpa [Lit.wf, IntKind.min, IntKind.max, IntKind.signed, IntKind.bits] using h
theorem wf_u32 {a : Int} (h : (Lit.int .u32 a).wf = true) : 0 ≤ a ∧ a ≤ 4294967295 := by
  simpa [Lit.wf, IntKind.min, IntKind.max, IntKind.signed, IntKind.bits] using h
theorem wf_u64 {a : Int} (h : (Lit.int .u64 a).wf = true) : 0 ≤ a ∧ a ≤ 18446744073709551615 := by
  simpa [Lit.wf, IntKind.min, IntKind.max, IntKind.signed, IntKind.bits] using h
theorem wf_i64 {a : Int} (h : (Lit.int .i64 a).wf = true) : -9223372036854775808 ≤ a ∧ a ≤ 9223372036854775807 := by
  simpa [Lit.wf, IntKind.min, IntKind.max, IntKind.signed, IntKind.bits] using h
theorem w64 {n : Int} (h : -9223372036854775808 ≤ n) (h' : n ≤ 9223372036854775807) : wrap64 n = n := by
  unfold wrap64; omega
theorem fuel {k n : Nat} (h : n < k) : ∃ m, k = m + 1 ∧ n ≤ m := ⟨k - 1, by omega, by omega⟩
theorem u64 {n : Int} (h : 0 ≤ n) (h' : n ≤ 18446744073709551615) : IntKind.u64.wrap n = n := by
  simp only [IntKind.wrap, IntKind.bits, IntKind.signed]; simp; omega
theorem wu (n : Int) : IntKind.u64.wrap n = n % 18446744073709551616 := by
  simp [IntKind.wrap, IntKind.bits, IntKind.signed]
theorem wraps_u64 (n : Int) (h0 : 0 ≤ n) (h1 : n < 2 ^ 64) : IntKind.u64.wrap n = n := by rw [wu]; omega
theorem and32 (x : Int) (h0 : 0 ≤ x) (h1 : x < 18446744073709551616) : Go.bits .and .u64 x 4294967295 = x % 4294967296 :=
  bits_mask .u64 64 (by decide) wraps_u64 32 (by decide) x h0 h1
theorem or_join (i : Nat) (x y : Int) (h0 : 0 ≤ x) (h1 : x % 2 ^ i = 0) (h2 : x < 18446744073709551616) (h3 : 0 ≤ y) (h4 : y < 2 ^ i) (h5 : y < 18446744073709551616) : Go.bits .or .u64 x y = x + y :=
  bits_join .u64 64 (by decide) wraps_u64 i x y h0 h1 h2 h3 h4 h5
theorem shl_u (x y : Int) (h0 : 0 ≤ y) (h1 : y ≤ 64) : shl .u64 x y = (x * 2 ^ y.toNat) % 18446744073709551616 := by
  unfold shl; rw [wu, show min y.toNat (IntKind.bits .u64) = y.toNat from Nat.min_eq_left (by simp [IntKind.bits]; omega)]
theorem shr_u (x y : Int) (h0 : 0 ≤ y) (h1 : y ≤ 64) : shr .u64 x y = x / 2 ^ y.toNat := by
  unfold shr; rw [show min y.toNat (IntKind.bits .u64) = y.toNat from Nat.min_eq_left (by simp [IntKind.bits]; omega)]
/-- one call behind another (no unfolding: the kernel need not look into what is called) -/
theorem bs {α β : Type} {x : Option α} {f : α → Option β} {a : α} {r : Option β} (h : x = some a) (h2 : f a = r) : x.bind f = r := by
  subst h; exact h2
def addv (a b : Int) : Int := if a + b > 18446744073709551615 then 18446744073709551615 else a + b
theorem add_f (a b : Int) (ha : 0 ≤ a ∧ a ≤ 18446744073709551615) (hb : 0 ≤ b ∧ b ≤ 18446744073709551615) : fix_F_Add.f a b = some (addv a b) := by
  unfold fix_F_Add.f addv addC addS
  by_cases h : a + b > 18446744073709551615
  · rw [if_neg (by omega), if_pos h]
  · rw [if_pos (by omega), if_neg h]; congr 1; omega
theorem addv_range (a b : Int) (ha : 0 ≤ a ∧ a ≤ 18446744073709551615) (hb : 0 ≤ b ∧ b ≤ 18446744073709551615) : 0 ≤ addv a b ∧ addv a b ≤ 18446744073709551615 := by
  unfold addv; split <;> omega
theorem awake04_k {k : Nat} (hk : 1000 ≤ k) : terracelaw04_awake.f k = some true :=
  at_rounds (g := fun k => terracelaw04_awake.f k) (fun k => terracelaw04_awake.mono k) hk (by decide +kernel)
theorem part_le (P a b : Int) (hP : 1 ≤ P) (h : b ≤ a) : b / P ≤ a / P ∧ a / P ≤ b / P + (a - b) := by
  refine ⟨Int.ediv_le_ediv (by omega) h, ?_⟩
  have h1 : a ≤ b + (a - b) * P := by
    have := Int.mul_le_mul_of_nonneg_left hP (show 0 ≤ a - b by omega)
    rw [Int.mul_one] at this; omega
  have h2 := Int.ediv_le_ediv (show 0 < P by omega) h1
  rwa [Int.add_mul_ediv_right _ _ (by omega)] at h2
theorem half_f (a k : Int) (h : 1 ≤ k) : fix_F_Half.f a k = some (shr .u64 a k) := by
  unfold fix_F_Half.f
  rw [show mx k 0 = k by unfold mx; split <;> omega]
/-- what is halved so often -/
theorem shr_part (a k : Int) (ha : 0 ≤ a ∧ a ≤ 18446744073709551615) (hk : 1 ≤ k) : 0 ≤ shr .u64 a k ∧ shr .u64 a k ≤ a ∧ (64 ≤ k → shr .u64 a k = 0) := by
  unfold shr
  have hm : min k.toNat (IntKind.bits .u64) = min k.toNat 64 := rfl
  rw [hm]
  refine ⟨Int.ediv_nonneg ha.1 (Int.le_of_lt (Int.pow_pos (by omega))), Int.ediv_le_self _ ha.1, fun h => ?_⟩
  rw [Nat.min_eq_right (by omega)]
  exact Int.ediv_eq_zero_of_lt ha.1 (by have : (2 : Int) ^ 64 = 18446744073709551616 := by decide
                                        omega)
theorem smooth_f (a b k : Int) (ha : 0 ≤ a ∧ a ≤ 18446744073709551615) (hb : 0 ≤ b ∧ b ≤ 18446744073709551615) (hk : 1 ≤ k) :
    meter_Smooth.f a b k = some (a - shr .u64 a k + shr .u64 b k) ∧ mn a b ≤ a - shr .u64 a k + shr .u64 b k ∧ a - shr .u64 a k + shr .u64 b k ≤ mx a b := by
  obtain ⟨a1, a2, _⟩ := shr_part a k ha hk
  obtain ⟨b1, b2, _⟩ := shr_part b k hb hk
  have hr : mn a b ≤ a - shr .u64 a k + shr .u64 b k ∧ a - shr .u64 a k + shr .u64 b k ≤ mx a b := by
    unfold shr mn mx
    have hP : 1 ≤ (2 : Int) ^ min k.toNat (IntKind.bits .u64) := Int.add_one_le_of_lt (Int.pow_pos (by omega))
    generalize (2 : Int) ^ min k.toNat (IntKind.bits .u64) = P at *
    by_cases h : b ≤ a
    · have := part_le P a b hP h
      split <;> split <;> omega
    · have := part_le P b a hP (by omega)
      split <;> split <;> omega
  refine ⟨?_, hr⟩
  have hm : mx a b ≤ 18446744073709551615 := by unfold mx; split <;> omega
  have hn : 0 ≤ mn a b := by unfold mn; split <;> omega
  unfold meter_Smooth.f
  rw [if_neg (by omega)]
  refine bs (half_f a k hk) ?_
  have e : fix_F_Sub.f a (shr .u64 a k) = some (a - shr .u64 a k) := by
    unfold fix_F_Sub.f; rw [if_neg (by omega), u64 (by omega) (by omega)]
  refine bs e (bs (half_f b k hk) ?_)
  refine bs (add_f _ _ (by omega) (by omega)) ?_
  unfold addv
  rw [if_neg (by omega)]
theorem MeterSmooths : terracelaw04_MeterSmooths.Pure := by
  intro a b k h0 h1 h2
  have ra := wf_u64 h0
  have rb := wf_u64 h1
  refine ⟨1000, ?_⟩
  unfold terracelaw04_MeterSmooths.f
  by_cases c1 : k < 1
  · have e : meter_Smooth.f a b k = some b := by unfold meter_Smooth.f; rw [if_pos c1]
    refine bs e ?_
    rw [if_pos c1, if_pos rfl]
    exact bs (awake04_k (by omega)) rfl
  obtain ⟨e, l1, l2⟩ := smooth_f a b k ra rb (by omega)
  obtain ⟨e2, m1, m2⟩ := smooth_f a a k ra ra (by omega)
  obtain ⟨a1, a2, a3⟩ := shr_part a k ra (by omega)
  obtain ⟨b1, b2, b3⟩ := shr_part b k rb (by omega)
  have hn : 0 ≤ mn a b := by unfold mn; split <;> omega
  have hx : mx a b ≤ 18446744073709551615 := by unfold mx; split <;> omega
  refine bs e ?_
  rw [if_neg c1]
  by_cases c2 : k ≥ 64
  · rw [if_pos c2, if_pos (by rw [a3 c2, b3 c2]; omega)]
    exact bs (awake04_k (by omega)) rfl
  rw [if_neg c2]
  refine bs (add_f _ 1 (by omega) (by omega)) ?_
  rw [if_pos (by unfold addv; split <;> omega)]
  refine bs (add_f _ 1 (by omega) (by omega)) ?_
  rw [if_pos (by unfold addv; split <;> omega)]
  refine bs e2 ?_
  rw [if_pos (by omega), if_pos (by omega), u64 (n := a - shr .u64 a k) (by omega) (by omega), u64 (by omega) (by omega), if_pos rfl]
  exact bs (awake04_k (by omega)) rfl

end Go.Proofs.Ytplddgnlococdaa.Pure
