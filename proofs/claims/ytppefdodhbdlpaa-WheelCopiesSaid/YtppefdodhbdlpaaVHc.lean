import Derived.Test.YtppefdodhbdlpaaVHa
import Derived.Test.YtppefdodhbdlpaaVHo
namespace Go.Proofs.Ytppefdodhbdlpaa.H
open Go.RowKit Go.Proofs.Ytppefdodhbdlpaa.PWheelFull Go.Proofs.YtppefdodhbdlpaaW.PrintWords
set_option linter.unusedVariables false
set_option linter.unusedSimpArgs false
def cmpI (a b : Int) : Int := if a < b then -1 else if a > b then 1 else 0
def ordI (a b : Int × Int) : Int := if cmpI a.2 b.2 = 0 then cmpI a.1 b.1 else cmpI a.2 b.2
theorem cmp_f (a b : Int) : cmp_Compare_int.f a b = some (cmpI a b) := by
  unfold cmp_Compare_int.f cmp_isNaN_int.f cmpI
  simp only [bne_self_eq_false, Option.bind_some, Bool.false_eq_true, if_false]
  split
  · rfl
  · split <;> rfl
theorem order_f (a b : Int × Int) : wheel_order.f 5 a.1 a.2 b.1 b.2 = some (ordI a b) := by
  unfold wheel_order.f
  rw [cmp_f, cmp_f]
  simp only [Option.bind_some]
  unfold ordI
  generalize cmpI a.2 b.2 = x
  generalize cmpI a.1 b.1 = y
  have w1 : wrap64 1 = 1 := by unfold wrap64; omega
  have w2 : wrap64 2 = 2 := by unfold wrap64; omega
  have e : cmp_Or_int.f 5 [x, y] = some (if x = 0 then y else x) := by
    by_cases hx : x = 0
    · subst hx
      by_cases hy : y = 0
      · subst hy; simp [cmp_Or_int.f, cmp_Or_int.l0, rd, w1, w2]
      · simp [cmp_Or_int.f, cmp_Or_int.l0, rd, w1, hy]
    · simp [cmp_Or_int.f, cmp_Or_int.l0, rd, hx]
  rw [e]; rfl
theorem order_c (a b : Int × Int) (w : World) : Calls Try.prog 32 #[.agg #[.int .i64 a.1, .int .i64 a.2], .agg #[.int .i64 b.1, .int .i64 b.2]] w fun e w' => e = .returned (.int .i64 (ordI a b)) ∧ Below w.heap.size w w' :=
  wheel_order.calls 5 _ _ _ _ _ w (order_f a b)
end Go.Proofs.Ytppefdodhbdlpaa.H
