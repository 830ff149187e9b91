-- Written by ext.sh (the session's own program, over the kit's printer) out of the translation. Lean checks it.
import Derived.Test.YtcompobggmdofaaPLogsOncex0
namespace Go.Proofs.Ytcompobggmdofaa.PLogsOnce
open Go.RowKit Go.Proofs.YtcompobggmdofaaW.PrintWords Go.Proofs.YtcompobggmdofaaW.PrintLast Go.Proofs.YtcompobggmdofaaW.PrintMore
attribute [local go_sem] max2_int min2_int max_two min_two max_three min_three max_four min_four   -- for this text's walks alone
set_option linter.unusedVariables false
set_option linter.unusedSimpArgs false

def arrFields (e : TypeId) (n : Nat) (l : List Nat) : List Field := l.map fun i => { name := "x", type := e, offset := i * n, embedded := false, tag := "", pkgPath := "", byteOffset := 0 }
theorem eqA_arr {P : Program} {d : Nat} {xs ys : Array Value} {t e : TypeId} {n len : Nat} {fs : List Field} {r : Bool} {w : World} (hu : P.underlying t = some (.array len e)) (hs : (sizeOf e).run P w = .ok n w) (hf : arrFields e n (List.range' 0 len) = fs) (h : (Op.eqFields d xs ys fs).run P w = .ok r w) : (Op.equalIn (d + 1) t (.agg xs) (.agg ys)).run P w = .ok r w := by
  simp only [Op.equalIn, Sem.run_bind, run_underlying hu, Result.andThen_ok, hs, Std.Legacy.Range.forIn_eq_forIn_range', Std.Legacy.Range.size, Nat.sub_zero, Nat.add_one_sub_one, Nat.div_one]
  rw [← h, ← hf]
  clear h hf hu
  generalize List.range' 0 len = fs
  clear hs
  induction fs generalizing w with
  | nil => simp [Op.eqFields, arrFields]
  | cons f fs ih =>
    have hx : ("x" : String) ≠ "_" := by decide
    simp only [List.forIn_cons, Op.eqFields, arrFields, List.map_cons, Sem.run_bind, if_pos hx]
    generalize (part e xs (f * n)).run P w = r1
    cases r1 with
    | ok a w1 =>
      simp only [Result.andThen_ok]
      generalize (part e ys (f * n)).run P w1 = r2
      cases r2 with
      | ok b w2 =>
        simp only [Result.andThen_ok]
        generalize (Op.equalIn d e a b).run P w2 = r3
        cases r3 with
        | ok r w3 =>
          cases r
          · simp only [Result.andThen_ok, Bool.not_false, if_true, Sem.run_pure]
          · simp only [Result.andThen_ok, Bool.not_true, Bool.false_eq_true, if_false, Sem.run_pure]
            exact ih
        | halt x w3 => simp [Result.andThen]
      | halt x w2 => simp [Result.andThen]
    | halt x w1 => simp [Result.andThen]
theorem eqA33 (d : Nat) (w : World) (x0 y0 : Int) (x1 y1 : Int) (x2 y2 : Int) (x3 y3 : Int) (x4 y4 : Int) (x5 y5 : Int) (x6 y6 : Int) (x7 y7 : Int) (x8 y8 : Int) (x9 y9 : Int) (x10 y10 : Int) (x11 y11 : Int) (x12 y12 : Int) (x13 y13 : Int) (x14 y14 : Int) (x15 y15 : Int) (x16 y16 : Int) :
    (Op.equalIn (d + 2) 33 (.agg #[.int .i64 x0, .int .i64 x1, .int .i64 x2, .int .i64 x3, .int .i64 x4, .int .i64 x5, .int .i64 x6, .int .i64 x7, .int .i64 x8, .int .i64 x9, .int .i64 x10, .int .i64 x11, .int .i64 x12, .int .i64 x13, .int .i64 x14, .int .i64 x15, .int .i64 x16]) (.agg #[.int .i64 y0, .int .i64 y1, .int .i64 y2, .int .i64 y3, .int .i64 y4, .int .i64 y5, .int .i64 y6, .int .i64 y7, .int .i64 y8, .int .i64 y9, .int .i64 y10, .int .i64 y11, .int .i64 y12, .int .i64 y13, .int .i64 y14, .int .i64 y15, .int .i64 y16])).run Try.prog w = .ok (x0 == y0 && (x1 == y1 && (x2 == y2 && (x3 == y3 && (x4 == y4 && (x5 == y5 && (x6 == y6 && (x7 == y7 && (x8 == y8 && (x9 == y9 && (x10 == y10 && (x11 == y11 && (x12 == y12 && (x13 == y13 && (x14 == y14 && (x15 == y15 && (x16 == y16))))))))))))))))) w := by
  refine eqA_arr Try.underlying33 (n := 1) (by rfl) (fs := [⟨"x", 3, 0, false, "", "", 0⟩, ⟨"x", 3, 1, false, "", "", 0⟩, ⟨"x", 3, 2, false, "", "", 0⟩, ⟨"x", 3, 3, false, "", "", 0⟩, ⟨"x", 3, 4, false, "", "", 0⟩, ⟨"x", 3, 5, false, "", "", 0⟩, ⟨"x", 3, 6, false, "", "", 0⟩, ⟨"x", 3, 7, false, "", "", 0⟩, ⟨"x", 3, 8, false, "", "", 0⟩, ⟨"x", 3, 9, false, "", "", 0⟩, ⟨"x", 3, 10, false, "", "", 0⟩, ⟨"x", 3, 11, false, "", "", 0⟩, ⟨"x", 3, 12, false, "", "", 0⟩, ⟨"x", 3, 13, false, "", "", 0⟩, ⟨"x", 3, 14, false, "", "", 0⟩, ⟨"x", 3, 15, false, "", "", 0⟩, ⟨"x", 3, 16, false, "", "", 0⟩]) (by rfl) ?_
  refine eqf_cons (by rfl) (by go_simp; rfl) (by go_simp; rfl) (by go_simp) ?_
  refine eqf_cons (by rfl) (by go_simp; rfl) (by go_simp; rfl) (by go_simp) ?_
  refine eqf_cons (by rfl) (by go_simp; rfl) (by go_simp; rfl) (by go_simp) ?_
  refine eqf_cons (by rfl) (by go_simp; rfl) (by go_simp; rfl) (by go_simp) ?_
  refine eqf_cons (by rfl) (by go_simp; rfl) (by go_simp; rfl) (by go_simp) ?_
  refine eqf_cons (by rfl) (by go_simp; rfl) (by go_simp; rfl) (by go_simp) ?_
  refine eqf_cons (by rfl) (by go_simp; rfl) (by go_simp; rfl) (by go_simp) ?_
  refine eqf_cons (by rfl) (by go_simp; rfl) (by go_simp; rfl) (by go_simp) ?_
  refine eqf_cons (by rfl) (by go_simp; rfl) (by go_simp; rfl) (by go_simp) ?_
  refine eqf_cons (by rfl) (by go_simp; rfl) (by go_simp; rfl) (by go_simp) ?_
  refine eqf_cons (by rfl) (by go_simp; rfl) (by go_simp; rfl) (by go_simp) ?_
  refine eqf_cons (by rfl) (by go_simp; rfl) (by go_simp; rfl) (by go_simp) ?_
  refine eqf_cons (by rfl) (by go_simp; rfl) (by go_simp; rfl) (by go_simp) ?_
  refine eqf_cons (by rfl) (by go_simp; rfl) (by go_simp; rfl) (by go_simp) ?_
  refine eqf_cons (by rfl) (by go_simp; rfl) (by go_simp; rfl) (by go_simp) ?_
  refine eqf_cons (by rfl) (by go_simp; rfl) (by go_simp; rfl) (by go_simp) ?_
  exact eqf_last (by rfl) (by go_simp; rfl) (by go_simp; rfl) (by go_simp)
end Go.Proofs.Ytcompobggmdofaa.PLogsOnce
