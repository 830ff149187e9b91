-- Written by ext.sh (the session's own program, over the kit's printer) out of the translation. Lean checks it.
import Derived.Test.YtejminfpgnlpkaaRows
import Derived.Test.YtejminfpgnlpkaaPSuppressTwox5
import Derived.Test.YtejminfpgnlpkaaPureSuppressTwo
import Derived.Test.YtejminfpgnlpkaaRd
import Derived.WalkKit
import Derived.ProofKit
import Derived.OpenShut
import Derived.ShutString
import Derived.ChangeOld
import Derived.Below
import Derived.SizedLaws
namespace Go.Proofs.Ytejminfpgnlpkaa.suppressTwo
open Go.ChangeShapes Go.WideShapes Go.ChangeAt Go.RowKit Go.Proofs.Ytejminfpgnlpkaa.PSuppressTwo Go.Proofs.YtejminfpgnlpkaaW.PrintWords Go.Proofs.YtejminfpgnlpkaaW.PrintLast
open Go.ChangeMaps (open_string shut_string)
set_option linter.unusedVariables false
set_option linter.unusedSimpArgs false
theorem own : ownKnob Try.prog.godebug = none := by kernel_rfl
theorem laidOut : laidOutB Try.prog = true := by kernel_rfl
set_option maxRecDepth 100000 in
theorem lifted (os : Os) (started : os.Started) (H : Type) (enc : TypeId × Value → H) :
    ReturnsInHanded {} Try.checked os 5 .any (Rows.suppressTwoSpec.pre6 enc Try.prog Try.f5 Rows.suppressTwoRow.domain false) (Rows.suppressTwoSpec.post enc Try.prog Try.f5 false true false false) := by
  refine returnsInHanded_of_change_sized (C := Try.checked) own started (by kernel_rfl) Try.func5
    (ChangeSpec.witness6 (enc := enc) (C := Try.checked) false ⟨#[], #[.agg #[.int .u64 0, .int .u64 0, .int .u64 0, .int .u64 0, .int .i64 0, .int .i64 0]], []⟩ 8 (by kernel_rfl) (by kernel_rfl) (by kernel_rfl) (by kernel_rfl)) ?_
  intro W base args ds gs before hval0 hW hcnd hsz0 _
  have hval : ∀ (j : Nat) t v, Try.f5.params[j]? = some t → args[j]? = some v → Value.okWide Try.prog W .any base t v := hval0
  have hW' := hW
  obtain ⟨p, q, hA0, hV, rfl, hfz, hnd⟩ := hW
  have hA : DataW.TrodAll enc Try.prog W 0 (fun _ => true) true Try.f5.params.toList args.toList ds p := hA0
  rw [Try.params5] at hA hval
  obtain ⟨v0, vs0, d0, ds0, p0, q0, hargs, rfl, rfl, h0, r0⟩ := trodAll_cons hA
  obtain ⟨rfl, rfl, rfl⟩ := trodAll_nil r0
  obtain rfl : args = #[v0] := by cases args; simp_all
  obtain ⟨rfl, rfl⟩ := trodVars_none hV
  have k0 := h0
  have lt0 : ∀ x ∈ p0, x.block < W.heap.size := by obtain ⟨m, hm⟩ := k0; exact DataW.trod_lt m _ _ _ hm
  obtain ⟨cs0, rfl, hz0⟩ := okWide_struct Try.underlying34 (hval 0 34 v0 rfl rfl)
  obtain ⟨m0, hm0⟩ := h0
  have hz0' : cs0.toList.length = 6 := by rw [Array.length_toList]; exact hz0.trans (by kernel_rfl)
  have hm0' : DataW.trod enc Try.prog W 0 (fun _ => true) true m0 34 cs0.toList = some (d0, p0) := hm0
  obtain ⟨c0_0, c0_1, c0_2, c0_3, c0_4, c0_5, e0⟩ : ∃ c0_0 c0_1 c0_2 c0_3 c0_4 c0_5, cs0.toList = [c0_0, c0_1, c0_2, c0_3, c0_4, c0_5] := by
    match cs0.toList, hz0' with
    | [c0_0, c0_1, c0_2, c0_3, c0_4, c0_5], _ => exact ⟨c0_0, c0_1, c0_2, c0_3, c0_4, c0_5, rfl⟩
  obtain rfl : cs0 = #[c0_0, c0_1, c0_2, c0_3, c0_4, c0_5] := by rw [← Array.toList_inj]; exact e0
  obtain ⟨xsa0, na0, _, _, _, hxla0, hfa0⟩ := DataW.trod_struct Try.underlying34 hm0'
  have hca0_0 : Try.prog.cellsOf 23 = 1 := by kernel_rfl
  have fa0_0 : DataW.trod enc Try.prog W 0 (fun _ => true) true na0 23 (List.take (Try.prog.cellsOf 23) (List.drop 0 [c0_0, c0_1, c0_2, c0_3, c0_4, c0_5])) = xsa0[0]? := hfa0 0 _ rfl
  obtain ⟨ya0_0, hya0_0⟩ : ∃ y, xsa0[0]? = some y := ⟨_, List.getElem?_eq_getElem (by rw [hxla0]; decide)⟩
  rw [hya0_0] at fa0_0
  simp only [hca0_0, List.drop_succ_cons, List.drop_zero, List.take_succ_cons, List.take_zero] at fa0_0
  obtain ⟨va0_0, kka0_0, oa0_0⟩ := (Rd.rds_int Try.underlying23) H enc W 0 (fun _ => true) true na0 _ _ fa0_0
  obtain rfl := (List.cons.inj (show [c0_0] = [.int .u64 va0_0] from kka0_0)).1
  have hca0_1 : Try.prog.cellsOf 23 = 1 := by kernel_rfl
  have fa0_1 : DataW.trod enc Try.prog W 0 (fun _ => true) true na0 23 (List.take (Try.prog.cellsOf 23) (List.drop 1 [(.int .u64 va0_0), c0_1, c0_2, c0_3, c0_4, c0_5])) = xsa0[1]? := hfa0 1 _ rfl
  obtain ⟨ya0_1, hya0_1⟩ : ∃ y, xsa0[1]? = some y := ⟨_, List.getElem?_eq_getElem (by rw [hxla0]; decide)⟩
  rw [hya0_1] at fa0_1
  simp only [hca0_1, List.drop_succ_cons, List.drop_zero, List.take_succ_cons, List.take_zero] at fa0_1
  obtain ⟨va0_1, kka0_1, oa0_1⟩ := (Rd.rds_int Try.underlying23) H enc W 0 (fun _ => true) true na0 _ _ fa0_1
  obtain rfl := (List.cons.inj (show [c0_1] = [.int .u64 va0_1] from kka0_1)).1
  have hca0_2 : Try.prog.cellsOf 23 = 1 := by kernel_rfl
  have fa0_2 : DataW.trod enc Try.prog W 0 (fun _ => true) true na0 23 (List.take (Try.prog.cellsOf 23) (List.drop 2 [(.int .u64 va0_0), (.int .u64 va0_1), c0_2, c0_3, c0_4, c0_5])) = xsa0[2]? := hfa0 2 _ rfl
  obtain ⟨ya0_2, hya0_2⟩ : ∃ y, xsa0[2]? = some y := ⟨_, List.getElem?_eq_getElem (by rw [hxla0]; decide)⟩
  rw [hya0_2] at fa0_2
  simp only [hca0_2, List.drop_succ_cons, List.drop_zero, List.take_succ_cons, List.take_zero] at fa0_2
  obtain ⟨va0_2, kka0_2, oa0_2⟩ := (Rd.rds_int Try.underlying23) H enc W 0 (fun _ => true) true na0 _ _ fa0_2
  obtain rfl := (List.cons.inj (show [c0_2] = [.int .u64 va0_2] from kka0_2)).1
  have hca0_3 : Try.prog.cellsOf 23 = 1 := by kernel_rfl
  have fa0_3 : DataW.trod enc Try.prog W 0 (fun _ => true) true na0 23 (List.take (Try.prog.cellsOf 23) (List.drop 3 [(.int .u64 va0_0), (.int .u64 va0_1), (.int .u64 va0_2), c0_3, c0_4, c0_5])) = xsa0[3]? := hfa0 3 _ rfl
  obtain ⟨ya0_3, hya0_3⟩ : ∃ y, xsa0[3]? = some y := ⟨_, List.getElem?_eq_getElem (by rw [hxla0]; decide)⟩
  rw [hya0_3] at fa0_3
  simp only [hca0_3, List.drop_succ_cons, List.drop_zero, List.take_succ_cons, List.take_zero] at fa0_3
  obtain ⟨va0_3, kka0_3, oa0_3⟩ := (Rd.rds_int Try.underlying23) H enc W 0 (fun _ => true) true na0 _ _ fa0_3
  obtain rfl := (List.cons.inj (show [c0_3] = [.int .u64 va0_3] from kka0_3)).1
  have hca0_4 : Try.prog.cellsOf 3 = 1 := by kernel_rfl
  have fa0_4 : DataW.trod enc Try.prog W 0 (fun _ => true) true na0 3 (List.take (Try.prog.cellsOf 3) (List.drop 4 [(.int .u64 va0_0), (.int .u64 va0_1), (.int .u64 va0_2), (.int .u64 va0_3), c0_4, c0_5])) = xsa0[4]? := hfa0 4 _ rfl
  obtain ⟨ya0_4, hya0_4⟩ : ∃ y, xsa0[4]? = some y := ⟨_, List.getElem?_eq_getElem (by rw [hxla0]; decide)⟩
  rw [hya0_4] at fa0_4
  simp only [hca0_4, List.drop_succ_cons, List.drop_zero, List.take_succ_cons, List.take_zero] at fa0_4
  obtain ⟨va0_4, kka0_4, oa0_4⟩ := (Rd.rds_int Try.underlying3) H enc W 0 (fun _ => true) true na0 _ _ fa0_4
  obtain rfl := (List.cons.inj (show [c0_4] = [.int .i64 va0_4] from kka0_4)).1
  have hca0_5 : Try.prog.cellsOf 3 = 1 := by kernel_rfl
  have fa0_5 : DataW.trod enc Try.prog W 0 (fun _ => true) true na0 3 (List.take (Try.prog.cellsOf 3) (List.drop 5 [(.int .u64 va0_0), (.int .u64 va0_1), (.int .u64 va0_2), (.int .u64 va0_3), (.int .i64 va0_4), c0_5])) = xsa0[5]? := hfa0 5 _ rfl
  obtain ⟨ya0_5, hya0_5⟩ : ∃ y, xsa0[5]? = some y := ⟨_, List.getElem?_eq_getElem (by rw [hxla0]; decide)⟩
  rw [hya0_5] at fa0_5
  simp only [hca0_5, List.drop_succ_cons, List.drop_zero, List.take_succ_cons, List.take_zero] at fa0_5
  obtain ⟨va0_5, kka0_5, oa0_5⟩ := (Rd.rds_int Try.underlying3) H enc W 0 (fun _ => true) true na0 _ _ fa0_5
  obtain rfl := (List.cons.inj (show [c0_5] = [.int .i64 va0_5] from kka0_5)).1
  clear hA0 hval0 hsz0
  obtain ⟨k, hp⟩ := Pure.SuppressTwo va0_0 va0_1 va0_2 va0_3 va0_4 va0_5 oa0_0 oa0_1 oa0_2 oa0_3 oa0_4 oa0_5
  refine (terracelaw17_SuppressTwo.calls k va0_0 va0_1 va0_2 va0_3 va0_4 va0_5 true W  hp).mono fun e W' ⟨he, bel0⟩ => ?_
  have bel : Below W.heap.size W W' := bel0
  subst he
  exact ⟨_, rfl, _, _, _, [], _, [], hW', trodAll_mk1 (shut_bool Try.underlying4 _), (trodAll_cons_mk (Below.trod laidOut (by kernel_rfl) (of_decide_eq_true (by kernel_rfl)) k0 bel lt0) trodAll_mk0), rfl, bel.frame _, fun h => by cases h⟩
theorem over : Rows.suppressTwoRow.holds Try.pinned (OpenSpec.ofChange Rows.suppressTwoSpec) :=
  OpenClaim.holds_of_wide 5 Try.f5 rfl rfl rfl rfl rfl rfl rfl ⟨rfl, rfl, rfl, rfl, rfl⟩ rfl rfl rfl rfl rfl (by kernel_rfl) Try.func5 (by kernel_rfl)
    (of_decide_eq_true (by kernel_rfl)) (by unfold Func.isWrapper; first | (rw [if_pos (by decide +kernel)]; kernel_rfl) | (rw [if_neg (by decide +kernel)]; exact ⟨rfl, rfl⟩))
    (fun os started H enc _ => lifted os started H enc)
theorem proved : Rows.SuppressTwoSaid := over
#print axioms proved
end Go.Proofs.Ytejminfpgnlpkaa.suppressTwo
namespace Go.Proofs.Ytejminfpgnlpkaa
/-- The row, under a short name, for the claim. -/
theorem suppressTwo_holds : Rows.SuppressTwoSaid := suppressTwo.proved
end Go.Proofs.Ytejminfpgnlpkaa
