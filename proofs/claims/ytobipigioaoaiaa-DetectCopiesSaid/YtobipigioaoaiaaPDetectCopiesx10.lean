-- Written by ext.sh (the session's own program, over the kit's printer) out of the translation. Lean checks it.
import Derived.Test.YtobipigioaoaiaaPDetectCopiesx0
import Derived.Test.YtobipigioaoaiaaPDetectCopiesx5
import Derived.Test.YtobipigioaoaiaaPDetectCopiesx9
namespace Go.Proofs.Ytobipigioaoaiaa.PDetectCopies
open Go.RowKit Go.Proofs.YtobipigioaoaiaaW.PrintWords Go.Proofs.YtobipigioaoaiaaW.PrintLast Go.Proofs.YtobipigioaoaiaaW.PrintMore
attribute [local go_sem] max2_int min2_int max_two min_two max_three min_three max_four min_four   -- for this text's walks alone
set_option linter.unusedVariables false
set_option linter.unusedSimpArgs false
theorem bpq10 {W V : World} {g : Nat} {o : Obj} (h : V.heap[g]? = some o) (e : V.heap[g]? = some o → W.heap[g]? = some o := by (intro h_; (with_reducible repeat (first | exact h_ | refine blk_drewN ?_ _ | refine blk_drew ?_ | refine blk_alloc ?_ _)); first | done | exact h_)) : W.heap[g]? = some o := e h
theorem bbq10 {n : Nat} {w W V : World} (h : Below n w V) (e : Below n w V → Below n w W := by (intro h_; (with_reducible repeat (first | exact h_ | apply below_alloc | apply pw_below_drewN | apply below_drew1 | refine below_set ?_ (Aside0.out (by assumption)))); first | done | exact h_)) : Below n w W := e h
theorem bc13q10 {w : World} {g : Nat} {t : TypeId} {v0 v1 v2 v3 v4 v5 v6 v7 v8 v9 v10 v11 v12 : Value} (h : w.heap[g]? = some (.cells #[v0, v1, v2, v3, v4, v5, v6, v7, v8, v9, v10, v11, v12] t (0, 0))) : w.cell? ⟨g, 0, none⟩ = some v0 ∧ w.cell? ⟨g, 1, none⟩ = some v1 ∧ w.cell? ⟨g, 2, none⟩ = some v2 ∧ w.cell? ⟨g, 3, none⟩ = some v3 ∧ w.cell? ⟨g, 4, none⟩ = some v4 ∧ w.cell? ⟨g, 5, none⟩ = some v5 ∧ w.cell? ⟨g, 6, none⟩ = some v6 ∧ w.cell? ⟨g, 7, none⟩ = some v7 ∧ w.cell? ⟨g, 8, none⟩ = some v8 ∧ w.cell? ⟨g, 9, none⟩ = some v9 ∧ w.cell? ⟨g, 10, none⟩ = some v10 ∧ w.cell? ⟨g, 11, none⟩ = some v11 ∧ w.cell? ⟨g, 12, none⟩ = some v12 := ⟨(blk_cell h 0).trans rfl, (blk_cell h 1).trans rfl, (blk_cell h 2).trans rfl, (blk_cell h 3).trans rfl, (blk_cell h 4).trans rfl, (blk_cell h 5).trans rfl, (blk_cell h 6).trans rfl, (blk_cell h 7).trans rfl, (blk_cell h 8).trans rfl, (blk_cell h 9).trans rfl, (blk_cell h 10).trans rfl, (blk_cell h 11).trans rfl, (blk_cell h 12).trans rfl⟩

/-! ### terracelaw15_same: function 13 -/
mutual
def terracelaw15_same.j0 : Nat → Bool → Int → Bool → Int → Bool → Int → Bool → Int → Bool → Int → Bool → Int → Bool → Int → Bool → Int → Bool → Int → Int → Bool → Int → List Int → Int → Int → Int → Int → Int → Int → Int → Int → Int → List Int → Int → Bool → Int → Option (Bool)
  | 0, _, _, _, _, _, _, _, _, _, _, _, _, _, _, _, _, _, _, _, _, _, _, _, _, _, _, _, _, _, _, _, _, _, _, _ => none
  | k + 1, x33, x1000, x1001, x1002, x1003, x1004, x1005, x1006, x1007, x1008, x1009, x1010, x1011, x1012, x1013, x1014, x1015, x1017, x1018, x1019, x51000, x51001, x734000, x734001, x734002, x734003, x734004, x734005, x734006, x734007, x734008, x734009, x734010, x734011, x734012 => if x33 = true then (some false) else ((history_History_Closed.f x51000 x51001).bind fun t738 => (terracelaw15_same.l0 k t738 (t738.length : Int) 0 x1000 x1001 x1002 x1003 x1004 x1005 x1006 x1007 x1008 x1009 x1010 x1011 x1012 x1013 x1014 x1015 x1017 x1018 x1019 x51000 x51001 x734000 x734001 x734002 x734003 x734004 x734005 x734006 x734007 x734008 x734009 x734010 x734011 x734012))
def terracelaw15_same.l0 : Nat → List Int → Int → Int → Int → Bool → Int → Bool → Int → Bool → Int → Bool → Int → Bool → Int → Bool → Int → Bool → Int → Bool → Int → Int → Bool → Int → List Int → Int → Int → Int → Int → Int → Int → Int → Int → Int → List Int → Int → Bool → Int → Option (Bool)
  | 0, _, _, _, _, _, _, _, _, _, _, _, _, _, _, _, _, _, _, _, _, _, _, _, _, _, _, _, _, _, _, _, _, _, _, _, _, _ => none
  | k + 1, x35, x36, x37, x1000, x1001, x1002, x1003, x1004, x1005, x1006, x1007, x1008, x1009, x1010, x1011, x1012, x1013, x1014, x1015, x1017, x1018, x1019, x51000, x51001, x734000, x734001, x734002, x734003, x734004, x734005, x734006, x734007, x734008, x734009, x734010, x734011, x734012 => if x37 < x36 then (if 0 ≤ x37 then (if x37 < (x35.length : Int) then (if x37 < (x734009.length : Int) then (if (rd x35 x37) = (rd x734009 x37) then (terracelaw15_same.l0 k x35 x36 (wrap64 (x37 + 1)) x1000 x1001 x1002 x1003 x1004 x1005 x1006 x1007 x1008 x1009 x1010 x1011 x1012 x1013 x1014 x1015 x1017 x1018 x1019 x51000 x51001 x734000 x734001 x734002 x734003 x734004 x734005 x734006 x734007 x734008 x734009 x734010 x734011 x734012) else (some false)) else (none)) else (none)) else (none)) else (terracelaw15_same.l1 k 0 x1000 x1001 x1002 x1003 x1004 x1005 x1006 x1007 x1008 x1009 x1010 x1011 x1012 x1013 x1014 x1015 x1017 x1018 x1019 x51000 x51001 x734000 x734001 x734002 x734003 x734004 x734005 x734006 x734007 x734008 x734009 x734010 x734011 x734012)
def terracelaw15_same.l1 : Nat → Int → Int → Bool → Int → Bool → Int → Bool → Int → Bool → Int → Bool → Int → Bool → Int → Bool → Int → Bool → Int → Int → Bool → Int → List Int → Int → Int → Int → Int → Int → Int → Int → Int → Int → List Int → Int → Bool → Int → Option (Bool)
  | 0, _, _, _, _, _, _, _, _, _, _, _, _, _, _, _, _, _, _, _, _, _, _, _, _, _, _, _, _, _, _, _, _, _, _, _ => none
  | k + 1, x52, x1000, x1001, x1002, x1003, x1004, x1005, x1006, x1007, x1008, x1009, x1010, x1011, x1012, x1013, x1014, x1015, x1017, x1018, x1019, x51000, x51001, x734000, x734001, x734002, x734003, x734004, x734005, x734006, x734007, x734008, x734009, x734010, x734011, x734012 => if x52 < 8 then (if 0 ≤ x52 then ((detect_Detect_Expects.f x1000 x1001 x1002 x1003 x1004 x1005 x1006 x1007 x1008 x1009 x1010 x1011 x1012 x1013 x1014 x1015 x51000 x51001 x1017 x1018 x1019 x52).bind fun bt744 => (terracelaw15_same.j3 k (rd ([x734000, x734001, x734002, x734003, x734004, x734005, x734006, x734007] : List Int) x52) bt744.1 bt744.2 x52 x1000 x1001 x1002 x1003 x1004 x1005 x1006 x1007 x1008 x1009 x1010 x1011 x1012 x1013 x1014 x1015 x1017 x1018 x1019 x51000 x51001 x734000 x734001 x734002 x734003 x734004 x734005 x734006 x734007 x734008 x734009 x734010 x734011 x734012)) else (none)) else ((detect_Detect_Begin.f x1000 x1001 x1002 x1003 x1004 x1005 x1006 x1007 x1008 x1009 x1010 x1011 x1012 x1013 x1014 x1015 x51000 x51001 x1017 x1018 x1019).bind fun bt746 => (if (bt746.2 == x734011) = true then (some (bt746.1 == x734010)) else (some false)))
def terracelaw15_same.j3 : Nat → Int → Int → Bool → Int → Int → Bool → Int → Bool → Int → Bool → Int → Bool → Int → Bool → Int → Bool → Int → Bool → Int → Bool → Int → Int → Bool → Int → List Int → Int → Int → Int → Int → Int → Int → Int → Int → Int → List Int → Int → Bool → Int → Option (Bool)
  | 0, _, _, _, _, _, _, _, _, _, _, _, _, _, _, _, _, _, _, _, _, _, _, _, _, _, _, _, _, _, _, _, _, _, _, _, _, _, _ => none
  | k + 1, x9, x10, x11, x52, x1000, x1001, x1002, x1003, x1004, x1005, x1006, x1007, x1008, x1009, x1010, x1011, x1012, x1013, x1014, x1015, x1017, x1018, x1019, x51000, x51001, x734000, x734001, x734002, x734003, x734004, x734005, x734006, x734007, x734008, x734009, x734010, x734011, x734012 => if (x11 != (decide (x9 ≥ 0))) = true then (some false) else (if x11 = true then (if (wrap64 (x10)) = x9 then (terracelaw15_same.l1 k (wrap64 (x52 + 1)) x1000 x1001 x1002 x1003 x1004 x1005 x1006 x1007 x1008 x1009 x1010 x1011 x1012 x1013 x1014 x1015 x1017 x1018 x1019 x51000 x51001 x734000 x734001 x734002 x734003 x734004 x734005 x734006 x734007 x734008 x734009 x734010 x734011 x734012) else (some false)) else (if x10 = 0 then (terracelaw15_same.l1 k (wrap64 (x52 + 1)) x1000 x1001 x1002 x1003 x1004 x1005 x1006 x1007 x1008 x1009 x1010 x1011 x1012 x1013 x1014 x1015 x1017 x1018 x1019 x51000 x51001 x734000 x734001 x734002 x734003 x734004 x734005 x734006 x734007 x734008 x734009 x734010 x734011 x734012) else (some false)))
end
def terracelaw15_same.f (k : Nat) (s0_0 : Int) (s0_1 : Bool) (s0_2 : Int) (s0_3 : Bool) (s0_4 : Int) (s0_5 : Bool) (s0_6 : Int) (s0_7 : Bool) (s0_8 : Int) (s0_9 : Bool) (s0_10 : Int) (s0_11 : Bool) (s0_12 : Int) (s0_13 : Bool) (s0_14 : Int) (s0_15 : Bool) (s0_16 : Int) (l0_17 : List Int) (s0_18 : Int) (s0_19 : Int) (s0_20 : Bool) (a1_0 : Int) (a1_1 : Int) (a1_2 : Int) (a1_3 : Int) (a1_4 : Int) (a1_5 : Int) (a1_6 : Int) (a1_7 : Int) (a1_8 : Int) (l1_9 : List Int) (a1_10 : Int) (a1_11 : Bool) (a1_12 : Int) : Option (Bool) := (detect_Detect_History.f s0_0 s0_1 s0_2 s0_3 s0_4 s0_5 s0_6 s0_7 s0_8 s0_9 s0_10 s0_11 s0_12 s0_13 s0_14 s0_15 s0_16 l0_17 s0_18 s0_19 s0_20).bind fun _ => ((history_History_Open.f s0_16 l0_17).bind fun t734 => (if t734 = a1_8 then ((history_History_Closed.f s0_16 l0_17).bind fun t735 => (terracelaw15_same.j0 k ((t735.length : Int) != (l1_9.length : Int)) s0_0 s0_1 s0_2 s0_3 s0_4 s0_5 s0_6 s0_7 s0_8 s0_9 s0_10 s0_11 s0_12 s0_13 s0_14 s0_15 s0_18 s0_19 s0_20 s0_16 l0_17 a1_0 a1_1 a1_2 a1_3 a1_4 a1_5 a1_6 a1_7 a1_8 l1_9 a1_10 a1_11 a1_12)) else (terracelaw15_same.j0 k true s0_0 s0_1 s0_2 s0_3 s0_4 s0_5 s0_6 s0_7 s0_8 s0_9 s0_10 s0_11 s0_12 s0_13 s0_14 s0_15 s0_18 s0_19 s0_20 s0_16 l0_17 a1_0 a1_1 a1_2 a1_3 a1_4 a1_5 a1_6 a1_7 a1_8 l1_9 a1_10 a1_11 a1_12)))
theorem terracelaw15_same.mono_l : ∀ k, (∀ y0 y1 y2 y3 y4 y5 y6 y7 y8 y9 y10 y11 y12 y13 y14 y15 y16 y17 y18 y19 y20 y21 y22 y23 y24 y25 y26 y27 y28 y29 y30 y31 y32 y33 y34, LeO (terracelaw15_same.j0 k y0 y1 y2 y3 y4 y5 y6 y7 y8 y9 y10 y11 y12 y13 y14 y15 y16 y17 y18 y19 y20 y21 y22 y23 y24 y25 y26 y27 y28 y29 y30 y31 y32 y33 y34) (terracelaw15_same.j0 (k + 1) y0 y1 y2 y3 y4 y5 y6 y7 y8 y9 y10 y11 y12 y13 y14 y15 y16 y17 y18 y19 y20 y21 y22 y23 y24 y25 y26 y27 y28 y29 y30 y31 y32 y33 y34)) ∧ (∀ y0 y1 y2 y3 y4 y5 y6 y7 y8 y9 y10 y11 y12 y13 y14 y15 y16 y17 y18 y19 y20 y21 y22 y23 y24 y25 y26 y27 y28 y29 y30 y31 y32 y33 y34 y35 y36, LeO (terracelaw15_same.l0 k y0 y1 y2 y3 y4 y5 y6 y7 y8 y9 y10 y11 y12 y13 y14 y15 y16 y17 y18 y19 y20 y21 y22 y23 y24 y25 y26 y27 y28 y29 y30 y31 y32 y33 y34 y35 y36) (terracelaw15_same.l0 (k + 1) y0 y1 y2 y3 y4 y5 y6 y7 y8 y9 y10 y11 y12 y13 y14 y15 y16 y17 y18 y19 y20 y21 y22 y23 y24 y25 y26 y27 y28 y29 y30 y31 y32 y33 y34 y35 y36)) ∧ (∀ y0 y1 y2 y3 y4 y5 y6 y7 y8 y9 y10 y11 y12 y13 y14 y15 y16 y17 y18 y19 y20 y21 y22 y23 y24 y25 y26 y27 y28 y29 y30 y31 y32 y33 y34, LeO (terracelaw15_same.l1 k y0 y1 y2 y3 y4 y5 y6 y7 y8 y9 y10 y11 y12 y13 y14 y15 y16 y17 y18 y19 y20 y21 y22 y23 y24 y25 y26 y27 y28 y29 y30 y31 y32 y33 y34) (terracelaw15_same.l1 (k + 1) y0 y1 y2 y3 y4 y5 y6 y7 y8 y9 y10 y11 y12 y13 y14 y15 y16 y17 y18 y19 y20 y21 y22 y23 y24 y25 y26 y27 y28 y29 y30 y31 y32 y33 y34)) ∧ (∀ y0 y1 y2 y3 y4 y5 y6 y7 y8 y9 y10 y11 y12 y13 y14 y15 y16 y17 y18 y19 y20 y21 y22 y23 y24 y25 y26 y27 y28 y29 y30 y31 y32 y33 y34 y35 y36 y37, LeO (terracelaw15_same.j3 k y0 y1 y2 y3 y4 y5 y6 y7 y8 y9 y10 y11 y12 y13 y14 y15 y16 y17 y18 y19 y20 y21 y22 y23 y24 y25 y26 y27 y28 y29 y30 y31 y32 y33 y34 y35 y36 y37) (terracelaw15_same.j3 (k + 1) y0 y1 y2 y3 y4 y5 y6 y7 y8 y9 y10 y11 y12 y13 y14 y15 y16 y17 y18 y19 y20 y21 y22 y23 y24 y25 y26 y27 y28 y29 y30 y31 y32 y33 y34 y35 y36 y37))
  | 0 => ⟨fun _ _ _ _ _ _ _ _ _ _ _ _ _ _ _ _ _ _ _ _ _ _ _ _ _ _ _ _ _ _ _ _ _ _ _ r h => by simp [terracelaw15_same.j0] at h, fun _ _ _ _ _ _ _ _ _ _ _ _ _ _ _ _ _ _ _ _ _ _ _ _ _ _ _ _ _ _ _ _ _ _ _ _ _ r h => by simp [terracelaw15_same.l0] at h, fun _ _ _ _ _ _ _ _ _ _ _ _ _ _ _ _ _ _ _ _ _ _ _ _ _ _ _ _ _ _ _ _ _ _ _ r h => by simp [terracelaw15_same.l1] at h, fun _ _ _ _ _ _ _ _ _ _ _ _ _ _ _ _ _ _ _ _ _ _ _ _ _ _ _ _ _ _ _ _ _ _ _ _ _ _ r h => by simp [terracelaw15_same.j3] at h⟩
  | k + 1 => by
    obtain ⟨ih0, ih1, ih2, ih3⟩ := terracelaw15_same.mono_l k
    refine ⟨?_, ?_, ?_, ?_⟩
    · intro y0 y1 y2 y3 y4 y5 y6 y7 y8 y9 y10 y11 y12 y13 y14 y15 y16 y17 y18 y19 y20 y21 y22 y23 y24 y25 y26 y27 y28 y29 y30 y31 y32 y33 y34
      unfold terracelaw15_same.j0
      repeat' first
      | (with_reducible exact ih0 _ _ _ _ _ _ _ _ _ _ _ _ _ _ _ _ _ _ _ _ _ _ _ _ _ _ _ _ _ _ _ _ _ _ _)
      | (with_reducible exact ih1 _ _ _ _ _ _ _ _ _ _ _ _ _ _ _ _ _ _ _ _ _ _ _ _ _ _ _ _ _ _ _ _ _ _ _ _ _)
      | (with_reducible exact ih2 _ _ _ _ _ _ _ _ _ _ _ _ _ _ _ _ _ _ _ _ _ _ _ _ _ _ _ _ _ _ _ _ _ _ _)
      | (with_reducible exact ih3 _ _ _ _ _ _ _ _ _ _ _ _ _ _ _ _ _ _ _ _ _ _ _ _ _ _ _ _ _ _ _ _ _ _ _ _ _ _)
      | (with_reducible exact LeO.refl _)
      | (with_reducible exact LeO.none _)
      | (with_reducible refine LeO.ite ?_ ?_)
      | (with_reducible refine LeO.bind ?_ (fun _ => ?_))
      | exact ih0 _ _ _ _ _ _ _ _ _ _ _ _ _ _ _ _ _ _ _ _ _ _ _ _ _ _ _ _ _ _ _ _ _ _ _
      | exact ih1 _ _ _ _ _ _ _ _ _ _ _ _ _ _ _ _ _ _ _ _ _ _ _ _ _ _ _ _ _ _ _ _ _ _ _ _ _
      | exact ih2 _ _ _ _ _ _ _ _ _ _ _ _ _ _ _ _ _ _ _ _ _ _ _ _ _ _ _ _ _ _ _ _ _ _ _
      | exact ih3 _ _ _ _ _ _ _ _ _ _ _ _ _ _ _ _ _ _ _ _ _ _ _ _ _ _ _ _ _ _ _ _ _ _ _ _ _ _
      | exact LeO.none _
      | refine LeO.ite ?_ ?_
      | refine LeO.bind ?_ (fun _ => ?_)
    · intro y0 y1 y2 y3 y4 y5 y6 y7 y8 y9 y10 y11 y12 y13 y14 y15 y16 y17 y18 y19 y20 y21 y22 y23 y24 y25 y26 y27 y28 y29 y30 y31 y32 y33 y34 y35 y36
      unfold terracelaw15_same.l0
      repeat' first
      | (with_reducible exact ih0 _ _ _ _ _ _ _ _ _ _ _ _ _ _ _ _ _ _ _ _ _ _ _ _ _ _ _ _ _ _ _ _ _ _ _)
      | (with_reducible exact ih1 _ _ _ _ _ _ _ _ _ _ _ _ _ _ _ _ _ _ _ _ _ _ _ _ _ _ _ _ _ _ _ _ _ _ _ _ _)
      | (with_reducible exact ih2 _ _ _ _ _ _ _ _ _ _ _ _ _ _ _ _ _ _ _ _ _ _ _ _ _ _ _ _ _ _ _ _ _ _ _)
      | (with_reducible exact ih3 _ _ _ _ _ _ _ _ _ _ _ _ _ _ _ _ _ _ _ _ _ _ _ _ _ _ _ _ _ _ _ _ _ _ _ _ _ _)
      | (with_reducible exact LeO.refl _)
      | (with_reducible exact LeO.none _)
      | (with_reducible refine LeO.ite ?_ ?_)
      | (with_reducible refine LeO.bind ?_ (fun _ => ?_))
      | exact ih0 _ _ _ _ _ _ _ _ _ _ _ _ _ _ _ _ _ _ _ _ _ _ _ _ _ _ _ _ _ _ _ _ _ _ _
      | exact ih1 _ _ _ _ _ _ _ _ _ _ _ _ _ _ _ _ _ _ _ _ _ _ _ _ _ _ _ _ _ _ _ _ _ _ _ _ _
      | exact ih2 _ _ _ _ _ _ _ _ _ _ _ _ _ _ _ _ _ _ _ _ _ _ _ _ _ _ _ _ _ _ _ _ _ _ _
      | exact ih3 _ _ _ _ _ _ _ _ _ _ _ _ _ _ _ _ _ _ _ _ _ _ _ _ _ _ _ _ _ _ _ _ _ _ _ _ _ _
      | exact LeO.none _
      | refine LeO.ite ?_ ?_
      | refine LeO.bind ?_ (fun _ => ?_)
    · intro y0 y1 y2 y3 y4 y5 y6 y7 y8 y9 y10 y11 y12 y13 y14 y15 y16 y17 y18 y19 y20 y21 y22 y23 y24 y25 y26 y27 y28 y29 y30 y31 y32 y33 y34
      unfold terracelaw15_same.l1
      repeat' first
      | (with_reducible exact ih0 _ _ _ _ _ _ _ _ _ _ _ _ _ _ _ _ _ _ _ _ _ _ _ _ _ _ _ _ _ _ _ _ _ _ _)
      | (with_reducible exact ih1 _ _ _ _ _ _ _ _ _ _ _ _ _ _ _ _ _ _ _ _ _ _ _ _ _ _ _ _ _ _ _ _ _ _ _ _ _)
      | (with_reducible exact ih2 _ _ _ _ _ _ _ _ _ _ _ _ _ _ _ _ _ _ _ _ _ _ _ _ _ _ _ _ _ _ _ _ _ _ _)
      | (with_reducible exact ih3 _ _ _ _ _ _ _ _ _ _ _ _ _ _ _ _ _ _ _ _ _ _ _ _ _ _ _ _ _ _ _ _ _ _ _ _ _ _)
      | (with_reducible exact LeO.refl _)
      | (with_reducible exact LeO.none _)
      | (with_reducible refine LeO.ite ?_ ?_)
      | (with_reducible refine LeO.bind ?_ (fun _ => ?_))
      | exact ih0 _ _ _ _ _ _ _ _ _ _ _ _ _ _ _ _ _ _ _ _ _ _ _ _ _ _ _ _ _ _ _ _ _ _ _
      | exact ih1 _ _ _ _ _ _ _ _ _ _ _ _ _ _ _ _ _ _ _ _ _ _ _ _ _ _ _ _ _ _ _ _ _ _ _ _ _
      | exact ih2 _ _ _ _ _ _ _ _ _ _ _ _ _ _ _ _ _ _ _ _ _ _ _ _ _ _ _ _ _ _ _ _ _ _ _
      | exact ih3 _ _ _ _ _ _ _ _ _ _ _ _ _ _ _ _ _ _ _ _ _ _ _ _ _ _ _ _ _ _ _ _ _ _ _ _ _ _
      | exact LeO.none _
      | refine LeO.ite ?_ ?_
      | refine LeO.bind ?_ (fun _ => ?_)
    · intro y0 y1 y2 y3 y4 y5 y6 y7 y8 y9 y10 y11 y12 y13 y14 y15 y16 y17 y18 y19 y20 y21 y22 y23 y24 y25 y26 y27 y28 y29 y30 y31 y32 y33 y34 y35 y36 y37
      unfold terracelaw15_same.j3
      repeat' first
      | (with_reducible exact ih0 _ _ _ _ _ _ _ _ _ _ _ _ _ _ _ _ _ _ _ _ _ _ _ _ _ _ _ _ _ _ _ _ _ _ _)
      | (with_reducible exact ih1 _ _ _ _ _ _ _ _ _ _ _ _ _ _ _ _ _ _ _ _ _ _ _ _ _ _ _ _ _ _ _ _ _ _ _ _ _)
      | (with_reducible exact ih2 _ _ _ _ _ _ _ _ _ _ _ _ _ _ _ _ _ _ _ _ _ _ _ _ _ _ _ _ _ _ _ _ _ _ _)
      | (with_reducible exact ih3 _ _ _ _ _ _ _ _ _ _ _ _ _ _ _ _ _ _ _ _ _ _ _ _ _ _ _ _ _ _ _ _ _ _ _ _ _ _)
      | (with_reducible exact LeO.refl _)
      | (with_reducible exact LeO.none _)
      | (with_reducible refine LeO.ite ?_ ?_)
      | (with_reducible refine LeO.bind ?_ (fun _ => ?_))
      | exact ih0 _ _ _ _ _ _ _ _ _ _ _ _ _ _ _ _ _ _ _ _ _ _ _ _ _ _ _ _ _ _ _ _ _ _ _
      | exact ih1 _ _ _ _ _ _ _ _ _ _ _ _ _ _ _ _ _ _ _ _ _ _ _ _ _ _ _ _ _ _ _ _ _ _ _ _ _
      | exact ih2 _ _ _ _ _ _ _ _ _ _ _ _ _ _ _ _ _ _ _ _ _ _ _ _ _ _ _ _ _ _ _ _ _ _ _
      | exact ih3 _ _ _ _ _ _ _ _ _ _ _ _ _ _ _ _ _ _ _ _ _ _ _ _ _ _ _ _ _ _ _ _ _ _ _ _ _ _
      | exact LeO.none _
      | refine LeO.ite ?_ ?_
      | refine LeO.bind ?_ (fun _ => ?_)
theorem terracelaw15_same.mono : ∀ a0 a1 a2 a3 a4 a5 a6 a7 a8 a9 a10 a11 a12 a13 a14 a15 a16 a17 a18 a19 a20 a21 a22 a23 a24 a25 a26 a27 a28 a29 a30 a31 a32 a33 k, LeO (terracelaw15_same.f k a0 a1 a2 a3 a4 a5 a6 a7 a8 a9 a10 a11 a12 a13 a14 a15 a16 a17 a18 a19 a20 a21 a22 a23 a24 a25 a26 a27 a28 a29 a30 a31 a32 a33) (terracelaw15_same.f (k + 1) a0 a1 a2 a3 a4 a5 a6 a7 a8 a9 a10 a11 a12 a13 a14 a15 a16 a17 a18 a19 a20 a21 a22 a23 a24 a25 a26 a27 a28 a29 a30 a31 a32 a33) := by
  intro a0 a1 a2 a3 a4 a5 a6 a7 a8 a9 a10 a11 a12 a13 a14 a15 a16 a17 a18 a19 a20 a21 a22 a23 a24 a25 a26 a27 a28 a29 a30 a31 a32 a33 k
  obtain ⟨ih0, ih1, ih2, ih3⟩ := terracelaw15_same.mono_l k
  unfold terracelaw15_same.f
  repeat' first
      | (with_reducible exact ih0 _ _ _ _ _ _ _ _ _ _ _ _ _ _ _ _ _ _ _ _ _ _ _ _ _ _ _ _ _ _ _ _ _ _ _)
      | (with_reducible exact ih1 _ _ _ _ _ _ _ _ _ _ _ _ _ _ _ _ _ _ _ _ _ _ _ _ _ _ _ _ _ _ _ _ _ _ _ _ _)
      | (with_reducible exact ih2 _ _ _ _ _ _ _ _ _ _ _ _ _ _ _ _ _ _ _ _ _ _ _ _ _ _ _ _ _ _ _ _ _ _ _)
      | (with_reducible exact ih3 _ _ _ _ _ _ _ _ _ _ _ _ _ _ _ _ _ _ _ _ _ _ _ _ _ _ _ _ _ _ _ _ _ _ _ _ _ _)
      | (with_reducible exact LeO.refl _)
      | (with_reducible exact LeO.none _)
      | (with_reducible refine LeO.ite ?_ ?_)
      | (with_reducible refine LeO.bind ?_ (fun _ => ?_))
      | exact ih0 _ _ _ _ _ _ _ _ _ _ _ _ _ _ _ _ _ _ _ _ _ _ _ _ _ _ _ _ _ _ _ _ _ _ _
      | exact ih1 _ _ _ _ _ _ _ _ _ _ _ _ _ _ _ _ _ _ _ _ _ _ _ _ _ _ _ _ _ _ _ _ _ _ _ _ _
      | exact ih2 _ _ _ _ _ _ _ _ _ _ _ _ _ _ _ _ _ _ _ _ _ _ _ _ _ _ _ _ _ _ _ _ _ _ _
      | exact ih3 _ _ _ _ _ _ _ _ _ _ _ _ _ _ _ _ _ _ _ _ _ _ _ _ _ _ _ _ _ _ _ _ _ _ _ _ _ _
      | exact LeO.none _
      | refine LeO.ite ?_ ?_
      | refine LeO.bind ?_ (fun _ => ?_)
def terracelaw15_same.T2 : Bool × List (List Nat × List Nat) := (true, [([], []), ([0], [0]), ([1], [1]), ([2], [2]), ([3, 2, 2], [2, 3]), ([2], [2]), ([5, 2], [2, 5]), ([4, 6, 2], [2, 4, 6]), ([2, 7], [2, 7]), ([8, 4], [8]), ([9], [9]), ([10, 9, 9], [9, 10]), ([11, 9], [9, 11]), ([9], [9]), ([13, 9], [9, 13]), ([14, 9], [9, 14]), ([12, 15, 9], [9, 12, 15]), ([9, 16], [9, 16])])
def terracelaw15_same.B2 : List Nat := [0, 1, 3, 7, 15, 7, 39, 127, 255, 511, 1023, 2047, 4095, 1023, 9215, 25599, 65535, 131071]
theorem terracelaw15_same.tab2 : rtab .any (opsOf Try.f13 2) = terracelaw15_same.T2 := by kernel_rfl
theorem terracelaw15_same.bits2 : waitsOk terracelaw15_same.T2.2 terracelaw15_same.B2 = true := by kernel_rfl
set_option maxHeartbeats 8000000 in
set_option maxRecDepth 100000 in
theorem terracelaw15_same.calls (k : Nat) (g : Nat) (gs0 : Nat) (s0_0 : Int) (s0_1 : Bool) (s0_2 : Int) (s0_3 : Bool) (s0_4 : Int) (s0_5 : Bool) (s0_6 : Int) (s0_7 : Bool) (s0_8 : Int) (s0_9 : Bool) (s0_10 : Int) (s0_11 : Bool) (s0_12 : Int) (s0_13 : Bool) (s0_14 : Int) (s0_15 : Bool) (s0_16 : Int) (A0_17 : Option Addr) (c0_17 : Nat) (l0_17 : List Int) (s0_18 : Int) (s0_19 : Int) (s0_20 : Bool) (a1_0 : Int) (a1_1 : Int) (a1_2 : Int) (a1_3 : Int) (a1_4 : Int) (a1_5 : Int) (a1_6 : Int) (a1_7 : Int) (a1_8 : Int) (A1_9 : Option Addr) (c1_9 : Nat) (l1_9 : List Int) (a1_10 : Int) (a1_11 : Bool) (a1_12 : Int) (r : Bool) (w : World) (hI : w.heap[g]? = some (.cells #[.int .u32 s0_0, .bool s0_1, .int .u32 s0_2, .bool s0_3, .int .u32 s0_4, .bool s0_5, .int .u32 s0_6, .bool s0_7, .int .u32 s0_8, .bool s0_9, .int .u32 s0_10, .bool s0_11, .int .u32 s0_12, .bool s0_13, .int .u32 s0_14, .bool s0_15, .pointer (some ⟨gs0, 0, none⟩), .int .i64 s0_18, .int .i64 s0_19, .bool s0_20] 54 (0, 0))) (hI1 : w.heap[gs0]? = some (.cells #[.int .i64 s0_16, .slice A0_17 l0_17.length c0_17] 68 (0, 0))) (hr0_17 : Kd.C (Kd.int .i64) w A0_17 l0_17.length l0_17) (hc0_17 : l0_17.length ≤ c0_17) (hr1_9 : Kd.C (Kd.int .i64) w A1_9 l1_9.length l1_9) (hc1_9 : l1_9.length ≤ c1_9) (h : terracelaw15_same.f k s0_0 s0_1 s0_2 s0_3 s0_4 s0_5 s0_6 s0_7 s0_8 s0_9 s0_10 s0_11 s0_12 s0_13 s0_14 s0_15 s0_16 l0_17 s0_18 s0_19 s0_20 a1_0 a1_1 a1_2 a1_3 a1_4 a1_5 a1_6 a1_7 a1_8 l1_9 a1_10 a1_11 a1_12 = some r) :
    Calls Try.prog 13 #[.pointer (some ⟨g, 0, none⟩), .agg #[.int .i64 a1_0, .int .i64 a1_1, .int .i64 a1_2, .int .i64 a1_3, .int .i64 a1_4, .int .i64 a1_5, .int .i64 a1_6, .int .i64 a1_7, .int .i64 a1_8, .slice A1_9 l1_9.length c1_9, .int .i64 a1_10, .bool a1_11, .int .i64 a1_12]] w fun e w' => e = .returned (.bool r) ∧ Below w.heap.size w w' := by
  have hu41 := Try.underlying41
  have hu38 := Try.underlying38
  have hup48 := Try.underlying48
  have HR0_17 := Aside0.mk hr0_17
  have HC0_17 := Aside0.mk hc0_17
  clear hr0_17 hc0_17
  have HR1_9 := Aside0.mk hr1_9
  have HC1_9 := Aside0.mk hc1_9
  clear hr1_9 hc1_9
  have NB0_50 := Aside0.mk (show g ≠ gs0 from fun e_ => by have h1_ := hI; have h2_ := hI1; rw [e_] at h1_; have h_ := h1_.symm.trans h2_; simp at h_)
  have NB50_0 := Aside0.mk (show gs0 ≠ g from fun e_ => by have h1_ := hI1; have h2_ := hI; rw [e_] at h1_; have h_ := h1_.symm.trans h2_; simp at h_)
  have BK0 := Aside0.mk hI
  have BK50 := Aside0.mk hI1
  clear hI hI1
  have HB := Aside0.mk (Below.refl w.heap.size w)
  have H : ((detect_Detect_History.f s0_0 s0_1 s0_2 s0_3 s0_4 s0_5 s0_6 s0_7 s0_8 s0_9 s0_10 s0_11 s0_12 s0_13 s0_14 s0_15 s0_16 l0_17 s0_18 s0_19 s0_20).bind fun _ => ((history_History_Open.f s0_16 l0_17).bind fun t734 => (if t734 = a1_8 then ((history_History_Closed.f s0_16 l0_17).bind fun t735 => (terracelaw15_same.j0 k ((t735.length : Int) != (l1_9.length : Int)) s0_0 s0_1 s0_2 s0_3 s0_4 s0_5 s0_6 s0_7 s0_8 s0_9 s0_10 s0_11 s0_12 s0_13 s0_14 s0_15 s0_18 s0_19 s0_20 s0_16 l0_17 a1_0 a1_1 a1_2 a1_3 a1_4 a1_5 a1_6 a1_7 a1_8 l1_9 a1_10 a1_11 a1_12)) else (terracelaw15_same.j0 k true s0_0 s0_1 s0_2 s0_3 s0_4 s0_5 s0_6 s0_7 s0_8 s0_9 s0_10 s0_11 s0_12 s0_13 s0_14 s0_15 s0_18 s0_19 s0_20 s0_16 l0_17 a1_0 a1_1 a1_2 a1_3 a1_4 a1_5 a1_6 a1_7 a1_8 l1_9 a1_10 a1_11 a1_12)))) = some r := h
  clear h
  replace H := Option.bind_eq_some_iff.mp H
  obtain ⟨_, A30, H⟩ := H
  replace H : ((history_History_Open.f s0_16 l0_17).bind fun t734 => (if t734 = a1_8 then ((history_History_Closed.f s0_16 l0_17).bind fun t735 => (terracelaw15_same.j0 k ((t735.length : Int) != (l1_9.length : Int)) s0_0 s0_1 s0_2 s0_3 s0_4 s0_5 s0_6 s0_7 s0_8 s0_9 s0_10 s0_11 s0_12 s0_13 s0_14 s0_15 s0_18 s0_19 s0_20 s0_16 l0_17 a1_0 a1_1 a1_2 a1_3 a1_4 a1_5 a1_6 a1_7 a1_8 l1_9 a1_10 a1_11 a1_12)) else (terracelaw15_same.j0 k true s0_0 s0_1 s0_2 s0_3 s0_4 s0_5 s0_6 s0_7 s0_8 s0_9 s0_10 s0_11 s0_12 s0_13 s0_14 s0_15 s0_18 s0_19 s0_20 s0_16 l0_17 a1_0 a1_1 a1_2 a1_3 a1_4 a1_5 a1_6 a1_7 a1_8 l1_9 a1_10 a1_11 a1_12))) = some r := H
  have A3 := Aside0.mk A30
  clear A30
  have HC4 := Aside0.mk H
  clear H
  go_enter Try.func13, Try.ntmps13
  go_upto_region 2 with (first | ((with_reducible refine gate_dst (N := 3) rfl ?_); refine box_event ?hg (N := 3) ?hd (cs := #[.int .i64 a1_0, .int .i64 a1_1, .int .i64 a1_2, .int .i64 a1_3, .int .i64 a1_4, .int .i64 a1_5, .int .i64 a1_6, .int .i64 a1_7, .int .i64 a1_8, .slice A1_9 l1_9.length c1_9, .int .i64 a1_10, .bool a1_11, .int .i64 a1_12]) (t := 41) ?hr ?_; (case hd => rfl); (case hg => rfl); (case hr => first | (go_simp; done) | (go_simp; rfl)); intro gb733 hg w5 hbox hb; have n0_ := Aside0.mk (blk_below (bpq10 BK0.out) hb); have n1_ := Aside0.mk (blk_below (bpq10 BK50.out) hb); have n2_ := Aside0.mk (below_step ((bbq10 HB.out)) hb); have n3_ := Aside0.mk (hbox); have n4_ := Aside0.mk ((by rw [hg]; exact (below_size ((bbq10 HB.out))) : w.heap.size ≤ gb733)); have n5_ := Aside0.mk ((by rw [hg]; exact (below_size ((bbq10 HB.out))) : w.heap.size ≤ gb733)); have n6_ := Aside0.mk ((by rw [hg]; exact Nat.ne_of_lt (blk_lt (bpq10 BK0.out)) : g ≠ gb733)); have n7_ := Aside0.mk ((by rw [hg]; exact Nat.ne_of_gt (blk_lt (bpq10 BK0.out)) : gb733 ≠ g)); have n8_ := Aside0.mk ((by rw [hg]; exact Nat.ne_of_lt (blk_lt (bpq10 BK50.out)) : gs0 ≠ gb733)); have n9_ := Aside0.mk ((by rw [hg]; exact Nat.ne_of_gt (blk_lt (bpq10 BK50.out)) : gb733 ≠ gs0)); clear BK0; clear BK50; clear HB; have BK0 := n0_; have BK50 := n1_; have HB := n2_; have BK733 := n3_; have GW733 := n4_; have GE733 := n5_; have NB0_733 := n6_; have NB733_0 := n7_; have NB50_733 := n8_; have NB733_50 := n9_; clear n0_ n1_ n2_ n3_ n4_ n5_ n6_ n7_ n8_ n9_; clear hb hbox hg) | ((with_reducible refine gate_callee (f := 17) rfl ?_); refine goesL_ (some 15) rfl rfl Try.func17 (by kernel_rfl) rfl #[.pointer (some ⟨g, 0, none⟩)] rfl (by (try simp only [List.map_toArray, List.map_cons, List.map_nil]); first | done | rfl | (simp only [List.length_drop, List.length_take]; rfl)) ?_; (with_reducible refine (detect_Detect_History.calls g gs0 s0_0 s0_1 s0_2 s0_3 s0_4 s0_5 s0_6 s0_7 s0_8 s0_9 s0_10 s0_11 s0_12 s0_13 s0_14 s0_15 s0_16 A0_17 c0_17 l0_17 s0_18 s0_19 s0_20  _ ?side1 ?side2 ?side3 ?side4 A3.out).mono ?_); (case side1 => exact bpq10 BK0.out); (case side2 => exact bpq10 BK50.out); (case side3 => repeat (first | exact (Kd.C_below HR0_17.out HB.out) | (with_reducible refine Kd.C_alloc ?_ _) | (with_reducible refine Kd.C_drewN ?_ _) | (with_reducible refine Kd.C_drew ?_))); (case side4 => exact HC0_17.out); rintro e w' ⟨rfl, ⟨nd, rfl⟩⟩; refine ⟨_, rfl, ?_⟩))
  (try simp only [Act.put, List.setIfInBounds_toArray, List.set_cons_zero, List.set_cons_succ])
  go_cut [33] (fun v33 wc => ∃ (kq : Nat) (x33_3 : Bool), v33 = .bool x33_3 ∧ Aside0 (terracelaw15_same.j0 kq x33_3 s0_0 s0_1 s0_2 s0_3 s0_4 s0_5 s0_6 s0_7 s0_8 s0_9 s0_10 s0_11 s0_12 s0_13 s0_14 s0_15 s0_18 s0_19 s0_20 s0_16 l0_17 a1_0 a1_1 a1_2 a1_3 a1_4 a1_5 a1_6 a1_7 a1_8 l1_9 a1_10 a1_11 a1_12 = some r) ∧ Aside0 (kq ≤ k) ∧ Aside0 (wc.heap[g]? = some (.cells #[.int .u32 s0_0, .bool s0_1, .int .u32 s0_2, .bool s0_3, .int .u32 s0_4, .bool s0_5, .int .u32 s0_6, .bool s0_7, .int .u32 s0_8, .bool s0_9, .int .u32 s0_10, .bool s0_11, .int .u32 s0_12, .bool s0_13, .int .u32 s0_14, .bool s0_15, .pointer (some ⟨gs0, 0, none⟩), .int .i64 s0_18, .int .i64 s0_19, .bool s0_20] 54 (0, 0))) ∧ Aside0 (wc.heap[gs0]? = some (.cells #[.int .i64 s0_16, (.slice A0_17 l0_17.length c0_17)] 68 (0, 0))) ∧ Aside0 (wc.heap[gb733]? = some (.cells #[.int .i64 a1_0, .int .i64 a1_1, .int .i64 a1_2, .int .i64 a1_3, .int .i64 a1_4, .int .i64 a1_5, .int .i64 a1_6, .int .i64 a1_7, .int .i64 a1_8, (.slice A1_9 l1_9.length c1_9), .int .i64 a1_10, .bool a1_11, .int .i64 a1_12] 41 (0, 0))) ∧ Aside0 (Below w.heap.size w wc))
  case first =>
    have H := HC4.out
    clear HC4
    replace H := Option.bind_eq_some_iff.mp H
    obtain ⟨t734, A60, H⟩ := H
    replace H : (if t734 = a1_8 then ((history_History_Closed.f s0_16 l0_17).bind fun t735 => (terracelaw15_same.j0 k ((t735.length : Int) != (l1_9.length : Int)) s0_0 s0_1 s0_2 s0_3 s0_4 s0_5 s0_6 s0_7 s0_8 s0_9 s0_10 s0_11 s0_12 s0_13 s0_14 s0_15 s0_18 s0_19 s0_20 s0_16 l0_17 a1_0 a1_1 a1_2 a1_3 a1_4 a1_5 a1_6 a1_7 a1_8 l1_9 a1_10 a1_11 a1_12)) else (terracelaw15_same.j0 k true s0_0 s0_1 s0_2 s0_3 s0_4 s0_5 s0_6 s0_7 s0_8 s0_9 s0_10 s0_11 s0_12 s0_13 s0_14 s0_15 s0_18 s0_19 s0_20 s0_16 l0_17 a1_0 a1_1 a1_2 a1_3 a1_4 a1_5 a1_6 a1_7 a1_8 l1_9 a1_10 a1_11 a1_12)) = some r := H
    have A6 := Aside0.mk A60
    clear A60
    by_cases c7 : t734 = a1_8
    · rw [if_pos c7] at H
      have c7b0 : (t734 == a1_8) = true := beq_iff_eq.mpr c7
      have c7b1 : (t734 != a1_8) = false := bne_eq_false_iff_eq.mpr c7
      clear c7
      (first | rw [c7b0] | (simp only [i64_w, i32_w]; rw [c7b0]) | skip)
      replace H := Option.bind_eq_some_iff.mp H
      obtain ⟨t735, A80, H⟩ := H
      replace H : (terracelaw15_same.j0 k ((t735.length : Int) != (l1_9.length : Int)) s0_0 s0_1 s0_2 s0_3 s0_4 s0_5 s0_6 s0_7 s0_8 s0_9 s0_10 s0_11 s0_12 s0_13 s0_14 s0_15 s0_18 s0_19 s0_20 s0_16 l0_17 a1_0 a1_1 a1_2 a1_3 a1_4 a1_5 a1_6 a1_7 a1_8 l1_9 a1_10 a1_11 a1_12) = some r := H
      have A8 := Aside0.mk A80
      clear A80
      have H' := Aside0.mk H
      clear H
      try go_wp2
      (try (rw [drewN_self w5]; generalize hq_ : World.drewN w5 _ = w5; have n0_ : Aside0 (w5.heap[g]? = some (.cells #[.int .u32 s0_0, .bool s0_1, .int .u32 s0_2, .bool s0_3, .int .u32 s0_4, .bool s0_5, .int .u32 s0_6, .bool s0_7, .int .u32 s0_8, .bool s0_9, .int .u32 s0_10, .bool s0_11, .int .u32 s0_12, .bool s0_13, .int .u32 s0_14, .bool s0_15, .pointer (some ⟨gs0, 0, none⟩), .int .i64 s0_18, .int .i64 s0_19, .bool s0_20] 54 (0, 0))) := ⟨by rw [← hq_]; exact (by exact bpq10 BK0.out)⟩; have n1_ : Aside0 (w5.heap[gs0]? = some (.cells #[.int .i64 s0_16, .slice A0_17 l0_17.length c0_17] 68 (0, 0))) := ⟨by rw [← hq_]; exact (by exact bpq10 BK50.out)⟩; have n2_ : Aside0 (w5.heap[gb733]? = some (.cells #[.int .i64 a1_0, .int .i64 a1_1, .int .i64 a1_2, .int .i64 a1_3, .int .i64 a1_4, .int .i64 a1_5, .int .i64 a1_6, .int .i64 a1_7, .int .i64 a1_8, .slice A1_9 l1_9.length c1_9, .int .i64 a1_10, .bool a1_11, .int .i64 a1_12] 41 (0, 0))) := ⟨by rw [← hq_]; exact (by exact bpq10 BK733.out)⟩; have n3_ : Aside0 (Below w.heap.size w w5) := ⟨by rw [← hq_]; exact ((bbq10 HB.out))⟩; clear BK0 BK50 BK733 HB hq_; have BK0 := n0_; have BK50 := n1_; have BK733 := n2_; have HB := n3_; clear n0_ n1_ n2_ n3_))
      have n0_ := Aside0.mk (blk_drew BK0.out)
      have n1_ := Aside0.mk (blk_drew BK50.out)
      have n2_ := Aside0.mk (blk_drew BK733.out)
      have n3_ := Aside0.mk (below_drew1 HB.out)
      clear BK0
      clear BK50
      clear BK733
      clear HB
      have BK0 := n0_
      have BK50 := n1_
      have BK733 := n2_
      have HB := n3_
      clear n0_ n1_ n2_ n3_
      refine start_ (n := 18) (S := fun w' => w'.cell? ⟨gb733, 0, none⟩ = some (.int .i64 a1_0) ∧ w'.cell? ⟨gb733, 1, none⟩ = some (.int .i64 a1_1) ∧ w'.cell? ⟨gb733, 2, none⟩ = some (.int .i64 a1_2) ∧ w'.cell? ⟨gb733, 3, none⟩ = some (.int .i64 a1_3) ∧ w'.cell? ⟨gb733, 4, none⟩ = some (.int .i64 a1_4) ∧ w'.cell? ⟨gb733, 5, none⟩ = some (.int .i64 a1_5) ∧ w'.cell? ⟨gb733, 6, none⟩ = some (.int .i64 a1_6) ∧ w'.cell? ⟨gb733, 7, none⟩ = some (.int .i64 a1_7) ∧ w'.cell? ⟨gb733, 8, none⟩ = some (.int .i64 a1_8) ∧ w'.cell? ⟨gb733, 9, none⟩ = some (.slice A1_9 l1_9.length c1_9) ∧ w'.cell? ⟨gb733, 10, none⟩ = some (.int .i64 a1_10) ∧ w'.cell? ⟨gb733, 11, none⟩ = some (.bool a1_11) ∧ w'.cell? ⟨gb733, 12, none⟩ = some (.int .i64 a1_12)) (ds := []) #[false, false, false, false, false, false, false, false, false, false, false, false, false, false, false, false, false, false] (by kernel_rfl) rfl rfl ⟨(blk_cell BK733.out 0).trans rfl, (blk_cell BK733.out 1).trans rfl, (blk_cell BK733.out 2).trans rfl, (blk_cell BK733.out 3).trans rfl, (blk_cell BK733.out 4).trans rfl, (blk_cell BK733.out 5).trans rfl, (blk_cell BK733.out 6).trans rfl, (blk_cell BK733.out 7).trans rfl, (blk_cell BK733.out 8).trans rfl, (blk_cell BK733.out 9).trans rfl, (blk_cell BK733.out 10).trans rfl, (blk_cell BK733.out 11).trans rfl, (blk_cell BK733.out 12).trans rfl⟩ (fun hHeld => ?_); refine with_tabW terracelaw15_same.tab2 terracelaw15_same.bits2 (fun HT_ HW_ => ?_)
      generalize w5.drew = w9 at BK0 BK50 BK733 HB hHeld ⊢
      refine pure_ (i := 0) (N := some 16) (v := ?_) (a' := ?_) #[true, false, false, false, false, false, false, false, false, false, false, false, false, false, false, false, false, false] rfl rfl (any_of HT_.out (by kernel_rfl)) (fun _ _ _ h => h) (Or.inl ⟨by rfl, ?_⟩) ?_ ?_
      rotate_left
      · intro w'
        go_simp
        with_reducible rfl
      rotate_left
      · simp only [Act.put, List.setIfInBounds_toArray, List.set_cons_zero, List.set_cons_succ, i64_w, i32_w]
        rfl
      refine pure_ (i := 1) (N := some 17) (v := ?_) (a' := ?_) #[true, true, false, false, false, false, false, false, false, false, false, false, false, false, false, false, false, false] rfl rfl (any_of HT_.out (by kernel_rfl)) (fun _ _ _ h => h) (Or.inl ⟨by rfl, ?_⟩) ?_ ?_
      rotate_left
      · intro w'
        go_simp
        with_reducible rfl
      rotate_left
      · simp only [Act.put, List.setIfInBounds_toArray, List.set_cons_zero, List.set_cons_succ, i64_w, i32_w]
        rfl
      refine pure_ (i := 2) (N := some 18) (v := ?_) (a' := ?_) #[true, true, true, false, false, false, false, false, false, false, false, false, false, false, false, false, false, false] rfl rfl (any_of HT_.out (by kernel_rfl)) (fun _ _ _ h => h) (Or.inl ⟨by rfl, ?_⟩) ?_ ?_
      rotate_left
      · intro w'
        go_simp
        with_reducible rfl
      rotate_left
      · simp only [Act.put, List.setIfInBounds_toArray, List.set_cons_zero, List.set_cons_succ, i64_w, i32_w]
        rfl
      refine pure_ (i := 3) (N := some 19) (v := ?_) (a' := ?_) #[true, true, true, true, false, false, false, false, false, false, false, false, false, false, false, false, false, false] rfl rfl (any_of HT_.out (by kernel_rfl)) (fun _ _ _ h => h) (Or.inl ⟨by rfl, ?_⟩) ?_ ?_
      rotate_left
      · intro w'
        go_simp
        with_reducible rfl
      rotate_left
      · simp only [Act.put, List.setIfInBounds_toArray, List.set_cons_zero, List.set_cons_succ, i64_w, i32_w]
        rfl
      refine pure_ (i := 5) (N := some 21) (v := ?_) (a' := ?_) #[true, true, true, true, false, true, false, false, false, false, false, false, false, false, false, false, false, false] rfl rfl (any_of HT_.out (by kernel_rfl)) (fun _ _ _ h => h) (Or.inl ⟨by rfl, ?_⟩) ?_ ?_
      rotate_left
      · intro w'
        go_simp
        with_reducible rfl
      rotate_left
      · simp only [Act.put, List.setIfInBounds_toArray, List.set_cons_zero, List.set_cons_succ, i64_w, i32_w]
        rfl
      refine take_ (i := 6) (N := some 22) (v := ?_) (a' := ?_) #[true, true, true, true, false, true, true, false, false, false, false, false, false, false, false, false, false, false] rfl rfl (take_ofW HT_.out HW_.out (by kernel_rfl)) (fun _ _ _ h => h) (Or.inl ⟨by rfl, ?_⟩) hHeld ?_ ?_
      rotate_left
      · rintro w' ⟨s0, s1, s2, s3, s4, s5, s6, s7, s8, s9, s10, s11, s12⟩
        go_simp
        with_reducible rfl
      rotate_left
      · simp only [Act.put, List.setIfInBounds_toArray, List.set_cons_zero, List.set_cons_succ, i64_w, i32_w]
        rfl
      refine one_ (i := 4) (N := some 20) #[true, true, true, true, true, true, true, false, false, false, false, false, false, false, false, false, false, false] rfl rfl (one_of HT_.out (by kernel_rfl)) (by decide) (fun K hK => ?_)
      refine goes_ Try.func18 (by kernel_rfl) rfl #[.pointer (some ⟨gs0, 0, none⟩)] (by rfl) rfl rfl (by (try simp only [List.map_toArray, List.map_cons, List.map_nil]); first | done | rfl | (simp only [List.length_drop, List.length_take]; rfl)) ?_
      with_reducible refine (history_History_Open.calls gs0 s0_16 A0_17 c0_17 l0_17 t734 _ ?side1 ?side2 ?side3 A6.out).mono ?_
      (case side1 => exact bpq10 BK50.out)
      (case side2 => repeat (first | exact (Kd.C_below HR0_17.out HB.out) | (with_reducible refine Kd.C_alloc ?_ _) | (with_reducible refine Kd.C_drewN ?_ _) | (with_reducible refine Kd.C_drew ?_)))
      (case side3 => exact HC0_17.out)
      rintro e w' ⟨rfl, ⟨nd, rfl⟩⟩
      refine ⟨_, rfl, ?_⟩
      refine hK.out _ _ ⟨(blk_cell BK733.out 0).trans rfl, (blk_cell BK733.out 1).trans rfl, (blk_cell BK733.out 2).trans rfl, (blk_cell BK733.out 3).trans rfl, (blk_cell BK733.out 4).trans rfl, (blk_cell BK733.out 5).trans rfl, (blk_cell BK733.out 6).trans rfl, (blk_cell BK733.out 7).trans rfl, (blk_cell BK733.out 8).trans rfl, (blk_cell BK733.out 9).trans rfl, (blk_cell BK733.out 10).trans rfl, (blk_cell BK733.out 11).trans rfl, (blk_cell BK733.out 12).trans rfl⟩ (fun hHeld => ?_)
      clear hK K
      refine norm_ (a' := ?_) ?_ ?_
      rotate_left
      · show Act.put _ (some 20) _ = _
        simp only [Act.put, List.setIfInBounds_toArray, List.set_cons_zero, List.set_cons_succ, i64_w, i32_w]
        rfl
      refine pure_ (i := 7) (N := some 23) (v := ?_) (a' := ?_) #[true, true, true, true, true, true, true, true, false, false, false, false, false, false, false, false, false, false] rfl rfl (any_of HT_.out (by kernel_rfl)) (fun _ _ _ h => h) (Or.inl ⟨by rfl, ?_⟩) ?_ ?_
      rotate_left
      · intro w'
        go_simp
        with_reducible rfl
      rotate_left
      · simp only [Act.put, List.setIfInBounds_toArray, List.set_cons_zero, List.set_cons_succ, i64_w, i32_w]
        rfl
      refine pure_ (i := 8) (N := some 24) (v := ?_) (a' := ?_) #[true, true, true, true, true, true, true, true, true, false, false, false, false, false, false, false, false, false] rfl rfl (any_of HT_.out (by kernel_rfl)) (fun _ _ _ h => h) (Or.inl ⟨by rfl, ?_⟩) ?_ ?_
      rotate_left
      · intro w'
        go_simp
        with_reducible rfl
      rotate_left
      · simp only [Act.put, List.setIfInBounds_toArray, List.set_cons_zero, List.set_cons_succ, i64_w, i32_w]
        rfl
      refine pure_ (i := 9) (N := some 25) (v := ?_) (a' := ?_) #[true, true, true, true, true, true, true, true, true, true, false, false, false, false, false, false, false, false] rfl rfl (any_of HT_.out (by kernel_rfl)) (fun _ _ _ h => h) (Or.inl ⟨by rfl, ?_⟩) ?_ ?_
      rotate_left
      · intro w'
        go_simp
        with_reducible rfl
      rotate_left
      · simp only [Act.put, List.setIfInBounds_toArray, List.set_cons_zero, List.set_cons_succ, i64_w, i32_w]
        rfl
      refine pure_ (i := 10) (N := some 26) (v := ?_) (a' := ?_) #[true, true, true, true, true, true, true, true, true, true, true, false, false, false, false, false, false, false] rfl rfl (any_of HT_.out (by kernel_rfl)) (fun _ _ _ h => h) (Or.inl ⟨by rfl, ?_⟩) ?_ ?_
      rotate_left
      · intro w'
        go_simp
        with_reducible rfl
      rotate_left
      · simp only [Act.put, List.setIfInBounds_toArray, List.set_cons_zero, List.set_cons_succ, i64_w, i32_w]
        rfl
      refine pure_ (i := 13) (N := some 29) (v := ?_) (a' := ?_) #[true, true, true, true, true, true, true, true, true, true, true, false, false, true, false, false, false, false] rfl rfl (any_of HT_.out (by kernel_rfl)) (fun _ _ _ h => h) (Or.inl ⟨by rfl, ?_⟩) ?_ ?_
      rotate_left
      · intro w'
        go_simp
        with_reducible rfl
      rotate_left
      · simp only [Act.put, List.setIfInBounds_toArray, List.set_cons_zero, List.set_cons_succ, i64_w, i32_w]
        rfl
      refine take_ (i := 14) (N := some 30) (v := ?_) (a' := ?_) #[true, true, true, true, true, true, true, true, true, true, true, false, false, true, true, false, false, false] rfl rfl (take_ofW HT_.out HW_.out (by kernel_rfl)) (fun _ _ _ h => h) (Or.inl ⟨by rfl, ?_⟩) hHeld ?_ ?_
      rotate_left
      · rintro w' ⟨s0, s1, s2, s3, s4, s5, s6, s7, s8, s9, s10, s11, s12⟩
        go_simp
        with_reducible rfl
      rotate_left
      · simp only [Act.put, List.setIfInBounds_toArray, List.set_cons_zero, List.set_cons_succ, i64_w, i32_w]
        rfl
      refine pure_ (i := 15) (N := some 31) (v := ?_) (a' := ?_) #[true, true, true, true, true, true, true, true, true, true, true, false, false, true, true, true, false, false] rfl rfl (any_of HT_.out (by kernel_rfl)) (fun _ _ _ h => h) (Or.inl ⟨by rfl, ?_⟩) ?_ ?_
      rotate_left
      · intro w'
        go_simp
        with_reducible rfl
      rotate_left
      · simp only [Act.put, List.setIfInBounds_toArray, List.set_cons_zero, List.set_cons_succ, i64_w, i32_w]
        rfl
      refine one_ (i := 11) (N := some 27) #[true, true, true, true, true, true, true, true, true, true, true, true, false, true, true, true, false, false] rfl rfl (one_of HT_.out (by kernel_rfl)) (by decide) (fun K hK => ?_)
      refine goes_ Try.func26 (by kernel_rfl) rfl #[.pointer (some ⟨gs0, 0, none⟩)] (by rfl) rfl rfl (by (try simp only [List.map_toArray, List.map_cons, List.map_nil]); first | done | rfl | (simp only [List.length_drop, List.length_take]; rfl)) ?_
      with_reducible refine (history_History_Closed.calls gs0 s0_16 A0_17 c0_17 l0_17 t735 _ ?side1 ?side2 ?side3 A8.out).mono ?_
      (case side1 => exact bpq10 BK50.out)
      (case side2 => repeat (first | exact (Kd.C_below HR0_17.out ((bbq10 HB.out))) | (with_reducible refine Kd.C_alloc ?_ _) | (with_reducible refine Kd.C_drewN ?_ _) | (with_reducible refine Kd.C_drew ?_)))
      (case side3 => exact HC0_17.out)
      rintro e w10 ⟨v736, rfl, ho0, hb⟩
      refine ⟨_, rfl, ?_⟩
      have n0_ := Aside0.mk (Kd.R_lower ho0 (below_size ((bbq10 HB.out))))
      have n1_ := Aside0.mk (blk_below (bpq10 BK0.out) hb)
      have n2_ := Aside0.mk (blk_below (bpq10 BK50.out) hb)
      have n3_ := Aside0.mk (blk_below (bpq10 BK733.out) hb)
      have n4_ := Aside0.mk (below_step ((bbq10 HB.out)) hb)
      clear BK0
      clear BK50
      clear BK733
      clear HB
      have HO737 := n0_
      have BK0 := n1_
      have BK50 := n2_
      have BK733 := n3_
      have HB := n4_
      clear n0_ n1_ n2_ n3_ n4_
      (try clear hb)
      (try clear hb2)
      (try clear hk)
      (try clear hi)
      (try clear ho0)
      obtain ⟨Ao11, co11, eo11⟩ := Kd.R_slice HO737.out
      (first | subst eo11 | (injection eo11 with f1_ f2_ f3_; have f4_ := f1_.symm; have f5_ := f3_.symm; clear f1_ f2_ f3_; subst f4_; subst f5_))
      refine hK.out _ _ ⟨(blk_cell BK733.out 0).trans rfl, (blk_cell BK733.out 1).trans rfl, (blk_cell BK733.out 2).trans rfl, (blk_cell BK733.out 3).trans rfl, (blk_cell BK733.out 4).trans rfl, (blk_cell BK733.out 5).trans rfl, (blk_cell BK733.out 6).trans rfl, (blk_cell BK733.out 7).trans rfl, (blk_cell BK733.out 8).trans rfl, (blk_cell BK733.out 9).trans rfl, (blk_cell BK733.out 10).trans rfl, (blk_cell BK733.out 11).trans rfl, (blk_cell BK733.out 12).trans rfl⟩ (fun hHeld => ?_)
      clear hK K
      refine norm_ (a' := ?_) ?_ ?_
      rotate_left
      · show Act.put _ (some 27) _ = _
        simp only [Act.put, List.setIfInBounds_toArray, List.set_cons_zero, List.set_cons_succ, i64_w, i32_w]
        rfl
      refine pure_ (i := 12) (N := some 28) (v := ?_) (a' := ?_) #[true, true, true, true, true, true, true, true, true, true, true, true, true, true, true, true, false, false] rfl rfl (any_of HT_.out (by kernel_rfl)) (fun _ _ _ h => h) (Or.inl ⟨by rfl, ?_⟩) ?_ ?_
      rotate_left
      · intro w'
        go_simp
        with_reducible rfl
      rotate_left
      · simp only [Act.put, List.setIfInBounds_toArray, List.set_cons_zero, List.set_cons_succ, i64_w, i32_w]
        rfl
      refine pure_ (i := 16) (N := some 32) (v := ?_) (a' := ?_) #[true, true, true, true, true, true, true, true, true, true, true, true, true, true, true, true, true, false] rfl rfl (any_of HT_.out (by kernel_rfl)) (fun _ _ _ h => h) (Or.inl ⟨by rfl, ?_⟩) ?_ ?_
      rotate_left
      · intro w'
        go_simp
        with_reducible rfl
      rotate_left
      · simp only [Act.put, List.setIfInBounds_toArray, List.set_cons_zero, List.set_cons_succ, i64_w, i32_w]
        rfl
      refine pure_ (i := 17) (N := some 33) (v := ?_) (a' := ?_) #[true, true, true, true, true, true, true, true, true, true, true, true, true, true, true, true, true, true] rfl rfl (any_of HT_.out (by kernel_rfl)) (fun _ _ _ h => h) (Or.inl ⟨by rfl, ?_⟩) ?_ ?_
      rotate_left
      · intro w'
        go_simp
        with_reducible rfl
      rotate_left
      · simp only [Act.put, List.setIfInBounds_toArray, List.set_cons_zero, List.set_cons_succ, i64_w, i32_w]
        rfl
      refine done_ (done_of HT_.out (by kernel_rfl)) ?_
      try go_wp2
      go_meet
      case rel => exact ⟨_, (((t735.length : Int) != (l1_9.length : Int))), (by first | rfl | (simp; done) | (simp [*]; done)), H', ⟨by first | omega | exact Nat.le_refl _⟩, ⟨by exact bpq10 BK0.out⟩, ⟨by exact bpq10 BK50.out⟩, ⟨by exact bpq10 BK733.out⟩, ⟨(bbq10 HB.out)⟩⟩
    · rw [if_neg c7] at H
      have c7b0 : (t734 == a1_8) = false := beq_eq_false_iff_ne.mpr c7
      have c7b1 : (t734 != a1_8) = true := bne_iff_ne.mpr c7
      (first | rw [c7b0] | (simp only [i64_w, i32_w]; rw [c7b0]) | skip)
      have H' := Aside0.mk H
      clear H
      try go_wp2
      (try (rw [drewN_self w5]; generalize hq_ : World.drewN w5 _ = w5; have n0_ : Aside0 (w5.heap[g]? = some (.cells #[.int .u32 s0_0, .bool s0_1, .int .u32 s0_2, .bool s0_3, .int .u32 s0_4, .bool s0_5, .int .u32 s0_6, .bool s0_7, .int .u32 s0_8, .bool s0_9, .int .u32 s0_10, .bool s0_11, .int .u32 s0_12, .bool s0_13, .int .u32 s0_14, .bool s0_15, .pointer (some ⟨gs0, 0, none⟩), .int .i64 s0_18, .int .i64 s0_19, .bool s0_20] 54 (0, 0))) := ⟨by rw [← hq_]; exact (by exact bpq10 BK0.out)⟩; have n1_ : Aside0 (w5.heap[gs0]? = some (.cells #[.int .i64 s0_16, .slice A0_17 l0_17.length c0_17] 68 (0, 0))) := ⟨by rw [← hq_]; exact (by exact bpq10 BK50.out)⟩; have n2_ : Aside0 (w5.heap[gb733]? = some (.cells #[.int .i64 a1_0, .int .i64 a1_1, .int .i64 a1_2, .int .i64 a1_3, .int .i64 a1_4, .int .i64 a1_5, .int .i64 a1_6, .int .i64 a1_7, .int .i64 a1_8, .slice A1_9 l1_9.length c1_9, .int .i64 a1_10, .bool a1_11, .int .i64 a1_12] 41 (0, 0))) := ⟨by rw [← hq_]; exact (by exact bpq10 BK733.out)⟩; have n3_ : Aside0 (Below w.heap.size w w5) := ⟨by rw [← hq_]; exact ((bbq10 HB.out))⟩; clear BK0 BK50 BK733 HB hq_; have BK0 := n0_; have BK50 := n1_; have BK733 := n2_; have HB := n3_; clear n0_ n1_ n2_ n3_))
      have n0_ := Aside0.mk (blk_drew BK0.out)
      have n1_ := Aside0.mk (blk_drew BK50.out)
      have n2_ := Aside0.mk (blk_drew BK733.out)
      have n3_ := Aside0.mk (below_drew1 HB.out)
      clear BK0
      clear BK50
      clear BK733
      clear HB
      have BK0 := n0_
      have BK50 := n1_
      have BK733 := n2_
      have HB := n3_
      clear n0_ n1_ n2_ n3_
      refine start_ (n := 18) (S := fun w' => w'.cell? ⟨gb733, 0, none⟩ = some (.int .i64 a1_0) ∧ w'.cell? ⟨gb733, 1, none⟩ = some (.int .i64 a1_1) ∧ w'.cell? ⟨gb733, 2, none⟩ = some (.int .i64 a1_2) ∧ w'.cell? ⟨gb733, 3, none⟩ = some (.int .i64 a1_3) ∧ w'.cell? ⟨gb733, 4, none⟩ = some (.int .i64 a1_4) ∧ w'.cell? ⟨gb733, 5, none⟩ = some (.int .i64 a1_5) ∧ w'.cell? ⟨gb733, 6, none⟩ = some (.int .i64 a1_6) ∧ w'.cell? ⟨gb733, 7, none⟩ = some (.int .i64 a1_7) ∧ w'.cell? ⟨gb733, 8, none⟩ = some (.int .i64 a1_8) ∧ w'.cell? ⟨gb733, 9, none⟩ = some (.slice A1_9 l1_9.length c1_9) ∧ w'.cell? ⟨gb733, 10, none⟩ = some (.int .i64 a1_10) ∧ w'.cell? ⟨gb733, 11, none⟩ = some (.bool a1_11) ∧ w'.cell? ⟨gb733, 12, none⟩ = some (.int .i64 a1_12)) (ds := []) #[false, false, false, false, false, false, false, false, false, false, false, false, false, false, false, false, false, false] (by kernel_rfl) rfl rfl ⟨(blk_cell BK733.out 0).trans rfl, (blk_cell BK733.out 1).trans rfl, (blk_cell BK733.out 2).trans rfl, (blk_cell BK733.out 3).trans rfl, (blk_cell BK733.out 4).trans rfl, (blk_cell BK733.out 5).trans rfl, (blk_cell BK733.out 6).trans rfl, (blk_cell BK733.out 7).trans rfl, (blk_cell BK733.out 8).trans rfl, (blk_cell BK733.out 9).trans rfl, (blk_cell BK733.out 10).trans rfl, (blk_cell BK733.out 11).trans rfl, (blk_cell BK733.out 12).trans rfl⟩ (fun hHeld => ?_); refine with_tabW terracelaw15_same.tab2 terracelaw15_same.bits2 (fun HT_ HW_ => ?_)
      generalize w5.drew = w12 at BK0 BK50 BK733 HB hHeld ⊢
      refine pure_ (i := 0) (N := some 16) (v := ?_) (a' := ?_) #[true, false, false, false, false, false, false, false, false, false, false, false, false, false, false, false, false, false] rfl rfl (any_of HT_.out (by kernel_rfl)) (fun _ _ _ h => h) (Or.inl ⟨by rfl, ?_⟩) ?_ ?_
      rotate_left
      · intro w'
        go_simp
        with_reducible rfl
      rotate_left
      · simp only [Act.put, List.setIfInBounds_toArray, List.set_cons_zero, List.set_cons_succ, i64_w, i32_w]
        rfl
      refine pure_ (i := 1) (N := some 17) (v := ?_) (a' := ?_) #[true, true, false, false, false, false, false, false, false, false, false, false, false, false, false, false, false, false] rfl rfl (any_of HT_.out (by kernel_rfl)) (fun _ _ _ h => h) (Or.inl ⟨by rfl, ?_⟩) ?_ ?_
      rotate_left
      · intro w'
        go_simp
        with_reducible rfl
      rotate_left
      · simp only [Act.put, List.setIfInBounds_toArray, List.set_cons_zero, List.set_cons_succ, i64_w, i32_w]
        rfl
      refine pure_ (i := 2) (N := some 18) (v := ?_) (a' := ?_) #[true, true, true, false, false, false, false, false, false, false, false, false, false, false, false, false, false, false] rfl rfl (any_of HT_.out (by kernel_rfl)) (fun _ _ _ h => h) (Or.inl ⟨by rfl, ?_⟩) ?_ ?_
      rotate_left
      · intro w'
        go_simp
        with_reducible rfl
      rotate_left
      · simp only [Act.put, List.setIfInBounds_toArray, List.set_cons_zero, List.set_cons_succ, i64_w, i32_w]
        rfl
      refine pure_ (i := 3) (N := some 19) (v := ?_) (a' := ?_) #[true, true, true, true, false, false, false, false, false, false, false, false, false, false, false, false, false, false] rfl rfl (any_of HT_.out (by kernel_rfl)) (fun _ _ _ h => h) (Or.inl ⟨by rfl, ?_⟩) ?_ ?_
      rotate_left
      · intro w'
        go_simp
        with_reducible rfl
      rotate_left
      · simp only [Act.put, List.setIfInBounds_toArray, List.set_cons_zero, List.set_cons_succ, i64_w, i32_w]
        rfl
      refine pure_ (i := 5) (N := some 21) (v := ?_) (a' := ?_) #[true, true, true, true, false, true, false, false, false, false, false, false, false, false, false, false, false, false] rfl rfl (any_of HT_.out (by kernel_rfl)) (fun _ _ _ h => h) (Or.inl ⟨by rfl, ?_⟩) ?_ ?_
      rotate_left
      · intro w'
        go_simp
        with_reducible rfl
      rotate_left
      · simp only [Act.put, List.setIfInBounds_toArray, List.set_cons_zero, List.set_cons_succ, i64_w, i32_w]
        rfl
      refine take_ (i := 6) (N := some 22) (v := ?_) (a' := ?_) #[true, true, true, true, false, true, true, false, false, false, false, false, false, false, false, false, false, false] rfl rfl (take_ofW HT_.out HW_.out (by kernel_rfl)) (fun _ _ _ h => h) (Or.inl ⟨by rfl, ?_⟩) hHeld ?_ ?_
      rotate_left
      · rintro w' ⟨s0, s1, s2, s3, s4, s5, s6, s7, s8, s9, s10, s11, s12⟩
        go_simp
        with_reducible rfl
      rotate_left
      · simp only [Act.put, List.setIfInBounds_toArray, List.set_cons_zero, List.set_cons_succ, i64_w, i32_w]
        rfl
      refine one_ (i := 4) (N := some 20) #[true, true, true, true, true, true, true, false, false, false, false, false, false, false, false, false, false, false] rfl rfl (one_of HT_.out (by kernel_rfl)) (by decide) (fun K hK => ?_)
      refine goes_ Try.func18 (by kernel_rfl) rfl #[.pointer (some ⟨gs0, 0, none⟩)] (by rfl) rfl rfl (by (try simp only [List.map_toArray, List.map_cons, List.map_nil]); first | done | rfl | (simp only [List.length_drop, List.length_take]; rfl)) ?_
      with_reducible refine (history_History_Open.calls gs0 s0_16 A0_17 c0_17 l0_17 t734 _ ?side1 ?side2 ?side3 A6.out).mono ?_
      (case side1 => exact bpq10 BK50.out)
      (case side2 => repeat (first | exact (Kd.C_below HR0_17.out HB.out) | (with_reducible refine Kd.C_alloc ?_ _) | (with_reducible refine Kd.C_drewN ?_ _) | (with_reducible refine Kd.C_drew ?_)))
      (case side3 => exact HC0_17.out)
      rintro e w' ⟨rfl, ⟨nd, rfl⟩⟩
      refine ⟨_, rfl, ?_⟩
      refine hK.out _ _ ⟨(blk_cell BK733.out 0).trans rfl, (blk_cell BK733.out 1).trans rfl, (blk_cell BK733.out 2).trans rfl, (blk_cell BK733.out 3).trans rfl, (blk_cell BK733.out 4).trans rfl, (blk_cell BK733.out 5).trans rfl, (blk_cell BK733.out 6).trans rfl, (blk_cell BK733.out 7).trans rfl, (blk_cell BK733.out 8).trans rfl, (blk_cell BK733.out 9).trans rfl, (blk_cell BK733.out 10).trans rfl, (blk_cell BK733.out 11).trans rfl, (blk_cell BK733.out 12).trans rfl⟩ (fun hHeld => ?_)
      clear hK K
      refine norm_ (a' := ?_) ?_ ?_
      rotate_left
      · show Act.put _ (some 20) _ = _
        simp only [Act.put, List.setIfInBounds_toArray, List.set_cons_zero, List.set_cons_succ, i64_w, i32_w]
        rfl
      refine pure_ (i := 7) (N := some 23) (v := ?_) (a' := ?_) #[true, true, true, true, true, true, true, true, false, false, false, false, false, false, false, false, false, false] rfl rfl (any_of HT_.out (by kernel_rfl)) (fun _ _ _ h => h) (Or.inl ⟨by rfl, ?_⟩) ?_ ?_
      rotate_left
      · intro w'
        go_simp
        with_reducible rfl
      rotate_left
      · simp only [Act.put, List.setIfInBounds_toArray, List.set_cons_zero, List.set_cons_succ, i64_w, i32_w]
        rfl
      refine pure_ (i := 8) (N := some 24) (v := ?_) (a' := ?_) #[true, true, true, true, true, true, true, true, true, false, false, false, false, false, false, false, false, false] rfl rfl (any_of HT_.out (by kernel_rfl)) (fun _ _ _ h => h) (Or.inl ⟨by rfl, ?_⟩) ?_ ?_
      rotate_left
      · intro w'
        go_simp
        with_reducible rfl
      rotate_left
      · simp only [Act.put, List.setIfInBounds_toArray, List.set_cons_zero, List.set_cons_succ, i64_w, i32_w]
        rfl
      refine pure_ (i := 9) (N := some 25) (v := ?_) (a' := ?_) #[true, true, true, true, true, true, true, true, true, true, false, false, false, false, false, false, false, false] rfl rfl (any_of HT_.out (by kernel_rfl)) (fun _ _ _ h => h) (Or.inl ⟨by rfl, ?_⟩) ?_ ?_
      rotate_left
      · intro w'
        go_simp
        with_reducible rfl
      rotate_left
      · simp only [Act.put, List.setIfInBounds_toArray, List.set_cons_zero, List.set_cons_succ, i64_w, i32_w]
        rfl
      refine pure_ (i := 10) (N := some 26) (v := undef) (a' := ?_) #[true, true, true, true, true, true, true, true, true, true, true, false, false, false, false, false, false, false] rfl rfl (any_of HT_.out (by kernel_rfl)) (fun _ _ _ h => h) (Or.inr ⟨by rfl, rfl⟩) ?_ ?_
      rotate_left
      · simp only [Act.put, List.setIfInBounds_toArray, List.set_cons_zero, List.set_cons_succ, i64_w, i32_w]
        rfl
      refine pure_ (i := 11) (N := some 27) (v := undef) (a' := ?_) #[true, true, true, true, true, true, true, true, true, true, true, true, false, false, false, false, false, false] rfl rfl (any_of HT_.out (by kernel_rfl)) (fun _ _ _ h => h) (Or.inr ⟨by rfl, rfl⟩) ?_ ?_
      rotate_left
      · simp only [Act.put, List.setIfInBounds_toArray, List.set_cons_zero, List.set_cons_succ, i64_w, i32_w]
        rfl
      refine pure_ (i := 12) (N := some 28) (v := undef) (a' := ?_) #[true, true, true, true, true, true, true, true, true, true, true, true, true, false, false, false, false, false] rfl rfl (any_of HT_.out (by kernel_rfl)) (fun _ _ _ h => h) (Or.inr ⟨by rfl, rfl⟩) ?_ ?_
      rotate_left
      · simp only [Act.put, List.setIfInBounds_toArray, List.set_cons_zero, List.set_cons_succ, i64_w, i32_w]
        rfl
      refine pure_ (i := 13) (N := some 29) (v := undef) (a' := ?_) #[true, true, true, true, true, true, true, true, true, true, true, true, true, true, false, false, false, false] rfl rfl (any_of HT_.out (by kernel_rfl)) (fun _ _ _ h => h) (Or.inr ⟨by rfl, rfl⟩) ?_ ?_
      rotate_left
      · simp only [Act.put, List.setIfInBounds_toArray, List.set_cons_zero, List.set_cons_succ, i64_w, i32_w]
        rfl
      refine pure_ (i := 14) (N := some 30) (v := undef) (a' := ?_) #[true, true, true, true, true, true, true, true, true, true, true, true, true, true, true, false, false, false] rfl rfl (any_of HT_.out (by kernel_rfl)) (fun _ _ _ h => h) (Or.inr ⟨by rfl, rfl⟩) ?_ ?_
      rotate_left
      · simp only [Act.put, List.setIfInBounds_toArray, List.set_cons_zero, List.set_cons_succ, i64_w, i32_w]
        rfl
      refine pure_ (i := 15) (N := some 31) (v := undef) (a' := ?_) #[true, true, true, true, true, true, true, true, true, true, true, true, true, true, true, true, false, false] rfl rfl (any_of HT_.out (by kernel_rfl)) (fun _ _ _ h => h) (Or.inr ⟨by rfl, rfl⟩) ?_ ?_
      rotate_left
      · simp only [Act.put, List.setIfInBounds_toArray, List.set_cons_zero, List.set_cons_succ, i64_w, i32_w]
        rfl
      refine pure_ (i := 16) (N := some 32) (v := undef) (a' := ?_) #[true, true, true, true, true, true, true, true, true, true, true, true, true, true, true, true, true, false] rfl rfl (any_of HT_.out (by kernel_rfl)) (fun _ _ _ h => h) (Or.inr ⟨by rfl, rfl⟩) ?_ ?_
      rotate_left
      · simp only [Act.put, List.setIfInBounds_toArray, List.set_cons_zero, List.set_cons_succ, i64_w, i32_w]
        rfl
      refine pure_ (i := 17) (N := some 33) (v := ?_) (a' := ?_) #[true, true, true, true, true, true, true, true, true, true, true, true, true, true, true, true, true, true] rfl rfl (any_of HT_.out (by kernel_rfl)) (fun _ _ _ h => h) (Or.inl ⟨by rfl, ?_⟩) ?_ ?_
      rotate_left
      · intro w'
        go_simp
        with_reducible rfl
      rotate_left
      · simp only [Act.put, List.setIfInBounds_toArray, List.set_cons_zero, List.set_cons_succ, i64_w, i32_w]
        rfl
      refine done_ (done_of HT_.out (by kernel_rfl)) ?_
      try go_wp2
      go_meet
      case rel => exact ⟨_, (true), (by first | rfl | (simp; done) | (simp [*]; done)), H', ⟨by first | omega | exact Nat.le_refl _⟩, ⟨by exact bpq10 BK0.out⟩, ⟨by exact bpq10 BK50.out⟩, ⟨by exact bpq10 BK733.out⟩, ⟨(bbq10 HB.out)⟩⟩
  case rest =>
    clear HC4
    try clear c1
    try clear c2
    try clear p2
    try clear c7
    try clear c7b0
    try clear c7b1
    obtain ⟨kq, x33_3, rfl, HA, HJ3, BK0, BK50, BK733, HB⟩ := hcut
    cases kq with
    | zero => exact absurd HA.out (by simp [terracelaw15_same.j0])
    | succ kj3 =>
      have H := HA.out
      clear HA
      simp only [terracelaw15_same.j0] at H
      by_cases c13 : x33_3 = true
      · subst c13
        have H1 : (some false) = some r := by rw [if_pos rfl] at H; exact H
        clear H
        have H := H1
        clear H1
        obtain rfl := Option.some.inj H
        go_wp2
        go_ret
        exact ⟨by first | rfl | (simp [errW_none, errW_some] <;> rfl) | (simp [*, errW_none, errW_some] <;> rfl), (bbq10 HB.out)⟩
      · replace c13 := Bool.eq_false_iff.mpr c13
        subst c13
        have H1 : ((history_History_Closed.f s0_16 l0_17).bind fun t738 => (terracelaw15_same.l0 kj3 t738 (t738.length : Int) 0 s0_0 s0_1 s0_2 s0_3 s0_4 s0_5 s0_6 s0_7 s0_8 s0_9 s0_10 s0_11 s0_12 s0_13 s0_14 s0_15 s0_18 s0_19 s0_20 s0_16 l0_17 a1_0 a1_1 a1_2 a1_3 a1_4 a1_5 a1_6 a1_7 a1_8 l1_9 a1_10 a1_11 a1_12)) = some r := by rw [if_neg (show ¬ (false = true) by decide)] at H; exact H
        clear H
        have H := H1
        clear H1
        replace H := Option.bind_eq_some_iff.mp H
        obtain ⟨t738, A140, H⟩ := H
        replace H : (terracelaw15_same.l0 kj3 t738 (t738.length : Int) 0 s0_0 s0_1 s0_2 s0_3 s0_4 s0_5 s0_6 s0_7 s0_8 s0_9 s0_10 s0_11 s0_12 s0_13 s0_14 s0_15 s0_18 s0_19 s0_20 s0_16 l0_17 a1_0 a1_1 a1_2 a1_3 a1_4 a1_5 a1_6 a1_7 a1_8 l1_9 a1_10 a1_11 a1_12) = some r := H
        have A14 := Aside0.mk A140
        clear A140
        have H' := Aside0.mk H
        clear H
        go_wp2_with (first | ((with_reducible refine gate_callee (f := 26) rfl ?_); refine goesL_ (some 35) rfl rfl Try.func26 (by kernel_rfl) rfl #[.pointer (some ⟨gs0, 0, none⟩)] rfl (by (try simp only [List.map_toArray, List.map_cons, List.map_nil]); first | done | rfl | (simp only [List.length_drop, List.length_take]; rfl)) ?_; (with_reducible refine (history_History_Closed.calls gs0 s0_16 A0_17 c0_17 l0_17 t738 _ ?side1 ?side2 ?side3 A14.out).mono ?_); (case side1 => exact bpq10 BK50.out); (case side2 => repeat (first | exact (Kd.C_below HR0_17.out HB.out) | (with_reducible refine Kd.C_alloc ?_ _) | (with_reducible refine Kd.C_drewN ?_ _) | (with_reducible refine Kd.C_drew ?_))); (case side3 => exact HC0_17.out); rintro e w15 ⟨v739, rfl, ho0, hb⟩; refine ⟨_, rfl, ?_⟩; have n0_ := Aside0.mk (Kd.R_lower ho0 (below_size ((bbq10 HB.out)))); have n1_ := Aside0.mk (blk_below (bpq10 BK0.out) hb); have n2_ := Aside0.mk (blk_below (bpq10 BK50.out) hb); have n3_ := Aside0.mk (blk_below (bpq10 BK733.out) hb); have n4_ := Aside0.mk (below_step ((bbq10 HB.out)) hb); clear BK0; clear BK50; clear BK733; clear HB; have HO740 := n0_; have BK0 := n1_; have BK50 := n2_; have BK733 := n3_; have HB := n4_; clear n0_ n1_ n2_ n3_ n4_; (try clear hb); (try clear hb2); (try clear hk); (try clear hi); (try clear ho0); obtain ⟨Ao16, co16, eo16⟩ := Kd.R_slice HO740.out; subst eo16))
        go_loopg [37] kj3 (fun kq v37 w' => ∃ (x37_2 : Int), v37 = .int .i64 x37_2 ∧ Aside0 (terracelaw15_same.l0 kq t738 (t738.length : Int) x37_2 s0_0 s0_1 s0_2 s0_3 s0_4 s0_5 s0_6 s0_7 s0_8 s0_9 s0_10 s0_11 s0_12 s0_13 s0_14 s0_15 s0_18 s0_19 s0_20 s0_16 l0_17 a1_0 a1_1 a1_2 a1_3 a1_4 a1_5 a1_6 a1_7 a1_8 l1_9 a1_10 a1_11 a1_12 = some r) ∧ Aside0 (kq ≤ kj3) ∧ Aside0 (Kd.R (Kd.int .i64) 3 w' w.heap.size (fun _ => True) (.slice Ao16 t738.length co16) t738) ∧ Aside0 (w'.heap[g]? = some (.cells #[.int .u32 s0_0, .bool s0_1, .int .u32 s0_2, .bool s0_3, .int .u32 s0_4, .bool s0_5, .int .u32 s0_6, .bool s0_7, .int .u32 s0_8, .bool s0_9, .int .u32 s0_10, .bool s0_11, .int .u32 s0_12, .bool s0_13, .int .u32 s0_14, .bool s0_15, .pointer (some ⟨gs0, 0, none⟩), .int .i64 s0_18, .int .i64 s0_19, .bool s0_20] 54 (0, 0))) ∧ Aside0 (w'.heap[gs0]? = some (.cells #[.int .i64 s0_16, (.slice A0_17 l0_17.length c0_17)] 68 (0, 0))) ∧ Aside0 (w'.heap[gb733]? = some (.cells #[.int .i64 a1_0, .int .i64 a1_1, .int .i64 a1_2, .int .i64 a1_3, .int .i64 a1_4, .int .i64 a1_5, .int .i64 a1_6, .int .i64 a1_7, .int .i64 a1_8, (.slice A1_9 l1_9.length c1_9), .int .i64 a1_10, .bool a1_11, .int .i64 a1_12] 41 (0, 0))) ∧ Aside0 (Below w.heap.size w w'))
        case atStart => exact ⟨(0), (by first | rfl | (simp; done) | (simp [*]; done)), H', ⟨Nat.le_refl _⟩, ⟨by (with_reducible repeat (first | apply Kd.R_alloc | apply Kd.R_drewN | apply Kd.R_drew)); exact HO740.out⟩, ⟨by exact bpq10 BK0.out⟩, ⟨by exact bpq10 BK50.out⟩, ⟨by exact bpq10 BK733.out⟩, ⟨(bbq10 HB.out)⟩⟩
        case round =>
          clear H'
          try clear c1
          try clear c2
          try clear p2
          try clear c7
          try clear c7b0
          try clear c7b1
          try clear c13
          try clear p2
          obtain ⟨x37_2, rfl, HA, HK2, HO_35, BK0, BK50, BK733, HB⟩ := hrel
          cases gk with
          | zero => exact absurd HA.out (by simp [terracelaw15_same.l0])
          | succ k2 =>
            have H := HA.out
            clear HA
            simp only [terracelaw15_same.l0] at H
            by_cases c17 : x37_2 < (t738.length : Int)
            · rw [if_pos c17] at H
              have c17b0 : decide (x37_2 < (t738.length : Int)) = true := decide_eq_true c17
              clear c17
              by_cases c18 : 0 ≤ x37_2
              · rw [if_pos c18] at H
                have c18b0 : decide (0 ≤ x37_2) = true := decide_eq_true c18
                clear c18
                by_cases c19 : x37_2 < (t738.length : Int)
                · rw [if_pos c19] at H
                  have c19b0 : decide (x37_2 < (t738.length : Int)) = true := decide_eq_true c19
                  clear c19
                  by_cases c20 : x37_2 < (l1_9.length : Int)
                  · rw [if_pos c20] at H
                    have c20b0 : decide (x37_2 < (l1_9.length : Int)) = true := decide_eq_true c20
                    clear c20
                    by_cases c21 : (rd t738 x37_2) = (rd l1_9 x37_2)
                    · rw [if_pos c21] at H
                      have c21b0 : ((rd t738 x37_2) == (rd l1_9 x37_2)) = true := beq_iff_eq.mpr c21
                      have c21b1 : ((rd t738 x37_2) != (rd l1_9 x37_2)) = false := bne_eq_false_iff_eq.mpr c21
                      clear c21
                      have H' := Aside0.mk H
                      clear H
                      have p741 : 0 ≤ (x37_2 : Int) := of_decide_eq_true (by first | (with_reducible assumption) | assumption)
                      have q741 : x37_2 < (t738.length : Int) := of_decide_eq_true (by first | (with_reducible assumption) | assumption)
                      obtain ⟨ad741, e741, hx741_0⟩ := Kd.at_int (Kd.R_reads' HO_35.out).2.2 x37_2 p741 q741
                      cases e741
                      replace p741 := eq_true p741
                      replace q741 := eq_true q741
                      have hnb22 := NB733_0.out
                      have hnc22 := NB0_733.out
                      have hnb23 := NB733_50.out
                      have hnc23 := NB50_733.out
                      obtain ⟨hcz24_0, hcz24_1, hcz24_2, hcz24_3, hcz24_4, hcz24_5, hcz24_6, hcz24_7, hcz24_8, hcz24_9, hcz24_10, hcz24_11, hcz24_12⟩ := bc13q10 BK733.out
                      have hfz24_0 := fun i_ => blk_frozen BK733.out i_
                      have p742 : 0 ≤ (x37_2 : Int) := of_decide_eq_true (by first | (with_reducible assumption) | assumption)
                      have q742 : x37_2 < (l1_9.length : Int) := of_decide_eq_true (by first | (with_reducible assumption) | assumption)
                      obtain ⟨ad742, e742, hx742_0⟩ := Kd.at_int HR1_9.out x37_2 p742 q742
                      cases e742
                      replace hx742_0 := (HB.out.cell (World.block_lt_of_cell? w _ hx742_0)).trans hx742_0
                      replace p742 := eq_true p742
                      replace q742 := eq_true q742
                      go_wp2
                      go_roundg k2
                      case measure => have := HJ3.out; have := HK2.out; omega
                      case rel => exact ⟨(wrap64 (x37_2 + 1)), (by first | rfl | (simp; done) | (simp [*]; done)), H', ⟨by have := HJ3.out; have := HK2.out; omega⟩, ⟨by (with_reducible repeat (first | apply Kd.R_alloc | apply Kd.R_drewN | apply Kd.R_drew)); exact HO_35.out⟩, ⟨by exact bpq10 BK0.out⟩, ⟨by exact bpq10 BK50.out⟩, ⟨by exact bpq10 BK733.out⟩, ⟨(bbq10 HB.out)⟩⟩
                    · rw [if_neg c21] at H
                      have c21b0 : ((rd t738 x37_2) == (rd l1_9 x37_2)) = false := beq_eq_false_iff_ne.mpr c21
                      have c21b1 : ((rd t738 x37_2) != (rd l1_9 x37_2)) = true := bne_iff_ne.mpr c21
                      obtain rfl := Option.some.inj H
                      have p741 : 0 ≤ (x37_2 : Int) := of_decide_eq_true (by first | (with_reducible assumption) | assumption)
                      have q741 : x37_2 < (t738.length : Int) := of_decide_eq_true (by first | (with_reducible assumption) | assumption)
                      obtain ⟨ad741, e741, hx741_0⟩ := Kd.at_int (Kd.R_reads' HO_35.out).2.2 x37_2 p741 q741
                      cases e741
                      replace p741 := eq_true p741
                      replace q741 := eq_true q741
                      have hnb25 := NB733_0.out
                      have hnc25 := NB0_733.out
                      have hnb26 := NB733_50.out
                      have hnc26 := NB50_733.out
                      obtain ⟨hcz27_0, hcz27_1, hcz27_2, hcz27_3, hcz27_4, hcz27_5, hcz27_6, hcz27_7, hcz27_8, hcz27_9, hcz27_10, hcz27_11, hcz27_12⟩ := bc13q10 BK733.out
                      have hfz27_0 := fun i_ => blk_frozen BK733.out i_
                      have p742 : 0 ≤ (x37_2 : Int) := of_decide_eq_true (by first | (with_reducible assumption) | assumption)
                      have q742 : x37_2 < (l1_9.length : Int) := of_decide_eq_true (by first | (with_reducible assumption) | assumption)
                      obtain ⟨ad742, e742, hx742_0⟩ := Kd.at_int HR1_9.out x37_2 p742 q742
                      cases e742
                      replace hx742_0 := (HB.out.cell (World.block_lt_of_cell? w _ hx742_0)).trans hx742_0
                      replace p742 := eq_true p742
                      replace q742 := eq_true q742
                      go_wp2
                      go_ret
                      exact ⟨by first | rfl | (simp [errW_none, errW_some] <;> rfl) | (simp [*, errW_none, errW_some] <;> rfl), (bbq10 HB.out)⟩
                  · rw [if_neg c20] at H
                    exact absurd H (by simp)
                · rw [if_neg c19] at H
                  exact absurd H (by simp)
              · rw [if_neg c18] at H
                exact absurd H (by simp)
            · rw [if_neg c17] at H
              have c17b0 : decide (x37_2 < (t738.length : Int)) = false := decide_eq_false c17
              clear c17
              have H' := Aside0.mk H
              clear H
              have hnb28 := NB733_0.out
              have hnc28 := NB0_733.out
              have hnb29 := NB733_50.out
              have hnc29 := NB50_733.out
              obtain ⟨hcz30_0, hcz30_1, hcz30_2, hcz30_3, hcz30_4, hcz30_5, hcz30_6, hcz30_7, hcz30_8, hcz30_9, hcz30_10, hcz30_11, hcz30_12⟩ := bc13q10 BK733.out
              have hfz30_0 := fun i_ => blk_frozen BK733.out i_
              go_wp2
              go_loopg [52] k2 (fun kq v52 w' => ∃ (x52_3 : Int), v52 = .int .i64 x52_3 ∧ Aside0 (terracelaw15_same.l1 kq x52_3 s0_0 s0_1 s0_2 s0_3 s0_4 s0_5 s0_6 s0_7 s0_8 s0_9 s0_10 s0_11 s0_12 s0_13 s0_14 s0_15 s0_18 s0_19 s0_20 s0_16 l0_17 a1_0 a1_1 a1_2 a1_3 a1_4 a1_5 a1_6 a1_7 a1_8 l1_9 a1_10 a1_11 a1_12 = some r) ∧ Aside0 (kq ≤ k2) ∧ Aside0 (w'.heap[g]? = some (.cells #[.int .u32 s0_0, .bool s0_1, .int .u32 s0_2, .bool s0_3, .int .u32 s0_4, .bool s0_5, .int .u32 s0_6, .bool s0_7, .int .u32 s0_8, .bool s0_9, .int .u32 s0_10, .bool s0_11, .int .u32 s0_12, .bool s0_13, .int .u32 s0_14, .bool s0_15, .pointer (some ⟨gs0, 0, none⟩), .int .i64 s0_18, .int .i64 s0_19, .bool s0_20] 54 (0, 0))) ∧ Aside0 (w'.heap[gs0]? = some (.cells #[.int .i64 s0_16, (.slice A0_17 l0_17.length c0_17)] 68 (0, 0))) ∧ Aside0 (w'.heap[gb733]? = some (.cells #[.int .i64 a1_0, .int .i64 a1_1, .int .i64 a1_2, .int .i64 a1_3, .int .i64 a1_4, .int .i64 a1_5, .int .i64 a1_6, .int .i64 a1_7, .int .i64 a1_8, (.slice A1_9 l1_9.length c1_9), .int .i64 a1_10, .bool a1_11, .int .i64 a1_12] 41 (0, 0))) ∧ Aside0 (Below w.heap.size w w'))
              case atStart => exact ⟨(0), (by first | rfl | (simp; done) | (simp [*]; done)), H', ⟨Nat.le_refl _⟩, ⟨by exact bpq10 BK0.out⟩, ⟨by exact bpq10 BK50.out⟩, ⟨by exact bpq10 BK733.out⟩, ⟨(bbq10 HB.out)⟩⟩
              case round =>
                clear H'
                try clear c1
                try clear c2
                try clear p2
                try clear p6
                try clear c7
                try clear c7b0
                try clear c7b1
                try clear p7
                try clear q7
                try clear hx7
                try clear c13
                try clear c17
                try clear c17b0
                try clear c18
                try clear c18b0
                try clear c19
                try clear c19b0
                try clear c20
                try clear c20b0
                try clear c21
                try clear c21b0
                try clear c21b1
                try clear c22
                try clear c23
                try clear c25
                try clear c26
                try clear c28
                try clear c29
                try clear hcz24_0 hcz24_1 hcz24_10 hcz24_11 hcz24_12 hcz24_2 hcz24_3 hcz24_4 hcz24_5 hcz24_6 hcz24_7 hcz24_8 hcz24_9
                try clear hcz27_0 hcz27_1 hcz27_10 hcz27_11 hcz27_12 hcz27_2 hcz27_3 hcz27_4 hcz27_5 hcz27_6 hcz27_7 hcz27_8 hcz27_9
                try clear hcz30_0 hcz30_1 hcz30_10 hcz30_11 hcz30_12 hcz30_2 hcz30_3 hcz30_4 hcz30_5 hcz30_6 hcz30_7 hcz30_8 hcz30_9
                try clear hfz24_0
                try clear hfz27_0
                try clear hfz30_0
                try clear hx741_0
                try clear hx742_0
                try clear p2
                try clear p741
                try clear p742
                try clear q741
                try clear q742
                obtain ⟨x52_3, rfl, HA, HK3, BK0, BK50, BK733, HB⟩ := hrel
                cases gk with
                | zero => exact absurd HA.out (by simp [terracelaw15_same.l1])
                | succ k3 =>
                  have H := HA.out
                  clear HA
                  simp only [terracelaw15_same.l1] at H
                  by_cases c31 : x52_3 < 8
                  · rw [if_pos c31] at H
                    have c31b0 : decide (x52_3 < 8) = true := decide_eq_true c31
                    clear c31
                    by_cases c32 : 0 ≤ x52_3
                    · rw [if_pos c32] at H
                      have c32b0 : decide (0 ≤ x52_3) = true := decide_eq_true c32
                      clear c32
                      have pv743 : 0 ≤ (x52_3 : Int) := of_decide_eq_true (by first | (with_reducible assumption) | assumption)
                      have qv743 : (x52_3 : Int) < 8 := of_decide_eq_true (by first | (with_reducible assumption) | assumption)
                      have hix743 : ∀ W : World, (Instr.index 38 (.agg #[.int .i64 a1_0, .int .i64 a1_1, .int .i64 a1_2, .int .i64 a1_3, .int .i64 a1_4, .int .i64 a1_5, .int .i64 a1_6, .int .i64 a1_7]) (.int .i64 x52_3)).run Try.prog W = .ok (.int .i64 (rd ([a1_0, a1_1, a1_2, a1_3, a1_4, a1_5, a1_6, a1_7] : List Int) x52_3)) W := (by (intro W; revert pv743 qv743; generalize (x52_3 : Int) = jx_; intro h0_ h1_; rcases (show jx_ = 0 ∨ jx_ = 1 ∨ jx_ = 2 ∨ jx_ = 3 ∨ jx_ = 4 ∨ jx_ = 5 ∨ jx_ = 6 ∨ jx_ = 7 from by omega) with rfl | rfl | rfl | rfl | rfl | rfl | rfl | rfl <;> first | rfl | (go_simp; done) | (go_simp; rfl)))
                      clear pv743 qv743
                      have HC33 := Aside0.mk H
                      clear H
                      go_upto_region 13 with (fail)
                      go_cut [10, 11] (fun v10 v11 wc => ∃ (kq : Nat) (x10_32 : Int) (x11_32 : Bool), v10 = .int .u32 x10_32 ∧ v11 = .bool x11_32 ∧ Aside0 (terracelaw15_same.j3 kq (rd ([a1_0, a1_1, a1_2, a1_3, a1_4, a1_5, a1_6, a1_7] : List Int) x52_3) x10_32 x11_32 x52_3 s0_0 s0_1 s0_2 s0_3 s0_4 s0_5 s0_6 s0_7 s0_8 s0_9 s0_10 s0_11 s0_12 s0_13 s0_14 s0_15 s0_18 s0_19 s0_20 s0_16 l0_17 a1_0 a1_1 a1_2 a1_3 a1_4 a1_5 a1_6 a1_7 a1_8 l1_9 a1_10 a1_11 a1_12 = some r) ∧ Aside0 (kq ≤ k3) ∧ Aside0 (wc.heap[g]? = some (.cells #[.int .u32 s0_0, .bool s0_1, .int .u32 s0_2, .bool s0_3, .int .u32 s0_4, .bool s0_5, .int .u32 s0_6, .bool s0_7, .int .u32 s0_8, .bool s0_9, .int .u32 s0_10, .bool s0_11, .int .u32 s0_12, .bool s0_13, .int .u32 s0_14, .bool s0_15, .pointer (some ⟨gs0, 0, none⟩), .int .i64 s0_18, .int .i64 s0_19, .bool s0_20] 54 (0, 0))) ∧ Aside0 (wc.heap[gs0]? = some (.cells #[.int .i64 s0_16, (.slice A0_17 l0_17.length c0_17)] 68 (0, 0))) ∧ Aside0 (wc.heap[gb733]? = some (.cells #[.int .i64 a1_0, .int .i64 a1_1, .int .i64 a1_2, .int .i64 a1_3, .int .i64 a1_4, .int .i64 a1_5, .int .i64 a1_6, .int .i64 a1_7, .int .i64 a1_8, (.slice A1_9 l1_9.length c1_9), .int .i64 a1_10, .bool a1_11, .int .i64 a1_12] 41 (0, 0))) ∧ Aside0 (Below w.heap.size w wc))
                      case first =>
                        have H := HC33.out
                        clear HC33
                        replace H := Option.bind_eq_some_iff.mp H
                        obtain ⟨⟨t744, t745⟩, A340, H⟩ := H
                        replace H : (terracelaw15_same.j3 k3 (rd ([a1_0, a1_1, a1_2, a1_3, a1_4, a1_5, a1_6, a1_7] : List Int) x52_3) t744 t745 x52_3 s0_0 s0_1 s0_2 s0_3 s0_4 s0_5 s0_6 s0_7 s0_8 s0_9 s0_10 s0_11 s0_12 s0_13 s0_14 s0_15 s0_18 s0_19 s0_20 s0_16 l0_17 a1_0 a1_1 a1_2 a1_3 a1_4 a1_5 a1_6 a1_7 a1_8 l1_9 a1_10 a1_11 a1_12) = some r := H
                        have A34 := Aside0.mk A340
                        clear A340
                        have H' := Aside0.mk H
                        clear H
                        go_wp2_with (first | ((with_reducible refine gate_callee (f := 16) rfl ?_); refine goesL_ (some 59) rfl rfl Try.func16 (by kernel_rfl) rfl #[.pointer (some ⟨g, 0, none⟩), .int .i64 x52_3] rfl (by (try simp only [List.map_toArray, List.map_cons, List.map_nil]); first | done | rfl | (simp only [List.length_drop, List.length_take]; rfl)) ?_; (with_reducible refine (detect_Detect_Expects.calls g gs0 s0_0 s0_1 s0_2 s0_3 s0_4 s0_5 s0_6 s0_7 s0_8 s0_9 s0_10 s0_11 s0_12 s0_13 s0_14 s0_15 s0_16 A0_17 c0_17 l0_17 s0_18 s0_19 s0_20 x52_3 t744 t745 _ ?side1 ?side2 ?side3 ?side4 A34.out).mono ?_); (case side1 => exact bpq10 BK0.out); (case side2 => exact bpq10 BK50.out); (case side3 => repeat (first | exact (Kd.C_below HR0_17.out HB.out) | (with_reducible refine Kd.C_alloc ?_ _) | (with_reducible refine Kd.C_drewN ?_ _) | (with_reducible refine Kd.C_drew ?_))); (case side4 => exact HC0_17.out); rintro e w' ⟨rfl, ⟨nd, rfl⟩⟩; refine ⟨_, rfl, ?_⟩))
                        go_meet
                        case rel => exact ⟨_, (t744), (t745), (by first | rfl | (simp; done) | (simp [*]; done)), (by first | rfl | (simp; done) | (simp [*]; done)), H', ⟨by have := HJ3.out; have := HK2.out; have := HK3.out; first | omega | exact Nat.le_refl _⟩, ⟨by exact bpq10 BK0.out⟩, ⟨by exact bpq10 BK50.out⟩, ⟨by exact bpq10 BK733.out⟩, ⟨(bbq10 HB.out)⟩⟩
                      case rest =>
                        clear HC33
                        try clear c1
                        try clear c2
                        try clear p2
                        try clear c3
                        try clear p6
                        try clear c7
                        try clear c7b0
                        try clear c7b1
                        try clear p7
                        try clear q7
                        try clear hx7
                        try clear c13
                        try clear c16
                        try clear c17
                        try clear c17b0
                        try clear c18
                        try clear c18b0
                        try clear c19
                        try clear c19b0
                        try clear c20
                        try clear c20b0
                        try clear c21
                        try clear c21b0
                        try clear c21b1
                        try clear c22
                        try clear c23
                        try clear c25
                        try clear c26
                        try clear c28
                        try clear c29
                        try clear c31
                        try clear c31b0
                        try clear c32
                        try clear c32b0
                        try clear hcz24_0 hcz24_1 hcz24_10 hcz24_11 hcz24_12 hcz24_2 hcz24_3 hcz24_4 hcz24_5 hcz24_6 hcz24_7 hcz24_8 hcz24_9
                        try clear hcz27_0 hcz27_1 hcz27_10 hcz27_11 hcz27_12 hcz27_2 hcz27_3 hcz27_4 hcz27_5 hcz27_6 hcz27_7 hcz27_8 hcz27_9
                        try clear hcz30_0 hcz30_1 hcz30_10 hcz30_11 hcz30_12 hcz30_2 hcz30_3 hcz30_4 hcz30_5 hcz30_6 hcz30_7 hcz30_8 hcz30_9
                        try clear hfz24_0
                        try clear hfz27_0
                        try clear hfz30_0
                        try clear hx741_0
                        try clear hx742_0
                        try clear p2
                        try clear p6
                        try clear p7
                        try clear p741
                        try clear p742
                        try clear q7
                        try clear q741
                        try clear q742
                        obtain ⟨kq, x10_32, x11_32, rfl, rfl, HA, HJ32, BK0, BK50, BK733, HB⟩ := hcut
                        cases kq with
                        | zero => exact absurd HA.out (by simp [terracelaw15_same.j3])
                        | succ kj32 =>
                          have H := HA.out
                          clear HA
                          simp only [terracelaw15_same.j3] at H
                          by_cases c35 : (x11_32 != (decide ((rd ([a1_0, a1_1, a1_2, a1_3, a1_4, a1_5, a1_6, a1_7] : List Int) x52_3) ≥ 0))) = true
                          · rw [if_pos c35] at H
                            have c35b0 : (x11_32 != (decide ((rd ([a1_0, a1_1, a1_2, a1_3, a1_4, a1_5, a1_6, a1_7] : List Int) x52_3) ≥ 0))) = true := c35
                            (try (have c35b1 : decide (x11_32 = (decide ((rd ([a1_0, a1_1, a1_2, a1_3, a1_4, a1_5, a1_6, a1_7] : List Int) x52_3) ≥ 0))) = false := by simpa using c35))
                            (try (have c35b2 : (x11_32 == (decide ((rd ([a1_0, a1_1, a1_2, a1_3, a1_4, a1_5, a1_6, a1_7] : List Int) x52_3) ≥ 0))) = false := by simpa using c35))
                            (try (have c35b3 : ¬ (x11_32 = (decide ((rd ([a1_0, a1_1, a1_2, a1_3, a1_4, a1_5, a1_6, a1_7] : List Int) x52_3) ≥ 0))) := by simpa using c35))
                            clear c35
                            obtain rfl := Option.some.inj H
                            go_wp2
                            go_ret
                            exact ⟨by first | rfl | (simp [errW_none, errW_some] <;> rfl) | (simp [*, errW_none, errW_some] <;> rfl), (bbq10 HB.out)⟩
                          · rw [if_neg c35] at H
                            have c35b0 : (x11_32 != (decide ((rd ([a1_0, a1_1, a1_2, a1_3, a1_4, a1_5, a1_6, a1_7] : List Int) x52_3) ≥ 0))) = false := by simpa using c35
                            (try (have c35b1 : decide (x11_32 = (decide ((rd ([a1_0, a1_1, a1_2, a1_3, a1_4, a1_5, a1_6, a1_7] : List Int) x52_3) ≥ 0))) = true := by simpa using c35))
                            (try (have c35b2 : (x11_32 == (decide ((rd ([a1_0, a1_1, a1_2, a1_3, a1_4, a1_5, a1_6, a1_7] : List Int) x52_3) ≥ 0))) = true := by simpa using c35))
                            clear c35
                            by_cases c36 : x11_32 = true
                            · subst c36
                              have H1 : (if (wrap64 (x10_32)) = (rd ([a1_0, a1_1, a1_2, a1_3, a1_4, a1_5, a1_6, a1_7] : List Int) x52_3) then (terracelaw15_same.l1 kj32 (wrap64 (x52_3 + 1)) s0_0 s0_1 s0_2 s0_3 s0_4 s0_5 s0_6 s0_7 s0_8 s0_9 s0_10 s0_11 s0_12 s0_13 s0_14 s0_15 s0_18 s0_19 s0_20 s0_16 l0_17 a1_0 a1_1 a1_2 a1_3 a1_4 a1_5 a1_6 a1_7 a1_8 l1_9 a1_10 a1_11 a1_12) else (some false)) = some r := by rw [if_pos rfl] at H; exact H
                              clear H
                              have H := H1
                              clear H1
                              by_cases c37 : (wrap64 (x10_32)) = (rd ([a1_0, a1_1, a1_2, a1_3, a1_4, a1_5, a1_6, a1_7] : List Int) x52_3)
                              · rw [if_pos c37] at H
                                have c37b0 : ((wrap64 (x10_32)) == (rd ([a1_0, a1_1, a1_2, a1_3, a1_4, a1_5, a1_6, a1_7] : List Int) x52_3)) = true := beq_iff_eq.mpr c37
                                have c37b1 : ((wrap64 (x10_32)) != (rd ([a1_0, a1_1, a1_2, a1_3, a1_4, a1_5, a1_6, a1_7] : List Int) x52_3)) = false := bne_eq_false_iff_eq.mpr c37
                                clear c37
                                have H' := Aside0.mk H
                                clear H
                                go_wp2
                                go_roundg kj32
                                case measure => have := HJ3.out; have := HK2.out; have := HK3.out; have := HJ32.out; omega
                                case rel => exact ⟨(wrap64 (x52_3 + 1)), (by first | rfl | (simp; done) | (simp [*]; done)), H', ⟨by have := HJ3.out; have := HK2.out; have := HK3.out; have := HJ32.out; omega⟩, ⟨by exact bpq10 BK0.out⟩, ⟨by exact bpq10 BK50.out⟩, ⟨by exact bpq10 BK733.out⟩, ⟨(bbq10 HB.out)⟩⟩
                              · rw [if_neg c37] at H
                                have c37b0 : ((wrap64 (x10_32)) == (rd ([a1_0, a1_1, a1_2, a1_3, a1_4, a1_5, a1_6, a1_7] : List Int) x52_3)) = false := beq_eq_false_iff_ne.mpr c37
                                have c37b1 : ((wrap64 (x10_32)) != (rd ([a1_0, a1_1, a1_2, a1_3, a1_4, a1_5, a1_6, a1_7] : List Int) x52_3)) = true := bne_iff_ne.mpr c37
                                obtain rfl := Option.some.inj H
                                go_wp2
                                go_ret
                                exact ⟨by first | rfl | (simp [errW_none, errW_some] <;> rfl) | (simp [*, errW_none, errW_some] <;> rfl), (bbq10 HB.out)⟩
                            · replace c36 := Bool.eq_false_iff.mpr c36
                              subst c36
                              have H1 : (if x10_32 = 0 then (terracelaw15_same.l1 kj32 (wrap64 (x52_3 + 1)) s0_0 s0_1 s0_2 s0_3 s0_4 s0_5 s0_6 s0_7 s0_8 s0_9 s0_10 s0_11 s0_12 s0_13 s0_14 s0_15 s0_18 s0_19 s0_20 s0_16 l0_17 a1_0 a1_1 a1_2 a1_3 a1_4 a1_5 a1_6 a1_7 a1_8 l1_9 a1_10 a1_11 a1_12) else (some false)) = some r := by rw [if_neg (show ¬ (false = true) by decide)] at H; exact H
                              clear H
                              have H := H1
                              clear H1
                              by_cases c38 : x10_32 = 0
                              · rw [if_pos c38] at H
                                have c38b0 : (x10_32 == 0) = true := beq_iff_eq.mpr c38
                                have c38b1 : (x10_32 != 0) = false := bne_eq_false_iff_eq.mpr c38
                                clear c38
                                have H' := Aside0.mk H
                                clear H
                                go_wp2
                                go_roundg kj32
                                case measure => have := HJ3.out; have := HK2.out; have := HK3.out; have := HJ32.out; omega
                                case rel => exact ⟨(wrap64 (x52_3 + 1)), (by first | rfl | (simp; done) | (simp [*]; done)), H', ⟨by have := HJ3.out; have := HK2.out; have := HK3.out; have := HJ32.out; omega⟩, ⟨by exact bpq10 BK0.out⟩, ⟨by exact bpq10 BK50.out⟩, ⟨by exact bpq10 BK733.out⟩, ⟨(bbq10 HB.out)⟩⟩
                              · rw [if_neg c38] at H
                                have c38b0 : (x10_32 == 0) = false := beq_eq_false_iff_ne.mpr c38
                                have c38b1 : (x10_32 != 0) = true := bne_iff_ne.mpr c38
                                obtain rfl := Option.some.inj H
                                go_wp2
                                go_ret
                                exact ⟨by first | rfl | (simp [errW_none, errW_some] <;> rfl) | (simp [*, errW_none, errW_some] <;> rfl), (bbq10 HB.out)⟩
                    · rw [if_neg c32] at H
                      exact absurd H (by simp)
                  · rw [if_neg c31] at H
                    have c31b0 : decide (x52_3 < 8) = false := decide_eq_false c31
                    clear c31
                    replace H := Option.bind_eq_some_iff.mp H
                    obtain ⟨⟨t746, t747⟩, A390, H⟩ := H
                    replace H : (if (t747 == a1_11) = true then (some (t746 == a1_10)) else (some false)) = some r := H
                    have A39 := Aside0.mk A390
                    clear A390
                    by_cases c40 : (t747 == a1_11) = true
                    · rw [if_pos c40] at H
                      have c40b0 : (t747 == a1_11) = true := c40
                      (try (have c40b1 : decide (t747 = a1_11) = true := by simpa using c40))
                      (try (have c40b2 : (t747 == a1_11) = true := by simpa using c40))
                      clear c40
                      obtain rfl := Option.some.inj H
                      go_wp2_with (first | ((with_reducible refine gate_callee (f := 27) rfl ?_); refine goesL_ (some 86) rfl rfl Try.func27 (by kernel_rfl) rfl #[.pointer (some ⟨g, 0, none⟩)] rfl (by (try simp only [List.map_toArray, List.map_cons, List.map_nil]); first | done | rfl | (simp only [List.length_drop, List.length_take]; rfl)) ?_; (with_reducible refine (detect_Detect_Begin.calls g gs0 s0_0 s0_1 s0_2 s0_3 s0_4 s0_5 s0_6 s0_7 s0_8 s0_9 s0_10 s0_11 s0_12 s0_13 s0_14 s0_15 s0_16 A0_17 c0_17 l0_17 s0_18 s0_19 s0_20 t746 t747 _ ?side1 ?side2 ?side3 ?side4 A39.out).mono ?_); (case side1 => exact bpq10 BK0.out); (case side2 => exact bpq10 BK50.out); (case side3 => repeat (first | exact (Kd.C_below HR0_17.out HB.out) | (with_reducible refine Kd.C_alloc ?_ _) | (with_reducible refine Kd.C_drewN ?_ _) | (with_reducible refine Kd.C_drew ?_))); (case side4 => exact HC0_17.out); rintro e w' ⟨rfl, ⟨nd, rfl⟩⟩; refine ⟨_, rfl, ?_⟩; have hnb41 := NB733_0.out; have hnc41 := NB0_733.out; have hnb42 := NB733_50.out; have hnc42 := NB50_733.out; obtain ⟨hcz43_0, hcz43_1, hcz43_2, hcz43_3, hcz43_4, hcz43_5, hcz43_6, hcz43_7, hcz43_8, hcz43_9, hcz43_10, hcz43_11, hcz43_12⟩ := bc13q10 BK733.out; have hfz43_0 := fun i_ => blk_frozen BK733.out i_))
                      go_ret
                      exact ⟨by first | rfl | (simp [errW_none, errW_some] <;> rfl) | (simp [*, errW_none, errW_some] <;> rfl), (bbq10 HB.out)⟩
                    · rw [if_neg c40] at H
                      have c40b0 : (t747 == a1_11) = false := by simpa using c40
                      (try (have c40b1 : decide (t747 = a1_11) = false := by simpa using c40))
                      (try (have c40b2 : (t747 == a1_11) = false := by simpa using c40))
                      (try (have c40b3 : ¬ (t747 = a1_11) := by simpa using c40))
                      clear c40
                      obtain rfl := Option.some.inj H
                      go_wp2_with (first | ((with_reducible refine gate_callee (f := 27) rfl ?_); refine goesL_ (some 86) rfl rfl Try.func27 (by kernel_rfl) rfl #[.pointer (some ⟨g, 0, none⟩)] rfl (by (try simp only [List.map_toArray, List.map_cons, List.map_nil]); first | done | rfl | (simp only [List.length_drop, List.length_take]; rfl)) ?_; (with_reducible refine (detect_Detect_Begin.calls g gs0 s0_0 s0_1 s0_2 s0_3 s0_4 s0_5 s0_6 s0_7 s0_8 s0_9 s0_10 s0_11 s0_12 s0_13 s0_14 s0_15 s0_16 A0_17 c0_17 l0_17 s0_18 s0_19 s0_20 t746 t747 _ ?side1 ?side2 ?side3 ?side4 A39.out).mono ?_); (case side1 => exact bpq10 BK0.out); (case side2 => exact bpq10 BK50.out); (case side3 => repeat (first | exact (Kd.C_below HR0_17.out HB.out) | (with_reducible refine Kd.C_alloc ?_ _) | (with_reducible refine Kd.C_drewN ?_ _) | (with_reducible refine Kd.C_drew ?_))); (case side4 => exact HC0_17.out); rintro e w' ⟨rfl, ⟨nd, rfl⟩⟩; refine ⟨_, rfl, ?_⟩; have hnb44 := NB733_0.out; have hnc44 := NB0_733.out; have hnb45 := NB733_50.out; have hnc45 := NB50_733.out; obtain ⟨hcz46_0, hcz46_1, hcz46_2, hcz46_3, hcz46_4, hcz46_5, hcz46_6, hcz46_7, hcz46_8, hcz46_9, hcz46_10, hcz46_11, hcz46_12⟩ := bc13q10 BK733.out; have hfz46_0 := fun i_ => blk_frozen BK733.out i_))
                      go_ret
                      exact ⟨by first | rfl | (simp [errW_none, errW_some] <;> rfl) | (simp [*, errW_none, errW_some] <;> rfl), (bbq10 HB.out)⟩

end Go.Proofs.Ytobipigioaoaiaa.PDetectCopies
