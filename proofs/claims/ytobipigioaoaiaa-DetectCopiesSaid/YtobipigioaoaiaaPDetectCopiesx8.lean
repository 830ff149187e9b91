-- Written by ext.sh (the session's own program, over the kit's printer) out of the translation. Lean checks it.
import Derived.Test.YtobipigioaoaiaaPDetectCopiesx0
import Derived.Test.YtobipigioaoaiaaPDetectCopiesx1
import Derived.Test.YtobipigioaoaiaaPDetectCopiesx5
import Derived.Test.YtobipigioaoaiaaPDetectCopiesx6
import Derived.Test.YtobipigioaoaiaaPDetectCopiesx7
namespace Go.Proofs.Ytobipigioaoaiaa.PDetectCopies
open Go.RowKit Go.Proofs.YtobipigioaoaiaaW.PrintWords Go.Proofs.YtobipigioaoaiaaW.PrintLast Go.Proofs.YtobipigioaoaiaaW.PrintMore
attribute [local go_sem] max2_int min2_int max_two min_two max_three min_three max_four min_four   -- for this text's walks alone
set_option linter.unusedVariables false
set_option linter.unusedSimpArgs false
theorem bpq8 {W V : World} {g : Nat} {o : Obj} (h : V.heap[g]? = some o) (e : V.heap[g]? = some o → W.heap[g]? = some o := by (intro h_; (with_reducible repeat (first | exact h_ | refine blk_drewN ?_ _ | refine blk_drew ?_ | refine blk_alloc ?_ _)); first | done | exact h_)) : W.heap[g]? = some o := e h
theorem bfq8 {W V : World} {g b : Nat} {t : TypeId} {cs : Array Value} {i : Nat} {u : Value} (hn : g ≠ b) (h : V.heap[g]? = some (.cells cs t (0, 0))) (e : (V.setCell ⟨b, i, none⟩ u).heap[g]? = some (.cells cs t (0, 0)) → W.heap[g]? = some (.cells cs t (0, 0)) := by (intro h_; (with_reducible repeat (first | exact h_ | refine blk_drewN ?_ _ | refine blk_drew ?_ | refine blk_alloc ?_ _)); first | done | exact h_)) : W.heap[g]? = some (.cells cs t (0, 0)) := e (blk_far h hn u)
theorem bzq8 {W : World} {g : Nat} {t : TypeId} {c : Array Value} (h : ∃ cs, W.heap[g]? = some (.cells cs t (0, 0)) ∧ cs = c) : W.heap[g]? = some (.cells c t (0, 0)) := by obtain ⟨_, h, rfl⟩ := h; exact h
theorem btq8 {W V : World} {g : Nat} {t : TypeId} {i : Nat} {u : Value} {P : Array Value → Prop} (h : ∃ cs, V.heap[g]? = some (.cells cs t (0, 0)) ∧ P (cs.setIfInBounds i u)) (e : ∀ cs, (V.setCell ⟨g, i, none⟩ u).heap[g]? = some (.cells cs t (0, 0)) → W.heap[g]? = some (.cells cs t (0, 0)) := by (intro cs_ h_; (with_reducible repeat (first | exact h_ | refine blk_drewN ?_ _ | refine blk_drew ?_ | refine blk_alloc ?_ _)); first | done | exact h_)) : ∃ cs, W.heap[g]? = some (.cells cs t (0, 0)) ∧ P cs := by obtain ⟨cs, h, hp⟩ := h; exact ⟨_, e _ (blk_put h i u rfl), hp⟩
theorem kkq8 {w W V : World} {S : Nat → Prop} (h : Kept w V S) (e : Kept w V S → Kept w W S := by (intro h_; (with_reducible repeat (first | exact h_ | apply Kept.alloc | apply Kept.drewN | apply Kept.drew | refine Kept.setCell ?_ (by first | exact .inl (.inr rfl) | exact .inl (.inl (.inr rfl)) | exact .inr (Aside0.out (by assumption))) _)); first | done | exact h_)) : Kept w W S := e h
theorem bbq8 {n : Nat} {w W V : World} (h : Below n w V) (e : Below n w V → Below n w W := by (intro h_; (with_reducible repeat (first | exact h_ | apply below_alloc | apply pw_below_drewN | apply below_drew1 | refine below_set ?_ (Aside0.out (by assumption)))); first | done | exact h_)) : Below n w W := e h
theorem bc3q8 {w : World} {g : Nat} {t : TypeId} {v0 v1 v2 : Value} (h : w.heap[g]? = some (.cells #[v0, v1, v2] t (0, 0))) : w.cell? ⟨g, 0, none⟩ = some v0 ∧ w.cell? ⟨g, 1, none⟩ = some v1 ∧ w.cell? ⟨g, 2, none⟩ = some v2 := ⟨(blk_cell h 0).trans rfl, (blk_cell h 1).trans rfl, (blk_cell h 2).trans rfl⟩
theorem bc5q8 {w : World} {g : Nat} {t : TypeId} {v0 v1 v2 v3 v4 : Value} (h : w.heap[g]? = some (.cells #[v0, v1, v2, v3, v4] t (0, 0))) : w.cell? ⟨g, 0, none⟩ = some v0 ∧ w.cell? ⟨g, 1, none⟩ = some v1 ∧ w.cell? ⟨g, 2, none⟩ = some v2 ∧ w.cell? ⟨g, 3, none⟩ = some v3 ∧ w.cell? ⟨g, 4, none⟩ = some v4 := ⟨(blk_cell h 0).trans rfl, (blk_cell h 1).trans rfl, (blk_cell h 2).trans rfl, (blk_cell h 3).trans rfl, (blk_cell h 4).trans rfl⟩
theorem bc13q8 {w : World} {g : Nat} {t : TypeId} {v0 v1 v2 v3 v4 v5 v6 v7 v8 v9 v10 v11 v12 : Value} (h : w.heap[g]? = some (.cells #[v0, v1, v2, v3, v4, v5, v6, v7, v8, v9, v10, v11, v12] t (0, 0))) : w.cell? ⟨g, 0, none⟩ = some v0 ∧ w.cell? ⟨g, 1, none⟩ = some v1 ∧ w.cell? ⟨g, 2, none⟩ = some v2 ∧ w.cell? ⟨g, 3, none⟩ = some v3 ∧ w.cell? ⟨g, 4, none⟩ = some v4 ∧ w.cell? ⟨g, 5, none⟩ = some v5 ∧ w.cell? ⟨g, 6, none⟩ = some v6 ∧ w.cell? ⟨g, 7, none⟩ = some v7 ∧ w.cell? ⟨g, 8, none⟩ = some v8 ∧ w.cell? ⟨g, 9, none⟩ = some v9 ∧ w.cell? ⟨g, 10, none⟩ = some v10 ∧ w.cell? ⟨g, 11, none⟩ = some v11 ∧ w.cell? ⟨g, 12, none⟩ = some v12 := ⟨(blk_cell h 0).trans rfl, (blk_cell h 1).trans rfl, (blk_cell h 2).trans rfl, (blk_cell h 3).trans rfl, (blk_cell h 4).trans rfl, (blk_cell h 5).trans rfl, (blk_cell h 6).trans rfl, (blk_cell h 7).trans rfl, (blk_cell h 8).trans rfl, (blk_cell h 9).trans rfl, (blk_cell h 10).trans rfl, (blk_cell h 11).trans rfl, (blk_cell h 12).trans rfl⟩
theorem cf13q8 {w : World} {q : Addr} {b : Nat} {i0 i1 i2 i3 i4 i5 i6 i7 i8 i9 i10 i11 i12 : Nat} {v0 v1 v2 v3 v4 v5 v6 v7 v8 v9 v10 v11 v12 : Value} {x : Option Value} (hn : q.block ≠ b) (h : w.cell? q = x) : (((((((((((((w.setCell ⟨b, i0, none⟩ v0).setCell ⟨b, i1, none⟩ v1).setCell ⟨b, i2, none⟩ v2).setCell ⟨b, i3, none⟩ v3).setCell ⟨b, i4, none⟩ v4).setCell ⟨b, i5, none⟩ v5).setCell ⟨b, i6, none⟩ v6).setCell ⟨b, i7, none⟩ v7).setCell ⟨b, i8, none⟩ v8).setCell ⟨b, i9, none⟩ v9).setCell ⟨b, i10, none⟩ v10).setCell ⟨b, i11, none⟩ v11).setCell ⟨b, i12, none⟩ v12).cell? q = x := (cell_far (p := ⟨b, _, none⟩) hn _).trans ((cell_far (p := ⟨b, _, none⟩) hn _).trans ((cell_far (p := ⟨b, _, none⟩) hn _).trans ((cell_far (p := ⟨b, _, none⟩) hn _).trans ((cell_far (p := ⟨b, _, none⟩) hn _).trans ((cell_far (p := ⟨b, _, none⟩) hn _).trans ((cell_far (p := ⟨b, _, none⟩) hn _).trans ((cell_far (p := ⟨b, _, none⟩) hn _).trans ((cell_far (p := ⟨b, _, none⟩) hn _).trans ((cell_far (p := ⟨b, _, none⟩) hn _).trans ((cell_far (p := ⟨b, _, none⟩) hn _).trans ((cell_far (p := ⟨b, _, none⟩) hn _).trans ((cell_far (p := ⟨b, _, none⟩) hn _).trans (h)))))))))))))

attribute [local go_sem high] eqA31
/-! ### terracelaw15_step: function 12 -/
def terracelaw15_step.vput8 (j v a0 a1 a2 a3 a4 a5 a6 a7 : Int) : Option (Int × Int × Int × Int × Int × Int × Int × Int) := some (if j = 0 then v else a0, if j = 1 then v else a1, if j = 2 then v else a2, if j = 3 then v else a3, if j = 4 then v else a4, if j = 5 then v else a5, if j = 6 then v else a6, if j = 7 then v else a7)
mutual
def terracelaw15_step.j0 : Nat → Bool → Int → Bool → Int → Bool → Int → Bool → Int → Bool → Int → Bool → Int → Bool → Int → Bool → Int → Bool → Int → Int → Bool → Int → List Int → Int → Int → Int → Int → Int → Int → Int → Int → Int → List Int → Int → Bool → Int → Int → Int → Int → Int → Int → Option (Int × Int × Int × Int × Int × Int × Int × Int × Int × List Int × Int × Bool × Int × Bool × Int × Bool × Int × Bool × Int × Bool × Int × Bool × Int × Bool × Int × Bool × Int × Bool × Int × Bool × Int × List Int × Int × Int × Bool)
  | 0, _, _, _, _, _, _, _, _, _, _, _, _, _, _, _, _, _, _, _, _, _, _, _, _, _, _, _, _, _, _, _, _, _, _, _, _, _, _, _, _ => none
  | k + 1, x8, x1000, x1001, x1002, x1003, x1004, x1005, x1006, x1007, x1008, x1009, x1010, x1011, x1012, x1013, x1014, x1015, x1017, x1018, x1019, x51000, x51001, x647000, x647001, x647002, x647003, x647004, x647005, x647006, x647007, x647008, x647009, x647010, x647011, x647012, x648000, x648001, x648002, x648003, x648004 => if x648000 = 1 then ((detect_Detect_Forget.f x1000 x1001 x1002 x1003 x1004 x1005 x1006 x1007 x1008 x1009 x1010 x1011 x1012 x1013 x1014 x1015 x51000 x51001 x1017 x1018 x1019 x648001).bind fun bt649 => (if x8 = true then (if 0 ≤ x648001 then (if x648001 < 8 then ((terracelaw15_step.vput8 x648001 (-1) x647000 x647001 x647002 x647003 x647004 x647005 x647006 x647007).bind fun bt673 => (some (bt673.1, bt673.2.1, bt673.2.2.1, bt673.2.2.2.1, bt673.2.2.2.2.1, bt673.2.2.2.2.2.1, bt673.2.2.2.2.2.2.1, bt673.2.2.2.2.2.2.2, x647008, x647009, x647010, x647011, x647012, true, bt649.1, bt649.2.1, bt649.2.2.1, bt649.2.2.2.1, bt649.2.2.2.2.1, bt649.2.2.2.2.2.1, bt649.2.2.2.2.2.2.1, bt649.2.2.2.2.2.2.2.1, bt649.2.2.2.2.2.2.2.2.1, bt649.2.2.2.2.2.2.2.2.2.1, bt649.2.2.2.2.2.2.2.2.2.2.1, bt649.2.2.2.2.2.2.2.2.2.2.2.1, bt649.2.2.2.2.2.2.2.2.2.2.2.2.1, bt649.2.2.2.2.2.2.2.2.2.2.2.2.2.1, bt649.2.2.2.2.2.2.2.2.2.2.2.2.2.2.1, bt649.2.2.2.2.2.2.2.2.2.2.2.2.2.2.2.1, bt649.2.2.2.2.2.2.2.2.2.2.2.2.2.2.2.2.1, bt649.2.2.2.2.2.2.2.2.2.2.2.2.2.2.2.2.2.1, bt649.2.2.2.2.2.2.2.2.2.2.2.2.2.2.2.2.2.2.1, bt649.2.2.2.2.2.2.2.2.2.2.2.2.2.2.2.2.2.2.2.1, bt649.2.2.2.2.2.2.2.2.2.2.2.2.2.2.2.2.2.2.2.2))) else (none)) else (none)) else (some (x647000, x647001, x647002, x647003, x647004, x647005, x647006, x647007, x647008, x647009, x647010, x647011, x647012, true, bt649.1, bt649.2.1, bt649.2.2.1, bt649.2.2.2.1, bt649.2.2.2.2.1, bt649.2.2.2.2.2.1, bt649.2.2.2.2.2.2.1, bt649.2.2.2.2.2.2.2.1, bt649.2.2.2.2.2.2.2.2.1, bt649.2.2.2.2.2.2.2.2.2.1, bt649.2.2.2.2.2.2.2.2.2.2.1, bt649.2.2.2.2.2.2.2.2.2.2.2.1, bt649.2.2.2.2.2.2.2.2.2.2.2.2.1, bt649.2.2.2.2.2.2.2.2.2.2.2.2.2.1, bt649.2.2.2.2.2.2.2.2.2.2.2.2.2.2.1, bt649.2.2.2.2.2.2.2.2.2.2.2.2.2.2.2.1, bt649.2.2.2.2.2.2.2.2.2.2.2.2.2.2.2.2.1, bt649.2.2.2.2.2.2.2.2.2.2.2.2.2.2.2.2.2.1, bt649.2.2.2.2.2.2.2.2.2.2.2.2.2.2.2.2.2.2.1, bt649.2.2.2.2.2.2.2.2.2.2.2.2.2.2.2.2.2.2.2.1, bt649.2.2.2.2.2.2.2.2.2.2.2.2.2.2.2.2.2.2.2.2)))) else ((detect_Detect_On.f k x1000 x1001 x1002 x1003 x1004 x1005 x1006 x1007 x1008 x1009 x1010 x1011 x1012 x1013 x1014 x1015 x51000 x51001 x1017 x1018 x1019 x648001 x648002 (wrap64 (x647012 + (mn (mx x648003 (-5)) 1048576))) x648004).bind fun bt681 => (if x8 = true then ((terracelaw15_within.f (wrap64 (x647012 + (mn (mx x648003 (-5)) 1048576)))).bind fun t709 => (if t709 = true then ((terracelaw15_within.f x648004).bind fun t710 => (terracelaw15_step.j1 k (wrap64 (x647012 + (mn (mx x648003 (-5)) 1048576))) bt681.2.2.2.1 (!t710) bt681.2.2.2.2.1 bt681.2.2.2.2.2.1 bt681.2.2.2.2.2.2.1 bt681.2.2.2.2.2.2.2.1 bt681.2.2.2.2.2.2.2.2.1 bt681.2.2.2.2.2.2.2.2.2.1 bt681.2.2.2.2.2.2.2.2.2.2.1 bt681.2.2.2.2.2.2.2.2.2.2.2.1 bt681.2.2.2.2.2.2.2.2.2.2.2.2.1 bt681.2.2.2.2.2.2.2.2.2.2.2.2.2.1 bt681.2.2.2.2.2.2.2.2.2.2.2.2.2.2.1 bt681.2.2.2.2.2.2.2.2.2.2.2.2.2.2.2.1 bt681.2.2.2.2.2.2.2.2.2.2.2.2.2.2.2.2.1 bt681.2.2.2.2.2.2.2.2.2.2.2.2.2.2.2.2.2.1 bt681.2.2.2.2.2.2.2.2.2.2.2.2.2.2.2.2.2.2.1 bt681.2.2.2.2.2.2.2.2.2.2.2.2.2.2.2.2.2.2.2.1 bt681.2.2.2.2.2.2.2.2.2.2.2.2.2.2.2.2.2.2.2.2.2.2.1 bt681.2.2.2.2.2.2.2.2.2.2.2.2.2.2.2.2.2.2.2.2.2.2.2.1 bt681.2.2.2.2.2.2.2.2.2.2.2.2.2.2.2.2.2.2.2.2.2.2.2.2 bt681.2.2.2.2.2.2.2.2.2.2.2.2.2.2.2.2.2.2.2.2.1 bt681.2.2.2.2.2.2.2.2.2.2.2.2.2.2.2.2.2.2.2.2.2.1 x647000 x647001 x647002 x647003 x647004 x647005 x647006 x647007 x647008 x647009 x647010 x647011 x647012 x648000 x648001 x648002 x648003 x648004 bt681.1 bt681.2.1 bt681.2.2.1)) else (terracelaw15_step.j1 k (wrap64 (x647012 + (mn (mx x648003 (-5)) 1048576))) bt681.2.2.2.1 true bt681.2.2.2.2.1 bt681.2.2.2.2.2.1 bt681.2.2.2.2.2.2.1 bt681.2.2.2.2.2.2.2.1 bt681.2.2.2.2.2.2.2.2.1 bt681.2.2.2.2.2.2.2.2.2.1 bt681.2.2.2.2.2.2.2.2.2.2.1 bt681.2.2.2.2.2.2.2.2.2.2.2.1 bt681.2.2.2.2.2.2.2.2.2.2.2.2.1 bt681.2.2.2.2.2.2.2.2.2.2.2.2.2.1 bt681.2.2.2.2.2.2.2.2.2.2.2.2.2.2.1 bt681.2.2.2.2.2.2.2.2.2.2.2.2.2.2.2.1 bt681.2.2.2.2.2.2.2.2.2.2.2.2.2.2.2.2.1 bt681.2.2.2.2.2.2.2.2.2.2.2.2.2.2.2.2.2.1 bt681.2.2.2.2.2.2.2.2.2.2.2.2.2.2.2.2.2.2.1 bt681.2.2.2.2.2.2.2.2.2.2.2.2.2.2.2.2.2.2.2.1 bt681.2.2.2.2.2.2.2.2.2.2.2.2.2.2.2.2.2.2.2.2.2.2.1 bt681.2.2.2.2.2.2.2.2.2.2.2.2.2.2.2.2.2.2.2.2.2.2.2.1 bt681.2.2.2.2.2.2.2.2.2.2.2.2.2.2.2.2.2.2.2.2.2.2.2.2 bt681.2.2.2.2.2.2.2.2.2.2.2.2.2.2.2.2.2.2.2.2.1 bt681.2.2.2.2.2.2.2.2.2.2.2.2.2.2.2.2.2.2.2.2.2.1 x647000 x647001 x647002 x647003 x647004 x647005 x647006 x647007 x647008 x647009 x647010 x647011 x647012 x648000 x648001 x648002 x648003 x648004 bt681.1 bt681.2.1 bt681.2.2.1))) else (terracelaw15_step.j1 k (wrap64 (x647012 + (mn (mx x648003 (-5)) 1048576))) bt681.2.2.2.1 true bt681.2.2.2.2.1 bt681.2.2.2.2.2.1 bt681.2.2.2.2.2.2.1 bt681.2.2.2.2.2.2.2.1 bt681.2.2.2.2.2.2.2.2.1 bt681.2.2.2.2.2.2.2.2.2.1 bt681.2.2.2.2.2.2.2.2.2.2.1 bt681.2.2.2.2.2.2.2.2.2.2.2.1 bt681.2.2.2.2.2.2.2.2.2.2.2.2.1 bt681.2.2.2.2.2.2.2.2.2.2.2.2.2.1 bt681.2.2.2.2.2.2.2.2.2.2.2.2.2.2.1 bt681.2.2.2.2.2.2.2.2.2.2.2.2.2.2.2.1 bt681.2.2.2.2.2.2.2.2.2.2.2.2.2.2.2.2.1 bt681.2.2.2.2.2.2.2.2.2.2.2.2.2.2.2.2.2.1 bt681.2.2.2.2.2.2.2.2.2.2.2.2.2.2.2.2.2.2.1 bt681.2.2.2.2.2.2.2.2.2.2.2.2.2.2.2.2.2.2.2.1 bt681.2.2.2.2.2.2.2.2.2.2.2.2.2.2.2.2.2.2.2.2.2.2.1 bt681.2.2.2.2.2.2.2.2.2.2.2.2.2.2.2.2.2.2.2.2.2.2.2.1 bt681.2.2.2.2.2.2.2.2.2.2.2.2.2.2.2.2.2.2.2.2.2.2.2.2 bt681.2.2.2.2.2.2.2.2.2.2.2.2.2.2.2.2.2.2.2.2.1 bt681.2.2.2.2.2.2.2.2.2.2.2.2.2.2.2.2.2.2.2.2.2.1 x647000 x647001 x647002 x647003 x647004 x647005 x647006 x647007 x647008 x647009 x647010 x647011 x647012 x648000 x648001 x648002 x648003 x648004 bt681.1 bt681.2.1 bt681.2.2.1)))
def terracelaw15_step.j1 : Nat → Int → Int → Bool → Int → Bool → Int → Bool → Int → Bool → Int → Bool → Int → Bool → Int → Bool → Int → Bool → Int → Bool → Int → Int → Bool → Int → List Int → Int → Int → Int → Int → Int → Int → Int → Int → Int → List Int → Int → Bool → Int → Int → Int → Int → Int → Int → Int → Bool → Bool → Option (Int × Int × Int × Int × Int × Int × Int × Int × Int × List Int × Int × Bool × Int × Bool × Int × Bool × Int × Bool × Int × Bool × Int × Bool × Int × Bool × Int × Bool × Int × Bool × Int × Bool × Int × List Int × Int × Int × Bool)
  | 0, _, _, _, _, _, _, _, _, _, _, _, _, _, _, _, _, _, _, _, _, _, _, _, _, _, _, _, _, _, _, _, _, _, _, _, _, _, _, _, _, _, _, _, _, _ => none
  | k + 1, x9, x11, x56, x1000, x1001, x1002, x1003, x1004, x1005, x1006, x1007, x1008, x1009, x1010, x1011, x1012, x1013, x1014, x1015, x1017, x1018, x1019, x51000, x51001, x647000, x647001, x647002, x647003, x647004, x647005, x647006, x647007, x647008, x647009, x647010, x647011, x647012, x648000, x648001, x648002, x648003, x648004, x709000, x709001, x709002 => if x56 = true then (if x11 = 11 then (some (x647000, x647001, x647002, x647003, x647004, x647005, x647006, x647007, x647008, x647009, x647010, x647011, x647012, (x709000 == 0 && (!x709001 && (!x709002))), x1000, x1001, x1002, x1003, x1004, x1005, x1006, x1007, x1008, x1009, x1010, x1011, x1012, x1013, x1014, x1015, x51000, x51001, x1017, x1018, x1019)) else (some (x647000, x647001, x647002, x647003, x647004, x647005, x647006, x647007, x647008, x647009, x647010, x647011, x647012, false, x1000, x1001, x1002, x1003, x1004, x1005, x1006, x1007, x1008, x1009, x1010, x1011, x1012, x1013, x1014, x1015, x51000, x51001, x1017, x1018, x1019))) else (if x9 < x647012 then (if x11 = 23 then (some (x647000, x647001, x647002, x647003, x647004, x647005, x647006, x647007, x647008, x647009, x647010, x647011, x647012, (x709000 == 0 && (!x709001 && (!x709002))), x1000, x1001, x1002, x1003, x1004, x1005, x1006, x1007, x1008, x1009, x1010, x1011, x1012, x1013, x1014, x1015, x51000, x51001, x1017, x1018, x1019)) else (some (x647000, x647001, x647002, x647003, x647004, x647005, x647006, x647007, x647008, x647009, x647010, x647011, x647012, false, x1000, x1001, x1002, x1003, x1004, x1005, x1006, x1007, x1008, x1009, x1010, x1011, x1012, x1013, x1014, x1015, x51000, x51001, x1017, x1018, x1019))) else ((terraceref15_On.f k x647000 x647001 x647002 x647003 x647004 x647005 x647006 x647007 x647008 x647009 x647010 x647011 x647012 x648001 x648002 x9 x648004).bind fun bt711 => (if x11 = 0 then (some (bt711.1, bt711.2.1, bt711.2.2.1, bt711.2.2.2.1, bt711.2.2.2.2.1, bt711.2.2.2.2.2.1, bt711.2.2.2.2.2.2.1, bt711.2.2.2.2.2.2.2.1, bt711.2.2.2.2.2.2.2.2.1, bt711.2.2.2.2.2.2.2.2.2.1, bt711.2.2.2.2.2.2.2.2.2.2.1, bt711.2.2.2.2.2.2.2.2.2.2.2.1, bt711.2.2.2.2.2.2.2.2.2.2.2.2.1, (x709000 == bt711.2.2.2.2.2.2.2.2.2.2.2.2.2.1 && (x709001 == bt711.2.2.2.2.2.2.2.2.2.2.2.2.2.2.1 && (x709002 == bt711.2.2.2.2.2.2.2.2.2.2.2.2.2.2.2))), x1000, x1001, x1002, x1003, x1004, x1005, x1006, x1007, x1008, x1009, x1010, x1011, x1012, x1013, x1014, x1015, x51000, x51001, x1017, x1018, x1019)) else (some (bt711.1, bt711.2.1, bt711.2.2.1, bt711.2.2.2.1, bt711.2.2.2.2.1, bt711.2.2.2.2.2.1, bt711.2.2.2.2.2.2.1, bt711.2.2.2.2.2.2.2.1, bt711.2.2.2.2.2.2.2.2.1, bt711.2.2.2.2.2.2.2.2.2.1, bt711.2.2.2.2.2.2.2.2.2.2.1, bt711.2.2.2.2.2.2.2.2.2.2.2.1, bt711.2.2.2.2.2.2.2.2.2.2.2.2.1, false, x1000, x1001, x1002, x1003, x1004, x1005, x1006, x1007, x1008, x1009, x1010, x1011, x1012, x1013, x1014, x1015, x51000, x51001, x1017, x1018, x1019)))))
end
def terracelaw15_step.f (k : Nat) (s0_0 : Int) (s0_1 : Bool) (s0_2 : Int) (s0_3 : Bool) (s0_4 : Int) (s0_5 : Bool) (s0_6 : Int) (s0_7 : Bool) (s0_8 : Int) (s0_9 : Bool) (s0_10 : Int) (s0_11 : Bool) (s0_12 : Int) (s0_13 : Bool) (s0_14 : Int) (s0_15 : Bool) (s0_16 : Int) (l0_17 : List Int) (s0_18 : Int) (s0_19 : Int) (s0_20 : Bool) (a1_0 : Int) (a1_1 : Int) (a1_2 : Int) (a1_3 : Int) (a1_4 : Int) (a1_5 : Int) (a1_6 : Int) (a1_7 : Int) (a1_8 : Int) (l1_9 : List Int) (a1_10 : Int) (a1_11 : Bool) (a1_12 : Int) (a2_0 : Int) (a2_1 : Int) (a2_2 : Int) (a2_3 : Int) (a2_4 : Int) : Option (Int × Int × Int × Int × Int × Int × Int × Int × Int × List Int × Int × Bool × Int × Bool × Int × Bool × Int × Bool × Int × Bool × Int × Bool × Int × Bool × Int × Bool × Int × Bool × Int × Bool × Int × List Int × Int × Int × Bool) := if a2_1 ≥ 0 then (terracelaw15_step.j0 k (decide (a2_1 < 8)) s0_0 s0_1 s0_2 s0_3 s0_4 s0_5 s0_6 s0_7 s0_8 s0_9 s0_10 s0_11 s0_12 s0_13 s0_14 s0_15 s0_18 s0_19 s0_20 s0_16 l0_17 a1_0 a1_1 a1_2 a1_3 a1_4 a1_5 a1_6 a1_7 a1_8 l1_9 a1_10 a1_11 a1_12 a2_0 a2_1 a2_2 a2_3 a2_4) else (terracelaw15_step.j0 k false s0_0 s0_1 s0_2 s0_3 s0_4 s0_5 s0_6 s0_7 s0_8 s0_9 s0_10 s0_11 s0_12 s0_13 s0_14 s0_15 s0_18 s0_19 s0_20 s0_16 l0_17 a1_0 a1_1 a1_2 a1_3 a1_4 a1_5 a1_6 a1_7 a1_8 l1_9 a1_10 a1_11 a1_12 a2_0 a2_1 a2_2 a2_3 a2_4)
theorem terracelaw15_step.mono_l : ∀ k, (∀ y0 y1 y2 y3 y4 y5 y6 y7 y8 y9 y10 y11 y12 y13 y14 y15 y16 y17 y18 y19 y20 y21 y22 y23 y24 y25 y26 y27 y28 y29 y30 y31 y32 y33 y34 y35 y36 y37 y38 y39, LeO (terracelaw15_step.j0 k y0 y1 y2 y3 y4 y5 y6 y7 y8 y9 y10 y11 y12 y13 y14 y15 y16 y17 y18 y19 y20 y21 y22 y23 y24 y25 y26 y27 y28 y29 y30 y31 y32 y33 y34 y35 y36 y37 y38 y39) (terracelaw15_step.j0 (k + 1) y0 y1 y2 y3 y4 y5 y6 y7 y8 y9 y10 y11 y12 y13 y14 y15 y16 y17 y18 y19 y20 y21 y22 y23 y24 y25 y26 y27 y28 y29 y30 y31 y32 y33 y34 y35 y36 y37 y38 y39)) ∧ (∀ y0 y1 y2 y3 y4 y5 y6 y7 y8 y9 y10 y11 y12 y13 y14 y15 y16 y17 y18 y19 y20 y21 y22 y23 y24 y25 y26 y27 y28 y29 y30 y31 y32 y33 y34 y35 y36 y37 y38 y39 y40 y41 y42 y43 y44, LeO (terracelaw15_step.j1 k y0 y1 y2 y3 y4 y5 y6 y7 y8 y9 y10 y11 y12 y13 y14 y15 y16 y17 y18 y19 y20 y21 y22 y23 y24 y25 y26 y27 y28 y29 y30 y31 y32 y33 y34 y35 y36 y37 y38 y39 y40 y41 y42 y43 y44) (terracelaw15_step.j1 (k + 1) y0 y1 y2 y3 y4 y5 y6 y7 y8 y9 y10 y11 y12 y13 y14 y15 y16 y17 y18 y19 y20 y21 y22 y23 y24 y25 y26 y27 y28 y29 y30 y31 y32 y33 y34 y35 y36 y37 y38 y39 y40 y41 y42 y43 y44))
  | 0 => ⟨fun _ _ _ _ _ _ _ _ _ _ _ _ _ _ _ _ _ _ _ _ _ _ _ _ _ _ _ _ _ _ _ _ _ _ _ _ _ _ _ _ r h => by simp [terracelaw15_step.j0] at h, fun _ _ _ _ _ _ _ _ _ _ _ _ _ _ _ _ _ _ _ _ _ _ _ _ _ _ _ _ _ _ _ _ _ _ _ _ _ _ _ _ _ _ _ _ _ r h => by simp [terracelaw15_step.j1] at h⟩
  | k + 1 => by
    obtain ⟨ih0, ih1⟩ := terracelaw15_step.mono_l k
    refine ⟨?_, ?_⟩
    · intro y0 y1 y2 y3 y4 y5 y6 y7 y8 y9 y10 y11 y12 y13 y14 y15 y16 y17 y18 y19 y20 y21 y22 y23 y24 y25 y26 y27 y28 y29 y30 y31 y32 y33 y34 y35 y36 y37 y38 y39
      unfold terracelaw15_step.j0
      repeat' first
      | (with_reducible exact ih0 _ _ _ _ _ _ _ _ _ _ _ _ _ _ _ _ _ _ _ _ _ _ _ _ _ _ _ _ _ _ _ _ _ _ _ _ _ _ _ _)
      | (with_reducible exact ih1 _ _ _ _ _ _ _ _ _ _ _ _ _ _ _ _ _ _ _ _ _ _ _ _ _ _ _ _ _ _ _ _ _ _ _ _ _ _ _ _ _ _ _ _ _)
      | (with_reducible exact detect_Detect_On.mono _ _ _ _ _ _ _ _ _ _ _ _ _ _ _ _ _ _ _ _ _ _ _ _ _ _)
      | (with_reducible exact terraceref15_On.mono _ _ _ _ _ _ _ _ _ _ _ _ _ _ _ _ _ _)
      | (with_reducible exact LeO.refl _)
      | (with_reducible exact LeO.none _)
      | (with_reducible refine LeO.ite ?_ ?_)
      | (with_reducible refine LeO.bind ?_ (fun _ => ?_))
      | exact ih0 _ _ _ _ _ _ _ _ _ _ _ _ _ _ _ _ _ _ _ _ _ _ _ _ _ _ _ _ _ _ _ _ _ _ _ _ _ _ _ _
      | exact ih1 _ _ _ _ _ _ _ _ _ _ _ _ _ _ _ _ _ _ _ _ _ _ _ _ _ _ _ _ _ _ _ _ _ _ _ _ _ _ _ _ _ _ _ _ _
      | exact detect_Detect_On.mono _ _ _ _ _ _ _ _ _ _ _ _ _ _ _ _ _ _ _ _ _ _ _ _ _ _
      | exact terraceref15_On.mono _ _ _ _ _ _ _ _ _ _ _ _ _ _ _ _ _ _
      | exact LeO.none _
      | refine LeO.ite ?_ ?_
      | refine LeO.bind ?_ (fun _ => ?_)
    · intro y0 y1 y2 y3 y4 y5 y6 y7 y8 y9 y10 y11 y12 y13 y14 y15 y16 y17 y18 y19 y20 y21 y22 y23 y24 y25 y26 y27 y28 y29 y30 y31 y32 y33 y34 y35 y36 y37 y38 y39 y40 y41 y42 y43 y44
      unfold terracelaw15_step.j1
      repeat' first
      | (with_reducible exact ih0 _ _ _ _ _ _ _ _ _ _ _ _ _ _ _ _ _ _ _ _ _ _ _ _ _ _ _ _ _ _ _ _ _ _ _ _ _ _ _ _)
      | (with_reducible exact ih1 _ _ _ _ _ _ _ _ _ _ _ _ _ _ _ _ _ _ _ _ _ _ _ _ _ _ _ _ _ _ _ _ _ _ _ _ _ _ _ _ _ _ _ _ _)
      | (with_reducible exact detect_Detect_On.mono _ _ _ _ _ _ _ _ _ _ _ _ _ _ _ _ _ _ _ _ _ _ _ _ _ _)
      | (with_reducible exact terraceref15_On.mono _ _ _ _ _ _ _ _ _ _ _ _ _ _ _ _ _ _)
      | (with_reducible exact LeO.refl _)
      | (with_reducible exact LeO.none _)
      | (with_reducible refine LeO.ite ?_ ?_)
      | (with_reducible refine LeO.bind ?_ (fun _ => ?_))
      | exact ih0 _ _ _ _ _ _ _ _ _ _ _ _ _ _ _ _ _ _ _ _ _ _ _ _ _ _ _ _ _ _ _ _ _ _ _ _ _ _ _ _
      | exact ih1 _ _ _ _ _ _ _ _ _ _ _ _ _ _ _ _ _ _ _ _ _ _ _ _ _ _ _ _ _ _ _ _ _ _ _ _ _ _ _ _ _ _ _ _ _
      | exact detect_Detect_On.mono _ _ _ _ _ _ _ _ _ _ _ _ _ _ _ _ _ _ _ _ _ _ _ _ _ _
      | exact terraceref15_On.mono _ _ _ _ _ _ _ _ _ _ _ _ _ _ _ _ _ _
      | exact LeO.none _
      | refine LeO.ite ?_ ?_
      | refine LeO.bind ?_ (fun _ => ?_)
theorem terracelaw15_step.mono : ∀ a0 a1 a2 a3 a4 a5 a6 a7 a8 a9 a10 a11 a12 a13 a14 a15 a16 a17 a18 a19 a20 a21 a22 a23 a24 a25 a26 a27 a28 a29 a30 a31 a32 a33 a34 a35 a36 a37 a38 k, LeO (terracelaw15_step.f k a0 a1 a2 a3 a4 a5 a6 a7 a8 a9 a10 a11 a12 a13 a14 a15 a16 a17 a18 a19 a20 a21 a22 a23 a24 a25 a26 a27 a28 a29 a30 a31 a32 a33 a34 a35 a36 a37 a38) (terracelaw15_step.f (k + 1) a0 a1 a2 a3 a4 a5 a6 a7 a8 a9 a10 a11 a12 a13 a14 a15 a16 a17 a18 a19 a20 a21 a22 a23 a24 a25 a26 a27 a28 a29 a30 a31 a32 a33 a34 a35 a36 a37 a38) := by
  intro a0 a1 a2 a3 a4 a5 a6 a7 a8 a9 a10 a11 a12 a13 a14 a15 a16 a17 a18 a19 a20 a21 a22 a23 a24 a25 a26 a27 a28 a29 a30 a31 a32 a33 a34 a35 a36 a37 a38 k
  obtain ⟨ih0, ih1⟩ := terracelaw15_step.mono_l k
  unfold terracelaw15_step.f
  repeat' first
      | (with_reducible exact ih0 _ _ _ _ _ _ _ _ _ _ _ _ _ _ _ _ _ _ _ _ _ _ _ _ _ _ _ _ _ _ _ _ _ _ _ _ _ _ _ _)
      | (with_reducible exact ih1 _ _ _ _ _ _ _ _ _ _ _ _ _ _ _ _ _ _ _ _ _ _ _ _ _ _ _ _ _ _ _ _ _ _ _ _ _ _ _ _ _ _ _ _ _)
      | (with_reducible exact detect_Detect_On.mono _ _ _ _ _ _ _ _ _ _ _ _ _ _ _ _ _ _ _ _ _ _ _ _ _ _)
      | (with_reducible exact terraceref15_On.mono _ _ _ _ _ _ _ _ _ _ _ _ _ _ _ _ _ _)
      | (with_reducible exact LeO.refl _)
      | (with_reducible exact LeO.none _)
      | (with_reducible refine LeO.ite ?_ ?_)
      | (with_reducible refine LeO.bind ?_ (fun _ => ?_))
      | exact ih0 _ _ _ _ _ _ _ _ _ _ _ _ _ _ _ _ _ _ _ _ _ _ _ _ _ _ _ _ _ _ _ _ _ _ _ _ _ _ _ _
      | exact ih1 _ _ _ _ _ _ _ _ _ _ _ _ _ _ _ _ _ _ _ _ _ _ _ _ _ _ _ _ _ _ _ _ _ _ _ _ _ _ _ _ _ _ _ _ _
      | exact detect_Detect_On.mono _ _ _ _ _ _ _ _ _ _ _ _ _ _ _ _ _ _ _ _ _ _ _ _ _ _
      | exact terraceref15_On.mono _ _ _ _ _ _ _ _ _ _ _ _ _ _ _ _ _ _
      | exact LeO.none _
      | refine LeO.ite ?_ ?_
      | refine LeO.bind ?_ (fun _ => ?_)
def terracelaw15_step.T10 : Bool × List (List Nat × List Nat) := (true, [([], []), ([], []), ([1], [1]), ([2], [2]), ([3], [3]), ([3], [3]), ([4, 5, 3], [3, 4, 5]), ([3, 6], [3, 6]), ([0, 3, 0], [0]), ([7, 8, 0, 1, 2, 3, 4, 5, 6, 7, 8], [7])])
def terracelaw15_step.B10 : List Nat := [0, 0, 2, 6, 14, 14, 62, 126, 15, 511]
theorem terracelaw15_step.tab10 : rtab .any (opsOf Try.f12 10) = terracelaw15_step.T10 := by kernel_rfl
theorem terracelaw15_step.bits10 : waitsOk terracelaw15_step.T10.2 terracelaw15_step.B10 = true := by kernel_rfl
def terracelaw15_step.T12 : Bool × List (List Nat × List Nat) := (true, [([], []), ([], []), ([1], [1]), ([2], [2]), ([3], [3]), ([3], [3]), ([4, 5, 3], [3, 4, 5]), ([3, 6], [3, 6]), ([0, 3, 0], [0]), ([7, 8, 0, 1, 2, 3, 4, 5, 6, 7, 8], [7])])
def terracelaw15_step.B12 : List Nat := [0, 0, 2, 6, 14, 14, 62, 126, 15, 511]
theorem terracelaw15_step.tab12 : rtab .any (opsOf Try.f12 12) = terracelaw15_step.T12 := by kernel_rfl
theorem terracelaw15_step.bits12 : waitsOk terracelaw15_step.T12.2 terracelaw15_step.B12 = true := by kernel_rfl
def terracelaw15_step.T14 : Bool × List (List Nat × List Nat) := (true, [([], []), ([], []), ([1], [1]), ([2], [2]), ([3], [3]), ([3], [3]), ([3], [3]), ([3], [3]), ([5, 6, 7, 3], [3, 5, 6, 7]), ([4, 8, 3], [3, 4, 8]), ([3, 9], [3, 9]), ([0, 3, 0], [0]), ([10, 11, 0, 1, 2, 3, 4, 5, 6, 7, 8, 9, 10, 11], [10])])
def terracelaw15_step.B14 : List Nat := [0, 0, 2, 6, 14, 14, 14, 14, 238, 510, 1022, 15, 4095]
theorem terracelaw15_step.tab14 : rtab .any (opsOf Try.f12 14) = terracelaw15_step.T14 := by kernel_rfl
theorem terracelaw15_step.bits14 : waitsOk terracelaw15_step.T14.2 terracelaw15_step.B14 = true := by kernel_rfl
set_option maxHeartbeats 8000000 in
set_option maxRecDepth 100000 in
theorem terracelaw15_step.calls (k : Nat) (g : Nat) (gs0 : Nat) (s0_0 : Int) (s0_1 : Bool) (s0_2 : Int) (s0_3 : Bool) (s0_4 : Int) (s0_5 : Bool) (s0_6 : Int) (s0_7 : Bool) (s0_8 : Int) (s0_9 : Bool) (s0_10 : Int) (s0_11 : Bool) (s0_12 : Int) (s0_13 : Bool) (s0_14 : Int) (s0_15 : Bool) (s0_16 : Int) (P0_17_ : Nat → Prop) (u9000_ : Value) (l0_17 : List Int) (s0_18 : Int) (s0_19 : Int) (s0_20 : Bool) (a1_0 : Int) (a1_1 : Int) (a1_2 : Int) (a1_3 : Int) (a1_4 : Int) (a1_5 : Int) (a1_6 : Int) (a1_7 : Int) (a1_8 : Int) (P1_9_ : Nat → Prop) (u9001_ : Value) (l1_9 : List Int) (a1_10 : Int) (a1_11 : Bool) (a1_12 : Int) (a2_0 : Int) (a2_1 : Int) (a2_2 : Int) (a2_3 : Int) (a2_4 : Int) (r1 : Int) (r2 : Int) (r3 : Int) (r4 : Int) (r5 : Int) (r6 : Int) (r7 : Int) (r8 : Int) (r9 : Int) (r10 : List Int) (r11 : Int) (r12 : Bool) (r13 : Int) (r14 : Bool) (r15 : Int) (r16 : Bool) (r17 : Int) (r18 : Bool) (r19 : Int) (r20 : Bool) (r21 : Int) (r22 : Bool) (r23 : Int) (r24 : Bool) (r25 : Int) (r26 : Bool) (r27 : Int) (r28 : Bool) (r29 : Int) (r30 : Bool) (r31 : Int) (r32 : List Int) (r33 : Int) (r34 : Int) (r35 : Bool) (w0 w : World) (hI : w.heap[g]? = some (.cells #[.int .u32 s0_0, .bool s0_1, .int .u32 s0_2, .bool s0_3, .int .u32 s0_4, .bool s0_5, .int .u32 s0_6, .bool s0_7, .int .u32 s0_8, .bool s0_9, .int .u32 s0_10, .bool s0_11, .int .u32 s0_12, .bool s0_13, .int .u32 s0_14, .bool s0_15, .pointer (some ⟨gs0, 0, none⟩), .int .i64 s0_18, .int .i64 s0_19, .bool s0_20] 54 (0, 0))) (hG : w0.heap.size ≤ g) (hI1 : w.heap[gs0]? = some (.cells #[.int .i64 s0_16, u9000_] 68 (0, 0))) (hG1 : w0.heap.size ≤ gs0) (hB : Below w0.heap.size w0 w) (ho0_17 : Kd.R (Kd.int .i64) 3 w w0.heap.size P0_17_ u9000_ l0_17) (hp0_17_1_9 : ∀ k_, P0_17_ k_ → ¬ P1_9_ k_) (ho1_9 : Kd.R (Kd.int .i64) 3 w w0.heap.size P1_9_ u9001_ l1_9) (hp1_9_0_17 : ∀ k_, P1_9_ k_ → ¬ P0_17_ k_) (h : terracelaw15_step.f k s0_0 s0_1 s0_2 s0_3 s0_4 s0_5 s0_6 s0_7 s0_8 s0_9 s0_10 s0_11 s0_12 s0_13 s0_14 s0_15 s0_16 l0_17 s0_18 s0_19 s0_20 a1_0 a1_1 a1_2 a1_3 a1_4 a1_5 a1_6 a1_7 a1_8 l1_9 a1_10 a1_11 a1_12 a2_0 a2_1 a2_2 a2_3 a2_4 = some (r1, r2, r3, r4, r5, r6, r7, r8, r9, r10, r11, r12, r13, r14, r15, r16, r17, r18, r19, r20, r21, r22, r23, r24, r25, r26, r27, r28, r29, r30, r31, r32, r33, r34, r35)) :
    Calls Try.prog 12 #[.pointer (some ⟨g, 0, none⟩), .agg #[.int .i64 a1_0, .int .i64 a1_1, .int .i64 a1_2, .int .i64 a1_3, .int .i64 a1_4, .int .i64 a1_5, .int .i64 a1_6, .int .i64 a1_7, .int .i64 a1_8, u9001_, .int .i64 a1_10, .bool a1_11, .int .i64 a1_12], .agg #[.int .i64 a2_0, .int .i64 a2_1, .int .u32 a2_2, .int .i64 a2_3, .int .i64 a2_4]] w fun e w' => ∃ v9_ v31_ : Value, e = .returned (.tuple #[.agg #[.int .i64 r1, .int .i64 r2, .int .i64 r3, .int .i64 r4, .int .i64 r5, .int .i64 r6, .int .i64 r7, .int .i64 r8, .int .i64 r9, v9_, .int .i64 r11, .bool r12, .int .i64 r13], .bool r14]) ∧ Kd.R (Kd.int .i64) 3 w' w0.heap.size (fun k_ => ((False ∨ P1_9_ k_) ∨ w.heap.size ≤ k_) ∧ some k_ ≠ (v31_ : Value).ownBlock) v9_ r10 ∧ Kd.R (Kd.int .i64) 3 w' w0.heap.size (fun k_ => ((P0_17_ k_ ∨ False) ∨ w.heap.size ≤ k_) ∧ some k_ ≠ (v9_ : Value).ownBlock) v31_ r32 ∧ w'.heap[g]? = some (.cells #[.int .u32 r15, .bool r16, .int .u32 r17, .bool r18, .int .u32 r19, .bool r20, .int .u32 r21, .bool r22, .int .u32 r23, .bool r24, .int .u32 r25, .bool r26, .int .u32 r27, .bool r28, .int .u32 r29, .bool r30, .pointer (some ⟨gs0, 0, none⟩), .int .i64 r33, .int .i64 r34, .bool r35] 54 (0, 0)) ∧ w'.heap[gs0]? = some (.cells #[.int .i64 r31, v31_] 68 (0, 0)) ∧ Below w0.heap.size w0 w' ∧ Kept w w' (fun k_ => ((P0_17_ k_ ∨ False) ∨ k_ = g) ∨ k_ = gs0) := by
  have hu41 := Try.underlying41
  have hu29 := Try.underlying29
  have hu31 := Try.underlying31
  have HO0_17 := Aside0.mk (show Kd.R (Kd.int .i64) 3 w w0.heap.size (fun k_ => ((P0_17_ k_ ∨ False) ∨ w.heap.size ≤ k_) ∧ some k_ ≠ (u9001_ : Value).ownBlock) u9000_ l0_17 from Kd.R_mono ho0_17 (fun k_ hk => ⟨(.inl (.inl hk)), fun e_ => hp0_17_1_9 k_ hk (ho1_9.1 k_ e_.symm)⟩))
  have HO1_9 := Aside0.mk (show Kd.R (Kd.int .i64) 3 w w0.heap.size (fun k_ => ((False ∨ P1_9_ k_) ∨ w.heap.size ≤ k_) ∧ some k_ ≠ (u9000_ : Value).ownBlock) u9001_ l1_9 from Kd.R_mono ho1_9 (fun k_ hk => ⟨(.inl (.inr hk)), fun e_ => hp1_9_0_17 k_ hk (ho0_17.1 k_ e_.symm)⟩))
  have NB0_50 := Aside0.mk (show g ≠ gs0 from fun e_ => by have h1_ := hI; have h2_ := hI1; rw [e_] at h1_; have h_ := h1_.symm.trans h2_; simp at h_)
  have NB50_0 := Aside0.mk (show gs0 ≠ g from fun e_ => by have h1_ := hI1; have h2_ := hI; rw [e_] at h1_; have h_ := h1_.symm.trans h2_; simp at h_)
  have BK0 := Aside0.mk hI
  have GE0 := Aside0.mk hG
  have BK50 := Aside0.mk hI1
  have GE50 := Aside0.mk hG1
  clear hI hG hI1 hG1
  have HK := Aside0.mk (Kept.refl w (fun k_ => ((P0_17_ k_ ∨ False) ∨ k_ = g) ∨ k_ = gs0))
  have HW0 := Aside0.mk hB.size
  have HB := Aside0.mk hB
  clear hB
  have H : (if a2_1 ≥ 0 then (terracelaw15_step.j0 k (decide (a2_1 < 8)) s0_0 s0_1 s0_2 s0_3 s0_4 s0_5 s0_6 s0_7 s0_8 s0_9 s0_10 s0_11 s0_12 s0_13 s0_14 s0_15 s0_18 s0_19 s0_20 s0_16 l0_17 a1_0 a1_1 a1_2 a1_3 a1_4 a1_5 a1_6 a1_7 a1_8 l1_9 a1_10 a1_11 a1_12 a2_0 a2_1 a2_2 a2_3 a2_4) else (terracelaw15_step.j0 k false s0_0 s0_1 s0_2 s0_3 s0_4 s0_5 s0_6 s0_7 s0_8 s0_9 s0_10 s0_11 s0_12 s0_13 s0_14 s0_15 s0_18 s0_19 s0_20 s0_16 l0_17 a1_0 a1_1 a1_2 a1_3 a1_4 a1_5 a1_6 a1_7 a1_8 l1_9 a1_10 a1_11 a1_12 a2_0 a2_1 a2_2 a2_3 a2_4)) = some (r1, r2, r3, r4, r5, r6, r7, r8, r9, r10, r11, r12, r13, r14, r15, r16, r17, r18, r19, r20, r21, r22, r23, r24, r25, r26, r27, r28, r29, r30, r31, r32, r33, r34, r35) := h
  clear h
  have HC4 := Aside0.mk H
  clear H
  obtain ⟨Ao5, co5, eo5⟩ := Kd.R_slice HO1_9.out
  subst eo5
  go_enter Try.func12, Try.ntmps12
  go_upto_region 1 with (first | ((with_reducible refine gate_dst (N := 4) rfl ?_); refine box_event ?hg (N := 4) ?hd (cs := #[.int .i64 a1_0, .int .i64 a1_1, .int .i64 a1_2, .int .i64 a1_3, .int .i64 a1_4, .int .i64 a1_5, .int .i64 a1_6, .int .i64 a1_7, .int .i64 a1_8, .slice Ao5 l1_9.length co5, .int .i64 a1_10, .bool a1_11, .int .i64 a1_12]) (t := 41) ?hr ?_; (case hd => rfl); (case hg => rfl); (case hr => first | (go_simp; done) | (go_simp; rfl)); intro gb646 hg w6 hbox hb; have n0_ := Aside0.mk (Kd.R_below (by (with_reducible repeat (first | apply Kd.R_alloc | apply Kd.R_drewN | apply Kd.R_drew)); exact HO0_17.out) hb); have n1_ := Aside0.mk (Kd.R_below (by (with_reducible repeat (first | apply Kd.R_alloc | apply Kd.R_drewN | apply Kd.R_drew)); exact HO1_9.out) hb); have n2_ := Aside0.mk (blk_below (bpq8 BK0.out) hb); have n3_ := Aside0.mk (blk_below (bpq8 BK50.out) hb); have n4_ := Aside0.mk (Kept.below (S := (fun k_ => ((P0_17_ k_ ∨ False) ∨ k_ = g) ∨ k_ = gs0)) ((kkq8 HK.out)) hb); have n5_ := Aside0.mk (below_step ((bbq8 HB.out)) hb); have n6_ := Aside0.mk (hbox); have n7_ := Aside0.mk ((by rw [hg]; exact (by first | exact HK.out.1 | exact (show Kept w _ (fun k_ => ((P0_17_ k_ ∨ False) ∨ k_ = g) ∨ k_ = gs0) from (kkq8 HK.out)).1) : w.heap.size ≤ gb646)); have n8_ := Aside0.mk ((by rw [hg]; exact (below_size ((bbq8 HB.out))) : w0.heap.size ≤ gb646)); have n9_ := Aside0.mk ((by rw [hg]; exact Nat.ne_of_lt (blk_lt (bpq8 BK0.out)) : g ≠ gb646)); have n10_ := Aside0.mk ((by rw [hg]; exact Nat.ne_of_gt (blk_lt (bpq8 BK0.out)) : gb646 ≠ g)); have n11_ := Aside0.mk ((by rw [hg]; exact Nat.ne_of_lt (blk_lt (bpq8 BK50.out)) : gs0 ≠ gb646)); have n12_ := Aside0.mk ((by rw [hg]; exact Nat.ne_of_gt (blk_lt (bpq8 BK50.out)) : gb646 ≠ gs0)); clear HO0_17; clear HO1_9; clear BK0; clear BK50; clear HK; clear HB; have HO0_17 := n0_; have HO1_9 := n1_; have BK0 := n2_; have BK50 := n3_; have HK := n4_; have HB := n5_; have BK646 := n6_; have GW646 := n7_; have GE646 := n8_; have NB0_646 := n9_; have NB646_0 := n10_; have NB50_646 := n11_; have NB646_50 := n12_; clear n0_ n1_ n2_ n3_ n4_ n5_ n6_ n7_ n8_ n9_ n10_ n11_ n12_; clear hb hbox hg) | ((with_reducible refine gate_dst (N := 5) rfl ?_); refine box_event ?hg (N := 5) ?hd (cs := #[.int .i64 a2_0, .int .i64 a2_1, .int .u32 a2_2, .int .i64 a2_3, .int .i64 a2_4]) (t := 29) ?hr ?_; (case hd => rfl); (case hg => rfl); (case hr => first | (go_simp; done) | (go_simp; rfl)); intro gb647 hg w7 hbox hb; have n0_ := Aside0.mk (Kd.R_below (by (with_reducible repeat (first | apply Kd.R_alloc | apply Kd.R_drewN | apply Kd.R_drew)); exact HO0_17.out) hb); have n1_ := Aside0.mk (Kd.R_below (by (with_reducible repeat (first | apply Kd.R_alloc | apply Kd.R_drewN | apply Kd.R_drew)); exact HO1_9.out) hb); have n2_ := Aside0.mk (blk_below (bpq8 BK0.out) hb); have n3_ := Aside0.mk (blk_below (bpq8 BK50.out) hb); have n4_ := Aside0.mk (blk_below (bpq8 BK646.out) hb); have n5_ := Aside0.mk (Kept.below (S := (fun k_ => ((P0_17_ k_ ∨ False) ∨ k_ = g) ∨ k_ = gs0)) ((kkq8 HK.out)) hb); have n6_ := Aside0.mk (below_step ((bbq8 HB.out)) hb); have n7_ := Aside0.mk (hbox); have n8_ := Aside0.mk ((by rw [hg]; exact (by first | exact HK.out.1 | exact (show Kept w _ (fun k_ => ((P0_17_ k_ ∨ False) ∨ k_ = g) ∨ k_ = gs0) from (kkq8 HK.out)).1) : w.heap.size ≤ gb647)); have n9_ := Aside0.mk ((by rw [hg]; exact (below_size ((bbq8 HB.out))) : w0.heap.size ≤ gb647)); have n10_ := Aside0.mk ((by rw [hg]; exact Nat.ne_of_lt (blk_lt (bpq8 BK0.out)) : g ≠ gb647)); have n11_ := Aside0.mk ((by rw [hg]; exact Nat.ne_of_gt (blk_lt (bpq8 BK0.out)) : gb647 ≠ g)); have n12_ := Aside0.mk ((by rw [hg]; exact Nat.ne_of_lt (blk_lt (bpq8 BK50.out)) : gs0 ≠ gb647)); have n13_ := Aside0.mk ((by rw [hg]; exact Nat.ne_of_gt (blk_lt (bpq8 BK50.out)) : gb647 ≠ gs0)); have n14_ := Aside0.mk ((by rw [hg]; exact Nat.ne_of_lt (blk_lt (bpq8 BK646.out)) : gb646 ≠ gb647)); have n15_ := Aside0.mk ((by rw [hg]; exact Nat.ne_of_gt (blk_lt (bpq8 BK646.out)) : gb647 ≠ gb646)); clear HO0_17; clear HO1_9; clear BK0; clear BK50; clear BK646; clear HK; clear HB; have HO0_17 := n0_; have HO1_9 := n1_; have BK0 := n2_; have BK50 := n3_; have BK646 := n4_; have HK := n5_; have HB := n6_; have BK647 := n7_; have GW647 := n8_; have GE647 := n9_; have NB0_647 := n10_; have NB647_0 := n11_; have NB50_647 := n12_; have NB647_50 := n13_; have NB646_647 := n14_; have NB647_646 := n15_; clear n0_ n1_ n2_ n3_ n4_ n5_ n6_ n7_ n8_ n9_ n10_ n11_ n12_ n13_ n14_ n15_; clear hb hbox hg) | ((with_reducible refine gate_dst (N := 6) rfl ?_); refine box_event ?hg (N := 6) ?hd (cs := #[.int .i64 0, .int .i64 0, .int .i64 0, .int .i64 0, .int .i64 0, .int .i64 0, .int .i64 0, .int .i64 0, .int .i64 0, .slice none 0 0, .int .i64 0, .bool false, .int .i64 0]) (t := 41) ?hr ?_; (case hd => rfl); (case hg => rfl); (case hr => first | (go_simp; done) | (go_simp; rfl)); intro gb648 hg w8 hbox hb; have n0_ := Aside0.mk (Kd.R_below (by (with_reducible repeat (first | apply Kd.R_alloc | apply Kd.R_drewN | apply Kd.R_drew)); exact HO0_17.out) hb); have n1_ := Aside0.mk (Kd.R_below (by (with_reducible repeat (first | apply Kd.R_alloc | apply Kd.R_drewN | apply Kd.R_drew)); exact HO1_9.out) hb); have n2_ := Aside0.mk (blk_below (bpq8 BK0.out) hb); have n3_ := Aside0.mk (blk_below (bpq8 BK50.out) hb); have n4_ := Aside0.mk (blk_below (bpq8 BK646.out) hb); have n5_ := Aside0.mk (blk_below (bpq8 BK647.out) hb); have n6_ := Aside0.mk (Kept.below (S := (fun k_ => ((P0_17_ k_ ∨ False) ∨ k_ = g) ∨ k_ = gs0)) ((kkq8 HK.out)) hb); have n7_ := Aside0.mk (below_step ((bbq8 HB.out)) hb); have n8_ := Aside0.mk (hbox); have n9_ := Aside0.mk ((by rw [hg]; exact (by first | exact HK.out.1 | exact (show Kept w _ (fun k_ => ((P0_17_ k_ ∨ False) ∨ k_ = g) ∨ k_ = gs0) from (kkq8 HK.out)).1) : w.heap.size ≤ gb648)); have n10_ := Aside0.mk ((by rw [hg]; exact (below_size ((bbq8 HB.out))) : w0.heap.size ≤ gb648)); have n11_ := Aside0.mk ((by rw [hg]; exact Nat.ne_of_lt (blk_lt (bpq8 BK0.out)) : g ≠ gb648)); have n12_ := Aside0.mk ((by rw [hg]; exact Nat.ne_of_gt (blk_lt (bpq8 BK0.out)) : gb648 ≠ g)); have n13_ := Aside0.mk ((by rw [hg]; exact Nat.ne_of_lt (blk_lt (bpq8 BK50.out)) : gs0 ≠ gb648)); have n14_ := Aside0.mk ((by rw [hg]; exact Nat.ne_of_gt (blk_lt (bpq8 BK50.out)) : gb648 ≠ gs0)); have n15_ := Aside0.mk ((by rw [hg]; exact Nat.ne_of_lt (blk_lt (bpq8 BK646.out)) : gb646 ≠ gb648)); have n16_ := Aside0.mk ((by rw [hg]; exact Nat.ne_of_gt (blk_lt (bpq8 BK646.out)) : gb648 ≠ gb646)); have n17_ := Aside0.mk ((by rw [hg]; exact Nat.ne_of_lt (blk_lt (bpq8 BK647.out)) : gb647 ≠ gb648)); have n18_ := Aside0.mk ((by rw [hg]; exact Nat.ne_of_gt (blk_lt (bpq8 BK647.out)) : gb648 ≠ gb647)); clear HO0_17; clear HO1_9; clear BK0; clear BK50; clear BK646; clear BK647; clear HK; clear HB; have HO0_17 := n0_; have HO1_9 := n1_; have BK0 := n2_; have BK50 := n3_; have BK646 := n4_; have BK647 := n5_; have HK := n6_; have HB := n7_; have BK648 := n8_; have GW648 := n9_; have GE648 := n10_; have NB0_648 := n11_; have NB648_0 := n12_; have NB50_648 := n13_; have NB648_50 := n14_; have NB646_648 := n15_; have NB648_646 := n16_; have NB647_648 := n17_; have NB648_647 := n18_; clear n0_ n1_ n2_ n3_ n4_ n5_ n6_ n7_ n8_ n9_ n10_ n11_ n12_ n13_ n14_ n15_ n16_ n17_ n18_; clear hb hbox hg))
  (try simp only [Act.put, List.setIfInBounds_toArray, List.set_cons_zero, List.set_cons_succ])
  go_cut [8] (fun v8 wc => ∃ (kq : Nat) (x8_3 : Bool), v8 = .bool x8_3 ∧ Aside0 (terracelaw15_step.j0 kq x8_3 s0_0 s0_1 s0_2 s0_3 s0_4 s0_5 s0_6 s0_7 s0_8 s0_9 s0_10 s0_11 s0_12 s0_13 s0_14 s0_15 s0_18 s0_19 s0_20 s0_16 l0_17 a1_0 a1_1 a1_2 a1_3 a1_4 a1_5 a1_6 a1_7 a1_8 l1_9 a1_10 a1_11 a1_12 a2_0 a2_1 a2_2 a2_3 a2_4 = some (r1, r2, r3, r4, r5, r6, r7, r8, r9, r10, r11, r12, r13, r14, r15, r16, r17, r18, r19, r20, r21, r22, r23, r24, r25, r26, r27, r28, r29, r30, r31, r32, r33, r34, r35)) ∧ Aside0 (kq ≤ k) ∧ Aside0 (Kd.R (Kd.int .i64) 3 wc w0.heap.size (fun k_ => ((P0_17_ k_ ∨ False) ∨ w.heap.size ≤ k_) ∧ some k_ ≠ ((.slice Ao5 l1_9.length co5) : Value).ownBlock) u9000_ l0_17) ∧ Aside0 (Kd.R (Kd.int .i64) 3 wc w0.heap.size (fun k_ => ((False ∨ P1_9_ k_) ∨ w.heap.size ≤ k_) ∧ some k_ ≠ (u9000_ : Value).ownBlock) (.slice Ao5 l1_9.length co5) l1_9) ∧ Aside0 (wc.heap[g]? = some (.cells #[.int .u32 s0_0, .bool s0_1, .int .u32 s0_2, .bool s0_3, .int .u32 s0_4, .bool s0_5, .int .u32 s0_6, .bool s0_7, .int .u32 s0_8, .bool s0_9, .int .u32 s0_10, .bool s0_11, .int .u32 s0_12, .bool s0_13, .int .u32 s0_14, .bool s0_15, .pointer (some ⟨gs0, 0, none⟩), .int .i64 s0_18, .int .i64 s0_19, .bool s0_20] 54 (0, 0))) ∧ Aside0 (wc.heap[gs0]? = some (.cells #[.int .i64 s0_16, u9000_] 68 (0, 0))) ∧ Aside0 (wc.heap[gb646]? = some (.cells #[.int .i64 a1_0, .int .i64 a1_1, .int .i64 a1_2, .int .i64 a1_3, .int .i64 a1_4, .int .i64 a1_5, .int .i64 a1_6, .int .i64 a1_7, .int .i64 a1_8, (.slice Ao5 l1_9.length co5), .int .i64 a1_10, .bool a1_11, .int .i64 a1_12] 41 (0, 0))) ∧ Aside0 (wc.heap[gb647]? = some (.cells #[.int .i64 a2_0, .int .i64 a2_1, .int .u32 a2_2, .int .i64 a2_3, .int .i64 a2_4] 29 (0, 0))) ∧ Aside0 (wc.heap[gb648]? = some (.cells #[.int .i64 0, .int .i64 0, .int .i64 0, .int .i64 0, .int .i64 0, .int .i64 0, .int .i64 0, .int .i64 0, .int .i64 0, (.slice none 0 0), .int .i64 0, .bool false, .int .i64 0] 41 (0, 0))) ∧ Aside0 (Kept w wc (fun k_ => ((P0_17_ k_ ∨ False) ∨ k_ = g) ∨ k_ = gs0)) ∧ Aside0 (Below w0.heap.size w0 wc))
  case first =>
    have H := HC4.out
    clear HC4
    by_cases c9 : a2_1 ≥ 0
    · rw [if_pos c9] at H
      have c9b0 : decide (0 ≤ a2_1) = true := decide_eq_true c9
      clear c9
      (first | rw [c9b0] | (simp only [i64_w, i32_w]; rw [c9b0]) | skip)
      have H' := Aside0.mk H
      clear H
      have hnb10 := NB647_0.out
      have hnc10 := NB0_647.out
      have hnb11 := NB647_50.out
      have hnc11 := NB50_647.out
      have hnb12 := NB647_646.out
      have hnc12 := NB646_647.out
      have hnb13 := NB647_648.out
      have hnc13 := NB648_647.out
      obtain ⟨hcz14_0, hcz14_1, hcz14_2, hcz14_3, hcz14_4⟩ := bc5q8 BK647.out
      have hfz14_0 := fun i_ => blk_frozen BK647.out i_
      go_wp2
      go_meet
      case rel => exact ⟨_, (decide (a2_1 < 8)), (by first | rfl | (simp; done) | (simp [*]; done)), H', ⟨by first | omega | exact Nat.le_refl _⟩, ⟨by (with_reducible repeat (first | apply Kd.R_alloc | apply Kd.R_drewN | apply Kd.R_drew)); exact HO0_17.out⟩, ⟨by (with_reducible repeat (first | apply Kd.R_alloc | apply Kd.R_drewN | apply Kd.R_drew)); exact HO1_9.out⟩, ⟨by exact bpq8 BK0.out⟩, ⟨by exact bpq8 BK50.out⟩, ⟨by exact bpq8 BK646.out⟩, ⟨by exact bpq8 BK647.out⟩, ⟨by exact bpq8 BK648.out⟩, ⟨(kkq8 HK.out)⟩, ⟨(bbq8 HB.out)⟩⟩
    · rw [if_neg c9] at H
      have c9b0 : decide (0 ≤ a2_1) = false := decide_eq_false c9
      clear c9
      (first | rw [c9b0] | (simp only [i64_w, i32_w]; rw [c9b0]) | skip)
      have H' := Aside0.mk H
      clear H
      have hnb15 := NB647_0.out
      have hnc15 := NB0_647.out
      have hnb16 := NB647_50.out
      have hnc16 := NB50_647.out
      have hnb17 := NB647_646.out
      have hnc17 := NB646_647.out
      have hnb18 := NB647_648.out
      have hnc18 := NB648_647.out
      obtain ⟨hcz19_0, hcz19_1, hcz19_2, hcz19_3, hcz19_4⟩ := bc5q8 BK647.out
      have hfz19_0 := fun i_ => blk_frozen BK647.out i_
      go_wp2
      go_meet
      case rel => exact ⟨_, (false), (by first | rfl | (simp; done) | (simp [*]; done)), H', ⟨by first | omega | exact Nat.le_refl _⟩, ⟨by (with_reducible repeat (first | apply Kd.R_alloc | apply Kd.R_drewN | apply Kd.R_drew)); exact HO0_17.out⟩, ⟨by (with_reducible repeat (first | apply Kd.R_alloc | apply Kd.R_drewN | apply Kd.R_drew)); exact HO1_9.out⟩, ⟨by exact bpq8 BK0.out⟩, ⟨by exact bpq8 BK50.out⟩, ⟨by exact bpq8 BK646.out⟩, ⟨by exact bpq8 BK647.out⟩, ⟨by exact bpq8 BK648.out⟩, ⟨(kkq8 HK.out)⟩, ⟨(bbq8 HB.out)⟩⟩
  case rest =>
    clear HC4
    try clear c1
    try clear p1
    try clear p2
    try clear c9
    try clear c9b0
    try clear c10
    try clear c11
    try clear c12
    try clear c13
    try clear c15
    try clear c16
    try clear c17
    try clear c18
    try clear hcz14_0 hcz14_1 hcz14_2 hcz14_3 hcz14_4
    try clear hcz19_0 hcz19_1 hcz19_2 hcz19_3 hcz19_4
    try clear hfz14_0
    try clear hfz19_0
    obtain ⟨kq, x8_3, rfl, HA, HJ3, HO_51001, HO_647009, BK0, BK50, BK646, BK647, BK648, HK, HB⟩ := hcut
    cases kq with
    | zero => exact absurd HA.out (by simp [terracelaw15_step.j0])
    | succ kj3 =>
      have H := HA.out
      clear HA
      simp only [terracelaw15_step.j0] at H
      by_cases c20 : a2_0 = 1
      · rw [if_pos c20] at H
        have c20b0 : (a2_0 == 1) = true := beq_iff_eq.mpr c20
        have c20b1 : (a2_0 != 1) = false := bne_eq_false_iff_eq.mpr c20
        clear c20
        replace H := Option.bind_eq_some_iff.mp H
        obtain ⟨⟨t649, t650, t651, t652, t653, t654, t655, t656, t657, t658, t659, t660, t661, t662, t663, t664, t665, t666, t669, t670, t671⟩, A210, H⟩ := H
        replace H : (if x8_3 = true then (if 0 ≤ a2_1 then (if a2_1 < 8 then ((terracelaw15_step.vput8 a2_1 (-1) a1_0 a1_1 a1_2 a1_3 a1_4 a1_5 a1_6 a1_7).bind fun bt673 => (some (bt673.1, bt673.2.1, bt673.2.2.1, bt673.2.2.2.1, bt673.2.2.2.2.1, bt673.2.2.2.2.2.1, bt673.2.2.2.2.2.2.1, bt673.2.2.2.2.2.2.2, a1_8, l1_9, a1_10, a1_11, a1_12, true, t649, t650, t651, t652, t653, t654, t655, t656, t657, t658, t659, t660, t661, t662, t663, t664, t665, t666, t669, t670, t671))) else (none)) else (none)) else (some (a1_0, a1_1, a1_2, a1_3, a1_4, a1_5, a1_6, a1_7, a1_8, l1_9, a1_10, a1_11, a1_12, true, t649, t650, t651, t652, t653, t654, t655, t656, t657, t658, t659, t660, t661, t662, t663, t664, t665, t666, t669, t670, t671))) = some (r1, r2, r3, r4, r5, r6, r7, r8, r9, r10, r11, r12, r13, r14, r15, r16, r17, r18, r19, r20, r21, r22, r23, r24, r25, r26, r27, r28, r29, r30, r31, r32, r33, r34, r35) := H
        have A21 := Aside0.mk A210
        clear A210
        by_cases c22 : x8_3 = true
        · subst c22
          have H1 : (if 0 ≤ a2_1 then (if a2_1 < 8 then ((terracelaw15_step.vput8 a2_1 (-1) a1_0 a1_1 a1_2 a1_3 a1_4 a1_5 a1_6 a1_7).bind fun bt673 => (some (bt673.1, bt673.2.1, bt673.2.2.1, bt673.2.2.2.1, bt673.2.2.2.2.1, bt673.2.2.2.2.2.1, bt673.2.2.2.2.2.2.1, bt673.2.2.2.2.2.2.2, a1_8, l1_9, a1_10, a1_11, a1_12, true, t649, t650, t651, t652, t653, t654, t655, t656, t657, t658, t659, t660, t661, t662, t663, t664, t665, t666, t669, t670, t671))) else (none)) else (none)) = some (r1, r2, r3, r4, r5, r6, r7, r8, r9, r10, r11, r12, r13, r14, r15, r16, r17, r18, r19, r20, r21, r22, r23, r24, r25, r26, r27, r28, r29, r30, r31, r32, r33, r34, r35) := by rw [if_pos rfl] at H; exact H
          clear H
          have H := H1
          clear H1
          by_cases c23 : 0 ≤ a2_1
          · rw [if_pos c23] at H
            have c23b0 : decide (0 ≤ a2_1) = true := decide_eq_true c23
            clear c23
            by_cases c24 : a2_1 < 8
            · rw [if_pos c24] at H
              have c24b0 : decide (a2_1 < 8) = true := decide_eq_true c24
              clear c24
              replace H := Option.bind_eq_some_iff.mp H
              obtain ⟨⟨t673, t674, t675, t676, t677, t678, t679, t680⟩, AV6720, H⟩ := H
              replace H : (some (t673, t674, t675, t676, t677, t678, t679, t680, a1_8, l1_9, a1_10, a1_11, a1_12, true, t649, t650, t651, t652, t653, t654, t655, t656, t657, t658, t659, t660, t661, t662, t663, t664, t665, t666, t669, t670, t671)) = some (r1, r2, r3, r4, r5, r6, r7, r8, r9, r10, r11, r12, r13, r14, r15, r16, r17, r18, r19, r20, r21, r22, r23, r24, r25, r26, r27, r28, r29, r30, r31, r32, r33, r34, r35) := H
              have AV672 := Aside0.mk AV6720
              clear AV6720
              simp only [Option.some.injEq, Prod.mk.injEq] at H
              obtain ⟨rfl, rfl, rfl, rfl, rfl, rfl, rfl, rfl, rfl, rfl, rfl, rfl, rfl, rfl, rfl, rfl, rfl, rfl, rfl, rfl, rfl, rfl, rfl, rfl, rfl, rfl, rfl, rfl, rfl, rfl, rfl, rfl, rfl, rfl, rfl⟩ := H
              have hnb25 := NB647_0.out
              have hnc25 := NB0_647.out
              have hnb26 := NB647_50.out
              have hnc26 := NB50_647.out
              have hnb27 := NB647_646.out
              have hnc27 := NB646_647.out
              have hnb28 := NB647_648.out
              have hnc28 := NB648_647.out
              obtain ⟨hcz29_0, hcz29_1, hcz29_2, hcz29_3, hcz29_4⟩ := bc5q8 BK647.out
              have hfz29_0 := fun i_ => blk_frozen BK647.out i_
              go_wp2_with (first | ((with_reducible refine gate_callee (f := 24) rfl ?_); refine goesL_ (some 30) rfl rfl Try.func24 (by kernel_rfl) rfl #[.pointer (some ⟨g, 0, none⟩), .int .i64 a2_1] rfl (by (try simp only [List.map_toArray, List.map_cons, List.map_nil]); first | done | rfl | (simp only [List.length_drop, List.length_take]; rfl)) ?_; (with_reducible refine (detect_Detect_Forget.calls g gs0 s0_0 s0_1 s0_2 s0_3 s0_4 s0_5 s0_6 s0_7 s0_8 s0_9 s0_10 s0_11 s0_12 s0_13 s0_14 s0_15 s0_16 (fun k_ => some k_ = (u9000_ : Value).ownBlock) u9000_ l0_17 s0_18 s0_19 s0_20 a2_1 t649 t650 t651 t652 t653 t654 t655 t656 t657 t658 t659 t660 t661 t662 t663 t664 t665 t666 t669 t670 t671 w0 _ ?side1 ?side2 ?side3 ?side4 ?side5 ?side6 A21.out).mono ?_); (case side1 => exact bpq8 BK0.out); (case side2 => exact GE0.out); (case side3 => exact bpq8 BK50.out); (case side4 => exact GE50.out); (case side5 => repeat (first | (with_reducible first | exact HB.out | apply below_alloc | apply pw_below_drewN | apply below_drew1 | refine below_set ?_ GE0.out | refine below_set ?_ GE50.out | refine below_set ?_ GE646.out | refine below_set ?_ GE647.out | refine below_set ?_ GE648.out) | exact HB.out)); (case side6 => exact Kd.R_tight rfl HO_51001.out); rintro e w30 ⟨v667, rfl, ho0, hi, hi1, hb, hkp⟩; refine ⟨_, rfl, ?_⟩; have n0_ := Aside0.mk (Kd.R_mono (ok' := fun k_ => ((False ∨ P1_9_ k_) ∨ w.heap.size ≤ k_) ∧ some k_ ≠ (v667 : Value).ownBlock) (Kd.R_keptB ((Kd.R_types (Kd.R_types HO_647009.out BK50.out (by decide)) BK0.out (by decide))) hkp (fun k_ hk_ hs_ => Or.elim hs_ (fun hs_ => Or.elim hs_ (fun hs_ => (hk_.1.1.2) hs_) (fun e_ => (hk_.2) e_)) (fun e_ => (hk_.1.2) e_))) (fun k_ hk_ => ⟨hk_.1.1.1.1, fun e_ => Or.elim (ho0.1 k_ e_.symm) (fun hs_ => hk_.2.1 (.inl (.inl hs_))) (fun hn_ => Nat.not_le.2 hk_.2.2 hn_)⟩)); have n1_ := Aside0.mk (hi); have n2_ := Aside0.mk (hi1); have n3_ := Aside0.mk (blk_kept (by exact bpq8 BK646.out) hkp (fun hs_ => Or.elim hs_ (fun hs_ => Or.elim hs_ (fun hs_ => (fun e_ => (Kd.R_ne HO_51001.out BK646.out (by decide)) e_) hs_) (fun e_ => NB646_0.out e_)) (fun e_ => NB646_50.out e_))); have n4_ := Aside0.mk (blk_kept (by exact bpq8 BK647.out) hkp (fun hs_ => Or.elim hs_ (fun hs_ => Or.elim hs_ (fun hs_ => (fun e_ => (Kd.R_ne HO_51001.out BK647.out (by decide)) e_) hs_) (fun e_ => NB647_0.out e_)) (fun e_ => NB647_50.out e_))); have n5_ := Aside0.mk (blk_kept (by exact bpq8 BK648.out) hkp (fun hs_ => Or.elim hs_ (fun hs_ => Or.elim hs_ (fun hs_ => (fun e_ => (Kd.R_ne HO_51001.out BK648.out (by decide)) e_) hs_) (fun e_ => NB648_0.out e_)) (fun e_ => NB648_50.out e_))); have n6_ := Aside0.mk (Kd.R_mono (ok' := fun k_ => ((P0_17_ k_ ∨ False) ∨ w.heap.size ≤ k_) ∧ some k_ ≠ (.slice Ao5 l1_9.length co5 : Value).ownBlock) ho0 (fun k_ hk_ => ⟨Or.elim hk_ (fun hs_ => (HO_51001.out.1 k_ (hs_).symm).1) (fun hn_ => (.inr (Nat.le_trans (by first | exact HK.out.1 | exact (show Kept w _ (fun k_ => ((P0_17_ k_ ∨ False) ∨ k_ = g) ∨ k_ = gs0) from (kkq8 HK.out)).1) hn_))), Or.elim hk_ (fun hs_ => fun e_ => ((((Kd.R_types (Kd.R_types HO_647009.out BK50.out (by decide)) BK0.out (by decide))).1 k_ e_.symm).1.1.2) hs_) (fun hn_ => (Kd.fresh' (Kd.R_lt (by (with_reducible repeat (first | apply Kd.R_alloc | apply Kd.R_drewN | apply Kd.R_drew)); exact HO_647009.out)) k_ hn_))⟩)); have n7_ := Aside0.mk (Kept.then_ (S := (fun k_ => ((P0_17_ k_ ∨ False) ∨ k_ = g) ∨ k_ = gs0)) ((kkq8 HK.out)) hkp (fun k_ hs_ => Or.elim hs_ (fun hs_ => Or.elim hs_ (fun hs_ => (fun e_ => Or.imp_left (fun h_ => .inl (.inl (h_))) ((HO_51001.out.1 k_ e_.symm).1)) hs_) (fun e_ => .inl (.inl (.inr e_)))) (fun e_ => .inl (.inr e_)))); have n8_ := Aside0.mk (hb); clear HO_647009; clear BK0; clear BK50; clear BK646; clear BK647; clear BK648; clear HK; clear HB; clear HO_51001; have HO_647009 := n0_; have BK0 := n1_; have BK50 := n2_; have BK646 := n3_; have BK647 := n4_; have BK648 := n5_; have HO668 := n6_; have HK := n7_; have HB := n8_; clear n0_ n1_ n2_ n3_ n4_ n5_ n6_ n7_ n8_; (try clear hb); (try clear hkp); (try clear ho0); obtain ⟨hcz31_0, hcz31_1, hcz31_2, hcz31_3, hcz31_4⟩ := bc5q8 BK647.out; have hfz31_0 := fun i_ => blk_frozen BK647.out i_; have hnb32 := NB646_0.out; have hnc32 := NB0_646.out; have hnb33 := NB646_50.out; have hnc33 := NB50_646.out; have hnb34 := NB646_648.out; have hnc34 := NB648_646.out; obtain ⟨hcz35_0, hcz35_1, hcz35_2, hcz35_3, hcz35_4, hcz35_5, hcz35_6, hcz35_7, hcz35_8, hcz35_9, hcz35_10, hcz35_11, hcz35_12⟩ := bc13q8 BK646.out; have hfz35_0 := fun i_ => blk_frozen BK646.out i_; have pv672 : 0 ≤ (a2_1 : Int) := of_decide_eq_true (by first | (with_reducible assumption) | assumption); have qv672 : (a2_1 : Int) < 8 := of_decide_eq_true (by first | (with_reducible assumption) | assumption); have hua672 := Try.underlying38; obtain ⟨jo672, ho672⟩ : ∃ jo_ : Nat, jo_ = 0 + (a2_1 : Int).toNat * 1 := ⟨_, rfl⟩; have hx672_0 : w30.cell? ⟨gb646, jo672, none⟩ = some (.int .i64 (rd ([a1_0, a1_1, a1_2, a1_3, a1_4, a1_5, a1_6, a1_7] : List Int) a2_1)) := (by (rw [ho672]; clear hua672; revert pv672 qv672; generalize (a2_1 : Int) = jx_; intro h0_ h1_; rcases (show jx_ = 0 ∨ jx_ = 1 ∨ jx_ = 2 ∨ jx_ = 3 ∨ jx_ = 4 ∨ jx_ = 5 ∨ jx_ = 6 ∨ jx_ = 7 from by omega) with rfl | rfl | rfl | rfl | rfl | rfl | rfl | rfl <;> exact (blk_cell BK646.out _).trans rfl)); have hvp672 : ∀ W : World, W.heap[gb646]? = some (.cells #[.int .i64 a1_0, .int .i64 a1_1, .int .i64 a1_2, .int .i64 a1_3, .int .i64 a1_4, .int .i64 a1_5, .int .i64 a1_6, .int .i64 a1_7, .int .i64 a1_8, .slice Ao5 l1_9.length co5, .int .i64 a1_10, .bool a1_11, .int .i64 a1_12] 41 (0, 0)) → (W.setCell ⟨gb646, jo672, none⟩ (.int .i64 (-1))).heap[gb646]? = some (.cells #[.int .i64 t673, .int .i64 t674, .int .i64 t675, .int .i64 t676, .int .i64 t677, .int .i64 t678, .int .i64 t679, .int .i64 t680, .int .i64 a1_8, .slice Ao5 l1_9.length co5, .int .i64 a1_10, .bool a1_11, .int .i64 a1_12] 41 (0, 0)) := (by (intro W hW_; have hv_ := AV672.out; simp only [terracelaw15_step.vput8, Option.some.injEq, Prod.mk.injEq] at hv_; obtain ⟨rfl, rfl, rfl, rfl, rfl, rfl, rfl, rfl⟩ := hv_; rw [ho672]; clear hua672 hx672_0; revert pv672 qv672; generalize (a2_1 : Int) = jx_; intro h0_ h1_; rcases (show jx_ = 0 ∨ jx_ = 1 ∨ jx_ = 2 ∨ jx_ = 3 ∨ jx_ = 4 ∨ jx_ = 5 ∨ jx_ = 6 ∨ jx_ = 7 from by omega) with rfl | rfl | rfl | rfl | rfl | rfl | rfl | rfl <;> exact blk_put (cs := #[.int .i64 a1_0, .int .i64 a1_1, .int .i64 a1_2, .int .i64 a1_3, .int .i64 a1_4, .int .i64 a1_5, .int .i64 a1_6, .int .i64 a1_7, .int .i64 a1_8, .slice Ao5 l1_9.length co5, .int .i64 a1_10, .bool a1_11, .int .i64 a1_12]) hW_ _ _ rfl)); have hia672 : ∀ W : World, (Instr.indexAt 38 (.pointer (some ⟨gb646, 0, none⟩)) (.int .i64 a2_1)).run Try.prog W = .ok (.pointer (some ⟨gb646, jo672, none⟩)) W := (by (intro W; rw [ho672]; clear hx672_0 hvp672; revert pv672 qv672; generalize (a2_1 : Int) = jx_; intro h0_ h1_; rcases (show jx_ = 0 ∨ jx_ = 1 ∨ jx_ = 2 ∨ jx_ = 3 ∨ jx_ = 4 ∨ jx_ = 5 ∨ jx_ = 6 ∨ jx_ = 7 from by omega) with rfl | rfl | rfl | rfl | rfl | rfl | rfl | rfl <;> first | (go_simp; done) | (go_simp; rfl) | rfl)); have hfx672 := blk_frozen BK646.out jo672; clear ho672 pv672 qv672 hua672) | ((with_reducible refine gate_store (t := 3) (p := 35) rfl ?_); refine store_event (t := 3) (p := 35) (v := ?vo_w36) (w1 := (w30.setCell ⟨gb646, jo672, none⟩ (.int .i64 (-1)))) ?hg ?ho ?hn ?hr ?_; (case ho => rfl); (case hg => rfl); (case hn => rfl); (case hr => first | (go_simp; done) | (go_simp; rfl)); intro w36 hw; have n0_ : Aside0 (Kd.R (Kd.int .i64) 3 w36 w0.heap.size (fun k_ => ((False ∨ P1_9_ k_) ∨ w.heap.size ≤ k_) ∧ some k_ ≠ (v667 : Value).ownBlock) (.slice Ao5 l1_9.length co5) l1_9) := ⟨(by rw [hw]; exact (by (with_reducible repeat (first | apply Kd.R_alloc | apply Kd.R_drewN | apply Kd.R_drew)); exact Kd.R_mono (Kd.R_far (Kd.R_types HO_647009.out BK646.out (by decide)) (fun _ hk => hk.2) _) (fun _ hk => ⟨hk.1.1, hk.1.2⟩)))⟩; have n1_ : Aside0 (Kd.R (Kd.int .i64) 3 w36 w0.heap.size (fun k_ => ((P0_17_ k_ ∨ False) ∨ w.heap.size ≤ k_) ∧ some k_ ≠ (.slice Ao5 l1_9.length co5 : Value).ownBlock) v667 t666) := ⟨(by rw [hw]; exact (by (with_reducible repeat (first | apply Kd.R_alloc | apply Kd.R_drewN | apply Kd.R_drew)); exact Kd.R_mono (Kd.R_far (Kd.R_types HO668.out BK646.out (by decide)) (fun _ hk => hk.2) _) (fun _ hk => ⟨hk.1.1, hk.1.2⟩)))⟩; have n2_ : Aside0 (w36.heap[g]? = some (.cells #[.int .u32 t649, .bool t650, .int .u32 t651, .bool t652, .int .u32 t653, .bool t654, .int .u32 t655, .bool t656, .int .u32 t657, .bool t658, .int .u32 t659, .bool t660, .int .u32 t661, .bool t662, .int .u32 t663, .bool t664, .pointer (some ⟨gs0, 0, none⟩), .int .i64 t669, .int .i64 t670, .bool t671] 54 (0, 0))) := ⟨(by rw [hw]; exact (by refine bfq8 NB0_646.out ?_; exact bpq8 BK0.out))⟩; have n3_ : Aside0 (w36.heap[gs0]? = some (.cells #[.int .i64 t665, v667] 68 (0, 0))) := ⟨(by rw [hw]; exact (by refine bfq8 NB50_646.out ?_; exact bpq8 BK50.out))⟩; have n4_ : Aside0 (w36.heap[gb646]? = some (.cells #[.int .i64 t673, .int .i64 t674, .int .i64 t675, .int .i64 t676, .int .i64 t677, .int .i64 t678, .int .i64 t679, .int .i64 t680, .int .i64 a1_8, .slice Ao5 l1_9.length co5, .int .i64 a1_10, .bool a1_11, .int .i64 a1_12] 41 (0, 0))) := ⟨(by rw [hw]; exact (by refine bpq8 ?_; refine hvp672 _ ?_; exact bpq8 BK646.out))⟩; have n5_ : Aside0 (w36.heap[gb647]? = some (.cells #[.int .i64 a2_0, .int .i64 a2_1, .int .u32 a2_2, .int .i64 a2_3, .int .i64 a2_4] 29 (0, 0))) := ⟨(by rw [hw]; exact (by refine bfq8 NB647_646.out ?_; exact bpq8 BK647.out))⟩; have n6_ : Aside0 (w36.heap[gb648]? = some (.cells #[.int .i64 0, .int .i64 0, .int .i64 0, .int .i64 0, .int .i64 0, .int .i64 0, .int .i64 0, .int .i64 0, .int .i64 0, .slice none 0 0, .int .i64 0, .bool false, .int .i64 0] 41 (0, 0))) := ⟨(by rw [hw]; exact (by refine bfq8 NB648_646.out ?_; exact bpq8 BK648.out))⟩; have n7_ : Aside0 (Kept w w36 (fun k_ => ((P0_17_ k_ ∨ False) ∨ k_ = g) ∨ k_ = gs0)) := ⟨(by rw [hw]; exact ((kkq8 HK.out)))⟩; have n8_ : Aside0 (Below w0.heap.size w0 w36) := ⟨(by rw [hw]; exact ((bbq8 HB.out)))⟩; clear hw; clear HO_647009; clear HO668; clear BK0; clear BK50; clear BK646; clear BK647; clear BK648; clear HK; clear HB; have HO_647009 := n0_; have HO668 := n1_; have BK0 := n2_; have BK50 := n3_; have BK646 := n4_; have BK647 := n5_; have BK648 := n6_; have HK := n7_; have HB := n8_; clear n0_ n1_ n2_ n3_ n4_ n5_ n6_ n7_ n8_; obtain ⟨hcz37_0, hcz37_1, hcz37_2, hcz37_3, hcz37_4, hcz37_5, hcz37_6, hcz37_7, hcz37_8, hcz37_9, hcz37_10, hcz37_11, hcz37_12⟩ := bc13q8 BK646.out; have hfz37_0 := fun i_ => blk_frozen BK646.out i_; have hnb38 := NB648_0.out; have hnc38 := NB0_648.out; have hnb39 := NB648_50.out; have hnc39 := NB50_648.out; obtain ⟨hcz40_0, hcz40_1, hcz40_2, hcz40_3, hcz40_4, hcz40_5, hcz40_6, hcz40_7, hcz40_8, hcz40_9, hcz40_10, hcz40_11, hcz40_12⟩ := bc13q8 BK648.out; have hfz40_0 := fun i_ => blk_frozen BK648.out i_))
              refine bodyPost_ret (results_ct rfl _ _ gb648 41 #[.int .i64 t673, .int .i64 t674, .int .i64 t675, .int .i64 t676, .int .i64 t677, .int .i64 t678, .int .i64 t679, .int .i64 t680, .int .i64 a1_8, .slice Ao5 l1_9.length co5, .int .i64 a1_10, .bool a1_11, .int .i64 a1_12] (0, 0) _ rfl (by refine bzq8 ?_; refine btq8 (i := 12) ?_; refine btq8 (i := 11) ?_; refine btq8 (i := 10) ?_; refine btq8 (i := 9) ?_; refine btq8 (i := 8) ?_; refine btq8 (i := 7) ?_; refine btq8 (i := 6) ?_; refine btq8 (i := 5) ?_; refine btq8 (i := 4) ?_; refine btq8 (i := 3) ?_; refine btq8 (i := 2) ?_; refine btq8 (i := 1) ?_; refine btq8 (i := 0) ?_; exact ⟨_, bpq8 BK648.out, by first | (simp only [List.setIfInBounds_toArray, List.set_cons_zero, List.set_cons_succ]; done) | rfl⟩) Try.underlying41 rfl (by kernel_rfl)) rfl ?_
              exact ⟨_, _, by first | rfl | (simp [errW_none, errW_some] <;> rfl) | (simp [*, errW_none, errW_some] <;> rfl), by (with_reducible repeat (first | apply Kd.R_alloc | apply Kd.R_drewN | apply Kd.R_drew)); exact Kd.R_mono (Kd.R_far (Kd.R_far (Kd.R_far (Kd.R_far (Kd.R_far (Kd.R_far (Kd.R_far (Kd.R_far (Kd.R_far (Kd.R_far (Kd.R_far (Kd.R_far (Kd.R_far (Kd.R_types HO_647009.out BK648.out (by decide)) (fun _ hk => hk.2) _) (fun _ hk => hk.2) _) (fun _ hk => hk.2) _) (fun _ hk => hk.2) _) (fun _ hk => hk.2) _) (fun _ hk => hk.2) _) (fun _ hk => hk.2) _) (fun _ hk => hk.2) _) (fun _ hk => hk.2) _) (fun _ hk => hk.2) _) (fun _ hk => hk.2) _) (fun _ hk => hk.2) _) (fun _ hk => hk.2) _) (fun _ hk => ⟨hk.1.1, hk.1.2⟩), by (with_reducible repeat (first | apply Kd.R_alloc | apply Kd.R_drewN | apply Kd.R_drew)); exact Kd.R_mono (Kd.R_far (Kd.R_far (Kd.R_far (Kd.R_far (Kd.R_far (Kd.R_far (Kd.R_far (Kd.R_far (Kd.R_far (Kd.R_far (Kd.R_far (Kd.R_far (Kd.R_far (Kd.R_types HO668.out BK648.out (by decide)) (fun _ hk => hk.2) _) (fun _ hk => hk.2) _) (fun _ hk => hk.2) _) (fun _ hk => hk.2) _) (fun _ hk => hk.2) _) (fun _ hk => hk.2) _) (fun _ hk => hk.2) _) (fun _ hk => hk.2) _) (fun _ hk => hk.2) _) (fun _ hk => hk.2) _) (fun _ hk => hk.2) _) (fun _ hk => hk.2) _) (fun _ hk => hk.2) _) (fun _ hk => ⟨hk.1.1, hk.1.2⟩), (by refine bfq8 NB0_648.out ?_; refine bfq8 NB0_648.out ?_; refine bfq8 NB0_648.out ?_; refine bfq8 NB0_648.out ?_; refine bfq8 NB0_648.out ?_; refine bfq8 NB0_648.out ?_; refine bfq8 NB0_648.out ?_; refine bfq8 NB0_648.out ?_; refine bfq8 NB0_648.out ?_; refine bfq8 NB0_648.out ?_; refine bfq8 NB0_648.out ?_; refine bfq8 NB0_648.out ?_; refine bfq8 NB0_648.out ?_; exact bpq8 BK0.out), (by refine bfq8 NB50_648.out ?_; refine bfq8 NB50_648.out ?_; refine bfq8 NB50_648.out ?_; refine bfq8 NB50_648.out ?_; refine bfq8 NB50_648.out ?_; refine bfq8 NB50_648.out ?_; refine bfq8 NB50_648.out ?_; refine bfq8 NB50_648.out ?_; refine bfq8 NB50_648.out ?_; refine bfq8 NB50_648.out ?_; refine bfq8 NB50_648.out ?_; refine bfq8 NB50_648.out ?_; refine bfq8 NB50_648.out ?_; exact bpq8 BK50.out), (bbq8 HB.out), (kkq8 HK.out)⟩
            · rw [if_neg c24] at H
              exact absurd H (by simp)
          · rw [if_neg c23] at H
            exact absurd H (by simp)
        · replace c22 := Bool.eq_false_iff.mpr c22
          subst c22
          have H1 : (some (a1_0, a1_1, a1_2, a1_3, a1_4, a1_5, a1_6, a1_7, a1_8, l1_9, a1_10, a1_11, a1_12, true, t649, t650, t651, t652, t653, t654, t655, t656, t657, t658, t659, t660, t661, t662, t663, t664, t665, t666, t669, t670, t671)) = some (r1, r2, r3, r4, r5, r6, r7, r8, r9, r10, r11, r12, r13, r14, r15, r16, r17, r18, r19, r20, r21, r22, r23, r24, r25, r26, r27, r28, r29, r30, r31, r32, r33, r34, r35) := by rw [if_neg (show ¬ (false = true) by decide)] at H; exact H
          clear H
          have H := H1
          clear H1
          simp only [Option.some.injEq, Prod.mk.injEq] at H
          obtain ⟨rfl, rfl, rfl, rfl, rfl, rfl, rfl, rfl, rfl, rfl, rfl, rfl, rfl, rfl, rfl, rfl, rfl, rfl, rfl, rfl, rfl, rfl, rfl, rfl, rfl, rfl, rfl, rfl, rfl, rfl, rfl, rfl, rfl, rfl, rfl⟩ := H
          have hnb41 := NB647_0.out
          have hnc41 := NB0_647.out
          have hnb42 := NB647_50.out
          have hnc42 := NB50_647.out
          have hnb43 := NB647_646.out
          have hnc43 := NB646_647.out
          have hnb44 := NB647_648.out
          have hnc44 := NB648_647.out
          obtain ⟨hcz45_0, hcz45_1, hcz45_2, hcz45_3, hcz45_4⟩ := bc5q8 BK647.out
          have hfz45_0 := fun i_ => blk_frozen BK647.out i_
          go_wp2_with (first | ((with_reducible refine gate_callee (f := 24) rfl ?_); refine goesL_ (some 30) rfl rfl Try.func24 (by kernel_rfl) rfl #[.pointer (some ⟨g, 0, none⟩), .int .i64 a2_1] rfl (by (try simp only [List.map_toArray, List.map_cons, List.map_nil]); first | done | rfl | (simp only [List.length_drop, List.length_take]; rfl)) ?_; (with_reducible refine (detect_Detect_Forget.calls g gs0 s0_0 s0_1 s0_2 s0_3 s0_4 s0_5 s0_6 s0_7 s0_8 s0_9 s0_10 s0_11 s0_12 s0_13 s0_14 s0_15 s0_16 (fun k_ => some k_ = (u9000_ : Value).ownBlock) u9000_ l0_17 s0_18 s0_19 s0_20 a2_1 t649 t650 t651 t652 t653 t654 t655 t656 t657 t658 t659 t660 t661 t662 t663 t664 t665 t666 t669 t670 t671 w0 _ ?side1 ?side2 ?side3 ?side4 ?side5 ?side6 A21.out).mono ?_); (case side1 => exact bpq8 BK0.out); (case side2 => exact GE0.out); (case side3 => exact bpq8 BK50.out); (case side4 => exact GE50.out); (case side5 => repeat (first | (with_reducible first | exact HB.out | apply below_alloc | apply pw_below_drewN | apply below_drew1 | refine below_set ?_ GE0.out | refine below_set ?_ GE50.out | refine below_set ?_ GE646.out | refine below_set ?_ GE647.out | refine below_set ?_ GE648.out) | exact HB.out)); (case side6 => exact Kd.R_tight rfl HO_51001.out); rintro e w46 ⟨v667, rfl, ho0, hi, hi1, hb, hkp⟩; refine ⟨_, rfl, ?_⟩; have n0_ := Aside0.mk (Kd.R_mono (ok' := fun k_ => ((False ∨ P1_9_ k_) ∨ w.heap.size ≤ k_) ∧ some k_ ≠ (v667 : Value).ownBlock) (Kd.R_keptB ((Kd.R_types (Kd.R_types HO_647009.out BK50.out (by decide)) BK0.out (by decide))) hkp (fun k_ hk_ hs_ => Or.elim hs_ (fun hs_ => Or.elim hs_ (fun hs_ => (hk_.1.1.2) hs_) (fun e_ => (hk_.2) e_)) (fun e_ => (hk_.1.2) e_))) (fun k_ hk_ => ⟨hk_.1.1.1.1, fun e_ => Or.elim (ho0.1 k_ e_.symm) (fun hs_ => hk_.2.1 (.inl (.inl hs_))) (fun hn_ => Nat.not_le.2 hk_.2.2 hn_)⟩)); have n1_ := Aside0.mk (hi); have n2_ := Aside0.mk (hi1); have n3_ := Aside0.mk (blk_kept (by exact bpq8 BK646.out) hkp (fun hs_ => Or.elim hs_ (fun hs_ => Or.elim hs_ (fun hs_ => (fun e_ => (Kd.R_ne HO_51001.out BK646.out (by decide)) e_) hs_) (fun e_ => NB646_0.out e_)) (fun e_ => NB646_50.out e_))); have n4_ := Aside0.mk (blk_kept (by exact bpq8 BK647.out) hkp (fun hs_ => Or.elim hs_ (fun hs_ => Or.elim hs_ (fun hs_ => (fun e_ => (Kd.R_ne HO_51001.out BK647.out (by decide)) e_) hs_) (fun e_ => NB647_0.out e_)) (fun e_ => NB647_50.out e_))); have n5_ := Aside0.mk (blk_kept (by exact bpq8 BK648.out) hkp (fun hs_ => Or.elim hs_ (fun hs_ => Or.elim hs_ (fun hs_ => (fun e_ => (Kd.R_ne HO_51001.out BK648.out (by decide)) e_) hs_) (fun e_ => NB648_0.out e_)) (fun e_ => NB648_50.out e_))); have n6_ := Aside0.mk (Kd.R_mono (ok' := fun k_ => ((P0_17_ k_ ∨ False) ∨ w.heap.size ≤ k_) ∧ some k_ ≠ (.slice Ao5 l1_9.length co5 : Value).ownBlock) ho0 (fun k_ hk_ => ⟨Or.elim hk_ (fun hs_ => (HO_51001.out.1 k_ (hs_).symm).1) (fun hn_ => (.inr (Nat.le_trans (by first | exact HK.out.1 | exact (show Kept w _ (fun k_ => ((P0_17_ k_ ∨ False) ∨ k_ = g) ∨ k_ = gs0) from (kkq8 HK.out)).1) hn_))), Or.elim hk_ (fun hs_ => fun e_ => ((((Kd.R_types (Kd.R_types HO_647009.out BK50.out (by decide)) BK0.out (by decide))).1 k_ e_.symm).1.1.2) hs_) (fun hn_ => (Kd.fresh' (Kd.R_lt (by (with_reducible repeat (first | apply Kd.R_alloc | apply Kd.R_drewN | apply Kd.R_drew)); exact HO_647009.out)) k_ hn_))⟩)); have n7_ := Aside0.mk (Kept.then_ (S := (fun k_ => ((P0_17_ k_ ∨ False) ∨ k_ = g) ∨ k_ = gs0)) ((kkq8 HK.out)) hkp (fun k_ hs_ => Or.elim hs_ (fun hs_ => Or.elim hs_ (fun hs_ => (fun e_ => Or.imp_left (fun h_ => .inl (.inl (h_))) ((HO_51001.out.1 k_ e_.symm).1)) hs_) (fun e_ => .inl (.inl (.inr e_)))) (fun e_ => .inl (.inr e_)))); have n8_ := Aside0.mk (hb); clear HO_647009; clear BK0; clear BK50; clear BK646; clear BK647; clear BK648; clear HK; clear HB; clear HO_51001; have HO_647009 := n0_; have BK0 := n1_; have BK50 := n2_; have BK646 := n3_; have BK647 := n4_; have BK648 := n5_; have HO668 := n6_; have HK := n7_; have HB := n8_; clear n0_ n1_ n2_ n3_ n4_ n5_ n6_ n7_ n8_; (try clear hb); (try clear hkp); (try clear ho0); have hnb47 := NB646_0.out; have hnc47 := NB0_646.out; have hnb48 := NB646_50.out; have hnc48 := NB50_646.out; have hnb49 := NB646_648.out; have hnc49 := NB648_646.out; obtain ⟨hcz50_0, hcz50_1, hcz50_2, hcz50_3, hcz50_4, hcz50_5, hcz50_6, hcz50_7, hcz50_8, hcz50_9, hcz50_10, hcz50_11, hcz50_12⟩ := bc13q8 BK646.out; have hfz50_0 := fun i_ => blk_frozen BK646.out i_; have hnb51 := NB648_0.out; have hnc51 := NB0_648.out; have hnb52 := NB648_50.out; have hnc52 := NB50_648.out; obtain ⟨hcz53_0, hcz53_1, hcz53_2, hcz53_3, hcz53_4, hcz53_5, hcz53_6, hcz53_7, hcz53_8, hcz53_9, hcz53_10, hcz53_11, hcz53_12⟩ := bc13q8 BK648.out; have hfz53_0 := fun i_ => blk_frozen BK648.out i_))
          refine bodyPost_ret (results_ct rfl _ _ gb648 41 #[.int .i64 a1_0, .int .i64 a1_1, .int .i64 a1_2, .int .i64 a1_3, .int .i64 a1_4, .int .i64 a1_5, .int .i64 a1_6, .int .i64 a1_7, .int .i64 a1_8, .slice Ao5 l1_9.length co5, .int .i64 a1_10, .bool a1_11, .int .i64 a1_12] (0, 0) _ rfl (by refine bzq8 ?_; refine btq8 (i := 12) ?_; refine btq8 (i := 11) ?_; refine btq8 (i := 10) ?_; refine btq8 (i := 9) ?_; refine btq8 (i := 8) ?_; refine btq8 (i := 7) ?_; refine btq8 (i := 6) ?_; refine btq8 (i := 5) ?_; refine btq8 (i := 4) ?_; refine btq8 (i := 3) ?_; refine btq8 (i := 2) ?_; refine btq8 (i := 1) ?_; refine btq8 (i := 0) ?_; exact ⟨_, bpq8 BK648.out, by first | (simp only [List.setIfInBounds_toArray, List.set_cons_zero, List.set_cons_succ]; done) | rfl⟩) Try.underlying41 rfl (by kernel_rfl)) rfl ?_
          exact ⟨_, _, by first | rfl | (simp [errW_none, errW_some] <;> rfl) | (simp [*, errW_none, errW_some] <;> rfl), by (with_reducible repeat (first | apply Kd.R_alloc | apply Kd.R_drewN | apply Kd.R_drew)); exact Kd.R_mono (Kd.R_far (Kd.R_far (Kd.R_far (Kd.R_far (Kd.R_far (Kd.R_far (Kd.R_far (Kd.R_far (Kd.R_far (Kd.R_far (Kd.R_far (Kd.R_far (Kd.R_far (Kd.R_types HO_647009.out BK648.out (by decide)) (fun _ hk => hk.2) _) (fun _ hk => hk.2) _) (fun _ hk => hk.2) _) (fun _ hk => hk.2) _) (fun _ hk => hk.2) _) (fun _ hk => hk.2) _) (fun _ hk => hk.2) _) (fun _ hk => hk.2) _) (fun _ hk => hk.2) _) (fun _ hk => hk.2) _) (fun _ hk => hk.2) _) (fun _ hk => hk.2) _) (fun _ hk => hk.2) _) (fun _ hk => ⟨hk.1.1, hk.1.2⟩), by (with_reducible repeat (first | apply Kd.R_alloc | apply Kd.R_drewN | apply Kd.R_drew)); exact Kd.R_mono (Kd.R_far (Kd.R_far (Kd.R_far (Kd.R_far (Kd.R_far (Kd.R_far (Kd.R_far (Kd.R_far (Kd.R_far (Kd.R_far (Kd.R_far (Kd.R_far (Kd.R_far (Kd.R_types HO668.out BK648.out (by decide)) (fun _ hk => hk.2) _) (fun _ hk => hk.2) _) (fun _ hk => hk.2) _) (fun _ hk => hk.2) _) (fun _ hk => hk.2) _) (fun _ hk => hk.2) _) (fun _ hk => hk.2) _) (fun _ hk => hk.2) _) (fun _ hk => hk.2) _) (fun _ hk => hk.2) _) (fun _ hk => hk.2) _) (fun _ hk => hk.2) _) (fun _ hk => hk.2) _) (fun _ hk => ⟨hk.1.1, hk.1.2⟩), (by refine bfq8 NB0_648.out ?_; refine bfq8 NB0_648.out ?_; refine bfq8 NB0_648.out ?_; refine bfq8 NB0_648.out ?_; refine bfq8 NB0_648.out ?_; refine bfq8 NB0_648.out ?_; refine bfq8 NB0_648.out ?_; refine bfq8 NB0_648.out ?_; refine bfq8 NB0_648.out ?_; refine bfq8 NB0_648.out ?_; refine bfq8 NB0_648.out ?_; refine bfq8 NB0_648.out ?_; refine bfq8 NB0_648.out ?_; exact bpq8 BK0.out), (by refine bfq8 NB50_648.out ?_; refine bfq8 NB50_648.out ?_; refine bfq8 NB50_648.out ?_; refine bfq8 NB50_648.out ?_; refine bfq8 NB50_648.out ?_; refine bfq8 NB50_648.out ?_; refine bfq8 NB50_648.out ?_; refine bfq8 NB50_648.out ?_; refine bfq8 NB50_648.out ?_; refine bfq8 NB50_648.out ?_; refine bfq8 NB50_648.out ?_; refine bfq8 NB50_648.out ?_; refine bfq8 NB50_648.out ?_; exact bpq8 BK50.out), (bbq8 HB.out), (kkq8 HK.out)⟩
      · rw [if_neg c20] at H
        have c20b0 : (a2_0 == 1) = false := beq_eq_false_iff_ne.mpr c20
        have c20b1 : (a2_0 != 1) = true := bne_iff_ne.mpr c20
        obtain ⟨ji54, hji54⟩ : ∃ j_ : Int, (mx a2_3 (-5)) = j_ := ⟨_, rfl⟩
        replace H : ((detect_Detect_On.f kj3 s0_0 s0_1 s0_2 s0_3 s0_4 s0_5 s0_6 s0_7 s0_8 s0_9 s0_10 s0_11 s0_12 s0_13 s0_14 s0_15 s0_16 l0_17 s0_18 s0_19 s0_20 a2_1 a2_2 (wrap64 (a1_12 + (mn (ji54) 1048576))) a2_4).bind fun bt681 => (if x8_3 = true then ((terracelaw15_within.f (wrap64 (a1_12 + (mn (ji54) 1048576)))).bind fun t709 => (if t709 = true then ((terracelaw15_within.f a2_4).bind fun t710 => (terracelaw15_step.j1 kj3 (wrap64 (a1_12 + (mn (ji54) 1048576))) bt681.2.2.2.1 (!t710) bt681.2.2.2.2.1 bt681.2.2.2.2.2.1 bt681.2.2.2.2.2.2.1 bt681.2.2.2.2.2.2.2.1 bt681.2.2.2.2.2.2.2.2.1 bt681.2.2.2.2.2.2.2.2.2.1 bt681.2.2.2.2.2.2.2.2.2.2.1 bt681.2.2.2.2.2.2.2.2.2.2.2.1 bt681.2.2.2.2.2.2.2.2.2.2.2.2.1 bt681.2.2.2.2.2.2.2.2.2.2.2.2.2.1 bt681.2.2.2.2.2.2.2.2.2.2.2.2.2.2.1 bt681.2.2.2.2.2.2.2.2.2.2.2.2.2.2.2.1 bt681.2.2.2.2.2.2.2.2.2.2.2.2.2.2.2.2.1 bt681.2.2.2.2.2.2.2.2.2.2.2.2.2.2.2.2.2.1 bt681.2.2.2.2.2.2.2.2.2.2.2.2.2.2.2.2.2.2.1 bt681.2.2.2.2.2.2.2.2.2.2.2.2.2.2.2.2.2.2.2.1 bt681.2.2.2.2.2.2.2.2.2.2.2.2.2.2.2.2.2.2.2.2.2.2.1 bt681.2.2.2.2.2.2.2.2.2.2.2.2.2.2.2.2.2.2.2.2.2.2.2.1 bt681.2.2.2.2.2.2.2.2.2.2.2.2.2.2.2.2.2.2.2.2.2.2.2.2 bt681.2.2.2.2.2.2.2.2.2.2.2.2.2.2.2.2.2.2.2.2.1 bt681.2.2.2.2.2.2.2.2.2.2.2.2.2.2.2.2.2.2.2.2.2.1 a1_0 a1_1 a1_2 a1_3 a1_4 a1_5 a1_6 a1_7 a1_8 l1_9 a1_10 a1_11 a1_12 a2_0 a2_1 a2_2 a2_3 a2_4 bt681.1 bt681.2.1 bt681.2.2.1)) else (terracelaw15_step.j1 kj3 (wrap64 (a1_12 + (mn (ji54) 1048576))) bt681.2.2.2.1 true bt681.2.2.2.2.1 bt681.2.2.2.2.2.1 bt681.2.2.2.2.2.2.1 bt681.2.2.2.2.2.2.2.1 bt681.2.2.2.2.2.2.2.2.1 bt681.2.2.2.2.2.2.2.2.2.1 bt681.2.2.2.2.2.2.2.2.2.2.1 bt681.2.2.2.2.2.2.2.2.2.2.2.1 bt681.2.2.2.2.2.2.2.2.2.2.2.2.1 bt681.2.2.2.2.2.2.2.2.2.2.2.2.2.1 bt681.2.2.2.2.2.2.2.2.2.2.2.2.2.2.1 bt681.2.2.2.2.2.2.2.2.2.2.2.2.2.2.2.1 bt681.2.2.2.2.2.2.2.2.2.2.2.2.2.2.2.2.1 bt681.2.2.2.2.2.2.2.2.2.2.2.2.2.2.2.2.2.1 bt681.2.2.2.2.2.2.2.2.2.2.2.2.2.2.2.2.2.2.1 bt681.2.2.2.2.2.2.2.2.2.2.2.2.2.2.2.2.2.2.2.1 bt681.2.2.2.2.2.2.2.2.2.2.2.2.2.2.2.2.2.2.2.2.2.2.1 bt681.2.2.2.2.2.2.2.2.2.2.2.2.2.2.2.2.2.2.2.2.2.2.2.1 bt681.2.2.2.2.2.2.2.2.2.2.2.2.2.2.2.2.2.2.2.2.2.2.2.2 bt681.2.2.2.2.2.2.2.2.2.2.2.2.2.2.2.2.2.2.2.2.1 bt681.2.2.2.2.2.2.2.2.2.2.2.2.2.2.2.2.2.2.2.2.2.1 a1_0 a1_1 a1_2 a1_3 a1_4 a1_5 a1_6 a1_7 a1_8 l1_9 a1_10 a1_11 a1_12 a2_0 a2_1 a2_2 a2_3 a2_4 bt681.1 bt681.2.1 bt681.2.2.1))) else (terracelaw15_step.j1 kj3 (wrap64 (a1_12 + (mn (ji54) 1048576))) bt681.2.2.2.1 true bt681.2.2.2.2.1 bt681.2.2.2.2.2.1 bt681.2.2.2.2.2.2.1 bt681.2.2.2.2.2.2.2.1 bt681.2.2.2.2.2.2.2.2.1 bt681.2.2.2.2.2.2.2.2.2.1 bt681.2.2.2.2.2.2.2.2.2.2.1 bt681.2.2.2.2.2.2.2.2.2.2.2.1 bt681.2.2.2.2.2.2.2.2.2.2.2.2.1 bt681.2.2.2.2.2.2.2.2.2.2.2.2.2.1 bt681.2.2.2.2.2.2.2.2.2.2.2.2.2.2.1 bt681.2.2.2.2.2.2.2.2.2.2.2.2.2.2.2.1 bt681.2.2.2.2.2.2.2.2.2.2.2.2.2.2.2.2.1 bt681.2.2.2.2.2.2.2.2.2.2.2.2.2.2.2.2.2.1 bt681.2.2.2.2.2.2.2.2.2.2.2.2.2.2.2.2.2.2.1 bt681.2.2.2.2.2.2.2.2.2.2.2.2.2.2.2.2.2.2.2.1 bt681.2.2.2.2.2.2.2.2.2.2.2.2.2.2.2.2.2.2.2.2.2.2.1 bt681.2.2.2.2.2.2.2.2.2.2.2.2.2.2.2.2.2.2.2.2.2.2.2.1 bt681.2.2.2.2.2.2.2.2.2.2.2.2.2.2.2.2.2.2.2.2.2.2.2.2 bt681.2.2.2.2.2.2.2.2.2.2.2.2.2.2.2.2.2.2.2.2.1 bt681.2.2.2.2.2.2.2.2.2.2.2.2.2.2.2.2.2.2.2.2.2.1 a1_0 a1_1 a1_2 a1_3 a1_4 a1_5 a1_6 a1_7 a1_8 l1_9 a1_10 a1_11 a1_12 a2_0 a2_1 a2_2 a2_3 a2_4 bt681.1 bt681.2.1 bt681.2.2.1))) = some (r1, r2, r3, r4, r5, r6, r7, r8, r9, r10, r11, r12, r13, r14, r15, r16, r17, r18, r19, r20, r21, r22, r23, r24, r25, r26, r27, r28, r29, r30, r31, r32, r33, r34, r35) := by first | (rw [hji54] at H; exact H) | (simp only [hji54] at H ⊢; exact H)
        have hji54_ : (if a2_3 < (-5) then (-5) else a2_3) = ji54 := hji54
        obtain ⟨ji55, hji55⟩ : ∃ j_ : Int, (mn (ji54) 1048576) = j_ := ⟨_, rfl⟩
        replace H : ((detect_Detect_On.f kj3 s0_0 s0_1 s0_2 s0_3 s0_4 s0_5 s0_6 s0_7 s0_8 s0_9 s0_10 s0_11 s0_12 s0_13 s0_14 s0_15 s0_16 l0_17 s0_18 s0_19 s0_20 a2_1 a2_2 (wrap64 (a1_12 + (ji55))) a2_4).bind fun bt681 => (if x8_3 = true then ((terracelaw15_within.f (wrap64 (a1_12 + (ji55)))).bind fun t709 => (if t709 = true then ((terracelaw15_within.f a2_4).bind fun t710 => (terracelaw15_step.j1 kj3 (wrap64 (a1_12 + (ji55))) bt681.2.2.2.1 (!t710) bt681.2.2.2.2.1 bt681.2.2.2.2.2.1 bt681.2.2.2.2.2.2.1 bt681.2.2.2.2.2.2.2.1 bt681.2.2.2.2.2.2.2.2.1 bt681.2.2.2.2.2.2.2.2.2.1 bt681.2.2.2.2.2.2.2.2.2.2.1 bt681.2.2.2.2.2.2.2.2.2.2.2.1 bt681.2.2.2.2.2.2.2.2.2.2.2.2.1 bt681.2.2.2.2.2.2.2.2.2.2.2.2.2.1 bt681.2.2.2.2.2.2.2.2.2.2.2.2.2.2.1 bt681.2.2.2.2.2.2.2.2.2.2.2.2.2.2.2.1 bt681.2.2.2.2.2.2.2.2.2.2.2.2.2.2.2.2.1 bt681.2.2.2.2.2.2.2.2.2.2.2.2.2.2.2.2.2.1 bt681.2.2.2.2.2.2.2.2.2.2.2.2.2.2.2.2.2.2.1 bt681.2.2.2.2.2.2.2.2.2.2.2.2.2.2.2.2.2.2.2.1 bt681.2.2.2.2.2.2.2.2.2.2.2.2.2.2.2.2.2.2.2.2.2.2.1 bt681.2.2.2.2.2.2.2.2.2.2.2.2.2.2.2.2.2.2.2.2.2.2.2.1 bt681.2.2.2.2.2.2.2.2.2.2.2.2.2.2.2.2.2.2.2.2.2.2.2.2 bt681.2.2.2.2.2.2.2.2.2.2.2.2.2.2.2.2.2.2.2.2.1 bt681.2.2.2.2.2.2.2.2.2.2.2.2.2.2.2.2.2.2.2.2.2.1 a1_0 a1_1 a1_2 a1_3 a1_4 a1_5 a1_6 a1_7 a1_8 l1_9 a1_10 a1_11 a1_12 a2_0 a2_1 a2_2 a2_3 a2_4 bt681.1 bt681.2.1 bt681.2.2.1)) else (terracelaw15_step.j1 kj3 (wrap64 (a1_12 + (ji55))) bt681.2.2.2.1 true bt681.2.2.2.2.1 bt681.2.2.2.2.2.1 bt681.2.2.2.2.2.2.1 bt681.2.2.2.2.2.2.2.1 bt681.2.2.2.2.2.2.2.2.1 bt681.2.2.2.2.2.2.2.2.2.1 bt681.2.2.2.2.2.2.2.2.2.2.1 bt681.2.2.2.2.2.2.2.2.2.2.2.1 bt681.2.2.2.2.2.2.2.2.2.2.2.2.1 bt681.2.2.2.2.2.2.2.2.2.2.2.2.2.1 bt681.2.2.2.2.2.2.2.2.2.2.2.2.2.2.1 bt681.2.2.2.2.2.2.2.2.2.2.2.2.2.2.2.1 bt681.2.2.2.2.2.2.2.2.2.2.2.2.2.2.2.2.1 bt681.2.2.2.2.2.2.2.2.2.2.2.2.2.2.2.2.2.1 bt681.2.2.2.2.2.2.2.2.2.2.2.2.2.2.2.2.2.2.1 bt681.2.2.2.2.2.2.2.2.2.2.2.2.2.2.2.2.2.2.2.1 bt681.2.2.2.2.2.2.2.2.2.2.2.2.2.2.2.2.2.2.2.2.2.2.1 bt681.2.2.2.2.2.2.2.2.2.2.2.2.2.2.2.2.2.2.2.2.2.2.2.1 bt681.2.2.2.2.2.2.2.2.2.2.2.2.2.2.2.2.2.2.2.2.2.2.2.2 bt681.2.2.2.2.2.2.2.2.2.2.2.2.2.2.2.2.2.2.2.2.1 bt681.2.2.2.2.2.2.2.2.2.2.2.2.2.2.2.2.2.2.2.2.2.1 a1_0 a1_1 a1_2 a1_3 a1_4 a1_5 a1_6 a1_7 a1_8 l1_9 a1_10 a1_11 a1_12 a2_0 a2_1 a2_2 a2_3 a2_4 bt681.1 bt681.2.1 bt681.2.2.1))) else (terracelaw15_step.j1 kj3 (wrap64 (a1_12 + (ji55))) bt681.2.2.2.1 true bt681.2.2.2.2.1 bt681.2.2.2.2.2.1 bt681.2.2.2.2.2.2.1 bt681.2.2.2.2.2.2.2.1 bt681.2.2.2.2.2.2.2.2.1 bt681.2.2.2.2.2.2.2.2.2.1 bt681.2.2.2.2.2.2.2.2.2.2.1 bt681.2.2.2.2.2.2.2.2.2.2.2.1 bt681.2.2.2.2.2.2.2.2.2.2.2.2.1 bt681.2.2.2.2.2.2.2.2.2.2.2.2.2.1 bt681.2.2.2.2.2.2.2.2.2.2.2.2.2.2.1 bt681.2.2.2.2.2.2.2.2.2.2.2.2.2.2.2.1 bt681.2.2.2.2.2.2.2.2.2.2.2.2.2.2.2.2.1 bt681.2.2.2.2.2.2.2.2.2.2.2.2.2.2.2.2.2.1 bt681.2.2.2.2.2.2.2.2.2.2.2.2.2.2.2.2.2.2.1 bt681.2.2.2.2.2.2.2.2.2.2.2.2.2.2.2.2.2.2.2.1 bt681.2.2.2.2.2.2.2.2.2.2.2.2.2.2.2.2.2.2.2.2.2.2.1 bt681.2.2.2.2.2.2.2.2.2.2.2.2.2.2.2.2.2.2.2.2.2.2.2.1 bt681.2.2.2.2.2.2.2.2.2.2.2.2.2.2.2.2.2.2.2.2.2.2.2.2 bt681.2.2.2.2.2.2.2.2.2.2.2.2.2.2.2.2.2.2.2.2.1 bt681.2.2.2.2.2.2.2.2.2.2.2.2.2.2.2.2.2.2.2.2.2.1 a1_0 a1_1 a1_2 a1_3 a1_4 a1_5 a1_6 a1_7 a1_8 l1_9 a1_10 a1_11 a1_12 a2_0 a2_1 a2_2 a2_3 a2_4 bt681.1 bt681.2.1 bt681.2.2.1))) = some (r1, r2, r3, r4, r5, r6, r7, r8, r9, r10, r11, r12, r13, r14, r15, r16, r17, r18, r19, r20, r21, r22, r23, r24, r25, r26, r27, r28, r29, r30, r31, r32, r33, r34, r35) := by first | (rw [hji55] at H; exact H) | (simp only [hji55] at H ⊢; exact H)
        have hji55_ : (if 1048576 < (ji54) then 1048576 else (ji54)) = ji55 := hji55
        replace H := Option.bind_eq_some_iff.mp H
        obtain ⟨⟨t681, t682, t683, t684, t685, t686, t687, t688, t689, t690, t691, t692, t693, t694, t695, t696, t697, t698, t699, t700, t701, t702, t705, t706, t707⟩, A560, H⟩ := H
        replace H : (if x8_3 = true then ((terracelaw15_within.f (wrap64 (a1_12 + (ji55)))).bind fun t709 => (if t709 = true then ((terracelaw15_within.f a2_4).bind fun t710 => (terracelaw15_step.j1 kj3 (wrap64 (a1_12 + (ji55))) t684 (!t710) t685 t686 t687 t688 t689 t690 t691 t692 t693 t694 t695 t696 t697 t698 t699 t700 t705 t706 t707 t701 t702 a1_0 a1_1 a1_2 a1_3 a1_4 a1_5 a1_6 a1_7 a1_8 l1_9 a1_10 a1_11 a1_12 a2_0 a2_1 a2_2 a2_3 a2_4 t681 t682 t683)) else (terracelaw15_step.j1 kj3 (wrap64 (a1_12 + (ji55))) t684 true t685 t686 t687 t688 t689 t690 t691 t692 t693 t694 t695 t696 t697 t698 t699 t700 t705 t706 t707 t701 t702 a1_0 a1_1 a1_2 a1_3 a1_4 a1_5 a1_6 a1_7 a1_8 l1_9 a1_10 a1_11 a1_12 a2_0 a2_1 a2_2 a2_3 a2_4 t681 t682 t683))) else (terracelaw15_step.j1 kj3 (wrap64 (a1_12 + (ji55))) t684 true t685 t686 t687 t688 t689 t690 t691 t692 t693 t694 t695 t696 t697 t698 t699 t700 t705 t706 t707 t701 t702 a1_0 a1_1 a1_2 a1_3 a1_4 a1_5 a1_6 a1_7 a1_8 l1_9 a1_10 a1_11 a1_12 a2_0 a2_1 a2_2 a2_3 a2_4 t681 t682 t683)) = some (r1, r2, r3, r4, r5, r6, r7, r8, r9, r10, r11, r12, r13, r14, r15, r16, r17, r18, r19, r20, r21, r22, r23, r24, r25, r26, r27, r28, r29, r30, r31, r32, r33, r34, r35) := H
        have A56 := Aside0.mk A560
        clear A560
        have HC57 := Aside0.mk H
        clear H
        have hnb58 := NB647_0.out
        have hnc58 := NB0_647.out
        have hnb59 := NB647_50.out
        have hnc59 := NB50_647.out
        have hnb60 := NB647_646.out
        have hnc60 := NB646_647.out
        have hnb61 := NB647_648.out
        have hnc61 := NB648_647.out
        obtain ⟨hcz62_0, hcz62_1, hcz62_2, hcz62_3, hcz62_4⟩ := bc5q8 BK647.out
        have hfz62_0 := fun i_ => blk_frozen BK647.out i_
        have hnb63 := NB646_0.out
        have hnc63 := NB0_646.out
        have hnb64 := NB646_50.out
        have hnc64 := NB50_646.out
        have hnb65 := NB646_648.out
        have hnc65 := NB648_646.out
        obtain ⟨hcz66_0, hcz66_1, hcz66_2, hcz66_3, hcz66_4, hcz66_5, hcz66_6, hcz66_7, hcz66_8, hcz66_9, hcz66_10, hcz66_11, hcz66_12⟩ := bc13q8 BK646.out
        have hfz66_0 := fun i_ => blk_frozen BK646.out i_
        go_upto_region 9 with (first | ((with_reducible refine gate_callee (f := 10) rfl ?_); refine goesL_ (some 53) rfl rfl Try.func10 (by kernel_rfl) rfl #[.pointer (some ⟨g, 0, none⟩), .int .i64 a2_1, .int .u32 a2_2, .int .i64 (wrap64 (a1_12 + (ji55))), .int .i64 a2_4] rfl (by (try simp only [List.map_toArray, List.map_cons, List.map_nil]); first | done | (simp only [hji55]; rfl) | rfl | (simp only [List.length_drop, List.length_take]; rfl)) ?_; (with_reducible refine (detect_Detect_On.calls kj3 g gs0 s0_0 s0_1 s0_2 s0_3 s0_4 s0_5 s0_6 s0_7 s0_8 s0_9 s0_10 s0_11 s0_12 s0_13 s0_14 s0_15 s0_16 (fun k_ => some k_ = (u9000_ : Value).ownBlock) u9000_ l0_17 s0_18 s0_19 s0_20 a2_1 a2_2 (wrap64 (a1_12 + (ji55))) a2_4 t681 t682 t683 t684 t685 t686 t687 t688 t689 t690 t691 t692 t693 t694 t695 t696 t697 t698 t699 t700 t701 t702 t705 t706 t707 w0 _ ?side1 ?side2 ?side3 ?side4 ?side5 ?side6 A56.out).mono ?_); (case side1 => exact bpq8 BK0.out); (case side2 => exact GE0.out); (case side3 => exact bpq8 BK50.out); (case side4 => exact GE50.out); (case side5 => repeat (first | (with_reducible first | exact HB.out | apply below_alloc | apply pw_below_drewN | apply below_drew1 | refine below_set ?_ GE0.out | refine below_set ?_ GE50.out | refine below_set ?_ GE646.out | refine below_set ?_ GE647.out | refine below_set ?_ GE648.out) | exact HB.out)); (case side6 => exact Kd.R_tight rfl HO_51001.out); rintro e w67 ⟨v703, rfl, ho0, hi, hi1, hb, hkp⟩; refine ⟨_, rfl, ?_⟩; have n0_ := Aside0.mk (Kd.R_mono (ok' := fun k_ => ((False ∨ P1_9_ k_) ∨ w.heap.size ≤ k_) ∧ some k_ ≠ (v703 : Value).ownBlock) (Kd.R_keptB ((Kd.R_types (Kd.R_types HO_647009.out BK50.out (by decide)) BK0.out (by decide))) hkp (fun k_ hk_ hs_ => Or.elim hs_ (fun hs_ => Or.elim hs_ (fun hs_ => (hk_.1.1.2) hs_) (fun e_ => (hk_.2) e_)) (fun e_ => (hk_.1.2) e_))) (fun k_ hk_ => ⟨hk_.1.1.1.1, fun e_ => Or.elim (ho0.1 k_ e_.symm) (fun hs_ => hk_.2.1 (.inl (.inl hs_))) (fun hn_ => Nat.not_le.2 hk_.2.2 hn_)⟩)); have n1_ := Aside0.mk (hi); have n2_ := Aside0.mk (hi1); have n3_ := Aside0.mk (blk_kept (by exact bpq8 BK646.out) hkp (fun hs_ => Or.elim hs_ (fun hs_ => Or.elim hs_ (fun hs_ => (fun e_ => (Kd.R_ne HO_51001.out BK646.out (by decide)) e_) hs_) (fun e_ => NB646_0.out e_)) (fun e_ => NB646_50.out e_))); have n4_ := Aside0.mk (blk_kept (by exact bpq8 BK647.out) hkp (fun hs_ => Or.elim hs_ (fun hs_ => Or.elim hs_ (fun hs_ => (fun e_ => (Kd.R_ne HO_51001.out BK647.out (by decide)) e_) hs_) (fun e_ => NB647_0.out e_)) (fun e_ => NB647_50.out e_))); have n5_ := Aside0.mk (blk_kept (by exact bpq8 BK648.out) hkp (fun hs_ => Or.elim hs_ (fun hs_ => Or.elim hs_ (fun hs_ => (fun e_ => (Kd.R_ne HO_51001.out BK648.out (by decide)) e_) hs_) (fun e_ => NB648_0.out e_)) (fun e_ => NB648_50.out e_))); have n6_ := Aside0.mk (Kd.R_mono (ok' := fun k_ => ((P0_17_ k_ ∨ False) ∨ w.heap.size ≤ k_) ∧ some k_ ≠ (.slice Ao5 l1_9.length co5 : Value).ownBlock) ho0 (fun k_ hk_ => ⟨Or.elim hk_ (fun hs_ => (HO_51001.out.1 k_ (hs_).symm).1) (fun hn_ => (.inr (Nat.le_trans (by first | exact HK.out.1 | exact (show Kept w _ (fun k_ => ((P0_17_ k_ ∨ False) ∨ k_ = g) ∨ k_ = gs0) from (kkq8 HK.out)).1) hn_))), Or.elim hk_ (fun hs_ => fun e_ => ((((Kd.R_types (Kd.R_types HO_647009.out BK50.out (by decide)) BK0.out (by decide))).1 k_ e_.symm).1.1.2) hs_) (fun hn_ => (Kd.fresh' (Kd.R_lt (by (with_reducible repeat (first | apply Kd.R_alloc | apply Kd.R_drewN | apply Kd.R_drew)); exact HO_647009.out)) k_ hn_))⟩)); have n7_ := Aside0.mk (Kept.then_ (S := (fun k_ => ((P0_17_ k_ ∨ False) ∨ k_ = g) ∨ k_ = gs0)) ((kkq8 HK.out)) hkp (fun k_ hs_ => Or.elim hs_ (fun hs_ => Or.elim hs_ (fun hs_ => (fun e_ => Or.imp_left (fun h_ => .inl (.inl (h_))) ((HO_51001.out.1 k_ e_.symm).1)) hs_) (fun e_ => .inl (.inl (.inr e_)))) (fun e_ => .inl (.inr e_)))); have n8_ := Aside0.mk (hb); clear HO_647009; clear BK0; clear BK50; clear BK646; clear BK647; clear BK648; clear HK; clear HB; clear HO_51001; have HO_647009 := n0_; have BK0 := n1_; have BK50 := n2_; have BK646 := n3_; have BK647 := n4_; have BK648 := n5_; have HO704 := n6_; have HK := n7_; have HB := n8_; clear n0_ n1_ n2_ n3_ n4_ n5_ n6_ n7_ n8_; (try clear hb); (try clear hkp); (try clear ho0)) | ((with_reducible refine gate_dst (N := 10) rfl ?_); refine box_event ?hg (N := 10) ?hd (cs := #[.int .i64 0, .bool false, .bool false]) (t := 31) ?hr ?_; (case hd => rfl); (case hg => rfl); (case hr => first | (go_simp; done) | (go_simp; rfl)); intro gb708 hg w68 hbox hb; have n0_ := Aside0.mk (Kd.R_below (by (with_reducible repeat (first | apply Kd.R_alloc | apply Kd.R_drewN | apply Kd.R_drew)); exact HO_647009.out) hb); have n1_ := Aside0.mk (Kd.R_below (by (with_reducible repeat (first | apply Kd.R_alloc | apply Kd.R_drewN | apply Kd.R_drew)); exact HO704.out) hb); have n2_ := Aside0.mk (blk_below (bpq8 BK0.out) hb); have n3_ := Aside0.mk (blk_below (bpq8 BK50.out) hb); have n4_ := Aside0.mk (blk_below (bpq8 BK646.out) hb); have n5_ := Aside0.mk (blk_below (bpq8 BK647.out) hb); have n6_ := Aside0.mk (blk_below (bpq8 BK648.out) hb); have n7_ := Aside0.mk (Kept.below (S := (fun k_ => ((P0_17_ k_ ∨ False) ∨ k_ = g) ∨ k_ = gs0)) ((kkq8 HK.out)) hb); have n8_ := Aside0.mk (below_step ((bbq8 HB.out)) hb); have n9_ := Aside0.mk (hbox); have n10_ := Aside0.mk ((by rw [hg]; exact (by first | exact HK.out.1 | exact (show Kept w _ (fun k_ => ((P0_17_ k_ ∨ False) ∨ k_ = g) ∨ k_ = gs0) from (kkq8 HK.out)).1) : w.heap.size ≤ gb708)); have n11_ := Aside0.mk ((by rw [hg]; exact (below_size ((bbq8 HB.out))) : w0.heap.size ≤ gb708)); have n12_ := Aside0.mk ((by rw [hg]; exact Nat.ne_of_lt (blk_lt (bpq8 BK0.out)) : g ≠ gb708)); have n13_ := Aside0.mk ((by rw [hg]; exact Nat.ne_of_gt (blk_lt (bpq8 BK0.out)) : gb708 ≠ g)); have n14_ := Aside0.mk ((by rw [hg]; exact Nat.ne_of_lt (blk_lt (bpq8 BK50.out)) : gs0 ≠ gb708)); have n15_ := Aside0.mk ((by rw [hg]; exact Nat.ne_of_gt (blk_lt (bpq8 BK50.out)) : gb708 ≠ gs0)); have n16_ := Aside0.mk ((by rw [hg]; exact Nat.ne_of_lt (blk_lt (bpq8 BK646.out)) : gb646 ≠ gb708)); have n17_ := Aside0.mk ((by rw [hg]; exact Nat.ne_of_gt (blk_lt (bpq8 BK646.out)) : gb708 ≠ gb646)); have n18_ := Aside0.mk ((by rw [hg]; exact Nat.ne_of_lt (blk_lt (bpq8 BK647.out)) : gb647 ≠ gb708)); have n19_ := Aside0.mk ((by rw [hg]; exact Nat.ne_of_gt (blk_lt (bpq8 BK647.out)) : gb708 ≠ gb647)); have n20_ := Aside0.mk ((by rw [hg]; exact Nat.ne_of_lt (blk_lt (bpq8 BK648.out)) : gb648 ≠ gb708)); have n21_ := Aside0.mk ((by rw [hg]; exact Nat.ne_of_gt (blk_lt (bpq8 BK648.out)) : gb708 ≠ gb648)); clear HO_647009; clear HO704; clear BK0; clear BK50; clear BK646; clear BK647; clear BK648; clear HK; clear HB; have HO_647009 := n0_; have HO704 := n1_; have BK0 := n2_; have BK50 := n3_; have BK646 := n4_; have BK647 := n5_; have BK648 := n6_; have HK := n7_; have HB := n8_; have BK708 := n9_; have GW708 := n10_; have GE708 := n11_; have NB0_708 := n12_; have NB708_0 := n13_; have NB50_708 := n14_; have NB708_50 := n15_; have NB646_708 := n16_; have NB708_646 := n17_; have NB647_708 := n18_; have NB708_647 := n19_; have NB648_708 := n20_; have NB708_648 := n21_; clear n0_ n1_ n2_ n3_ n4_ n5_ n6_ n7_ n8_ n9_ n10_ n11_ n12_ n13_ n14_ n15_ n16_ n17_ n18_ n19_ n20_ n21_; clear hb hbox hg; have hnb69 := NB708_0.out; have hnc69 := NB0_708.out; have hnb70 := NB708_50.out; have hnc70 := NB50_708.out; have hnb71 := NB708_646.out; have hnc71 := NB646_708.out; have hnb72 := NB708_647.out; have hnc72 := NB647_708.out; have hnb73 := NB708_648.out; have hnc73 := NB648_708.out; obtain ⟨hcz74_0, hcz74_1, hcz74_2⟩ := bc3q8 BK708.out; have hfz74_0 := fun i_ => blk_frozen BK708.out i_))
        (try simp only [Act.put, List.setIfInBounds_toArray, List.set_cons_zero, List.set_cons_succ])
        go_cut [56] (fun v56 wc => ∃ (kq : Nat) (x56_56 : Bool), v56 = .bool x56_56 ∧ Aside0 (terracelaw15_step.j1 kq (wrap64 (a1_12 + (ji55))) t684 x56_56 t685 t686 t687 t688 t689 t690 t691 t692 t693 t694 t695 t696 t697 t698 t699 t700 t705 t706 t707 t701 t702 a1_0 a1_1 a1_2 a1_3 a1_4 a1_5 a1_6 a1_7 a1_8 l1_9 a1_10 a1_11 a1_12 a2_0 a2_1 a2_2 a2_3 a2_4 t681 t682 t683 = some (r1, r2, r3, r4, r5, r6, r7, r8, r9, r10, r11, r12, r13, r14, r15, r16, r17, r18, r19, r20, r21, r22, r23, r24, r25, r26, r27, r28, r29, r30, r31, r32, r33, r34, r35)) ∧ Aside0 (kq ≤ kj3) ∧ Aside0 (Kd.R (Kd.int .i64) 3 wc w0.heap.size (fun k_ => ((P0_17_ k_ ∨ False) ∨ w.heap.size ≤ k_) ∧ some k_ ≠ ((.slice Ao5 l1_9.length co5) : Value).ownBlock) v703 t702) ∧ Aside0 (Kd.R (Kd.int .i64) 3 wc w0.heap.size (fun k_ => ((False ∨ P1_9_ k_) ∨ w.heap.size ≤ k_) ∧ some k_ ≠ (v703 : Value).ownBlock) (.slice Ao5 l1_9.length co5) l1_9) ∧ Aside0 (wc.heap[g]? = some (.cells #[.int .u32 t685, .bool t686, .int .u32 t687, .bool t688, .int .u32 t689, .bool t690, .int .u32 t691, .bool t692, .int .u32 t693, .bool t694, .int .u32 t695, .bool t696, .int .u32 t697, .bool t698, .int .u32 t699, .bool t700, .pointer (some ⟨gs0, 0, none⟩), .int .i64 t705, .int .i64 t706, .bool t707] 54 (0, 0))) ∧ Aside0 (wc.heap[gs0]? = some (.cells #[.int .i64 t701, v703] 68 (0, 0))) ∧ Aside0 (wc.heap[gb646]? = some (.cells #[.int .i64 a1_0, .int .i64 a1_1, .int .i64 a1_2, .int .i64 a1_3, .int .i64 a1_4, .int .i64 a1_5, .int .i64 a1_6, .int .i64 a1_7, .int .i64 a1_8, (.slice Ao5 l1_9.length co5), .int .i64 a1_10, .bool a1_11, .int .i64 a1_12] 41 (0, 0))) ∧ Aside0 (wc.heap[gb647]? = some (.cells #[.int .i64 a2_0, .int .i64 a2_1, .int .u32 a2_2, .int .i64 a2_3, .int .i64 a2_4] 29 (0, 0))) ∧ Aside0 (wc.heap[gb648]? = some (.cells #[.int .i64 0, .int .i64 0, .int .i64 0, .int .i64 0, .int .i64 0, .int .i64 0, .int .i64 0, .int .i64 0, .int .i64 0, (.slice none 0 0), .int .i64 0, .bool false, .int .i64 0] 41 (0, 0))) ∧ Aside0 (wc.heap[gb708]? = some (.cells #[.int .i64 t681, .bool t682, .bool t683] 31 (0, 0))) ∧ Aside0 (Kept w wc (fun k_ => ((P0_17_ k_ ∨ False) ∨ k_ = g) ∨ k_ = gs0)) ∧ Aside0 (Below w0.heap.size w0 wc))
        case first =>
          have H := HC57.out
          clear HC57
          by_cases c75 : x8_3 = true
          · subst c75
            have H1 : ((terracelaw15_within.f (wrap64 (a1_12 + (ji55)))).bind fun t709 => (if t709 = true then ((terracelaw15_within.f a2_4).bind fun t710 => (terracelaw15_step.j1 kj3 (wrap64 (a1_12 + (ji55))) t684 (!t710) t685 t686 t687 t688 t689 t690 t691 t692 t693 t694 t695 t696 t697 t698 t699 t700 t705 t706 t707 t701 t702 a1_0 a1_1 a1_2 a1_3 a1_4 a1_5 a1_6 a1_7 a1_8 l1_9 a1_10 a1_11 a1_12 a2_0 a2_1 a2_2 a2_3 a2_4 t681 t682 t683)) else (terracelaw15_step.j1 kj3 (wrap64 (a1_12 + (ji55))) t684 true t685 t686 t687 t688 t689 t690 t691 t692 t693 t694 t695 t696 t697 t698 t699 t700 t705 t706 t707 t701 t702 a1_0 a1_1 a1_2 a1_3 a1_4 a1_5 a1_6 a1_7 a1_8 l1_9 a1_10 a1_11 a1_12 a2_0 a2_1 a2_2 a2_3 a2_4 t681 t682 t683))) = some (r1, r2, r3, r4, r5, r6, r7, r8, r9, r10, r11, r12, r13, r14, r15, r16, r17, r18, r19, r20, r21, r22, r23, r24, r25, r26, r27, r28, r29, r30, r31, r32, r33, r34, r35) := by rw [if_pos rfl] at H; exact H
            clear H
            have H := H1
            clear H1
            replace H := Option.bind_eq_some_iff.mp H
            obtain ⟨t709, A760, H⟩ := H
            replace H : (if t709 = true then ((terracelaw15_within.f a2_4).bind fun t710 => (terracelaw15_step.j1 kj3 (wrap64 (a1_12 + (ji55))) t684 (!t710) t685 t686 t687 t688 t689 t690 t691 t692 t693 t694 t695 t696 t697 t698 t699 t700 t705 t706 t707 t701 t702 a1_0 a1_1 a1_2 a1_3 a1_4 a1_5 a1_6 a1_7 a1_8 l1_9 a1_10 a1_11 a1_12 a2_0 a2_1 a2_2 a2_3 a2_4 t681 t682 t683)) else (terracelaw15_step.j1 kj3 (wrap64 (a1_12 + (ji55))) t684 true t685 t686 t687 t688 t689 t690 t691 t692 t693 t694 t695 t696 t697 t698 t699 t700 t705 t706 t707 t701 t702 a1_0 a1_1 a1_2 a1_3 a1_4 a1_5 a1_6 a1_7 a1_8 l1_9 a1_10 a1_11 a1_12 a2_0 a2_1 a2_2 a2_3 a2_4 t681 t682 t683)) = some (r1, r2, r3, r4, r5, r6, r7, r8, r9, r10, r11, r12, r13, r14, r15, r16, r17, r18, r19, r20, r21, r22, r23, r24, r25, r26, r27, r28, r29, r30, r31, r32, r33, r34, r35) := H
            have A76 := Aside0.mk A760
            clear A760
            by_cases c77 : t709 = true
            · subst c77
              have H1 : ((terracelaw15_within.f a2_4).bind fun t710 => (terracelaw15_step.j1 kj3 (wrap64 (a1_12 + (ji55))) t684 (!t710) t685 t686 t687 t688 t689 t690 t691 t692 t693 t694 t695 t696 t697 t698 t699 t700 t705 t706 t707 t701 t702 a1_0 a1_1 a1_2 a1_3 a1_4 a1_5 a1_6 a1_7 a1_8 l1_9 a1_10 a1_11 a1_12 a2_0 a2_1 a2_2 a2_3 a2_4 t681 t682 t683)) = some (r1, r2, r3, r4, r5, r6, r7, r8, r9, r10, r11, r12, r13, r14, r15, r16, r17, r18, r19, r20, r21, r22, r23, r24, r25, r26, r27, r28, r29, r30, r31, r32, r33, r34, r35) := by rw [if_pos rfl] at H; exact H
              clear H
              have H := H1
              clear H1
              replace H := Option.bind_eq_some_iff.mp H
              obtain ⟨t710, A780, H⟩ := H
              replace H : (terracelaw15_step.j1 kj3 (wrap64 (a1_12 + (ji55))) t684 (!t710) t685 t686 t687 t688 t689 t690 t691 t692 t693 t694 t695 t696 t697 t698 t699 t700 t705 t706 t707 t701 t702 a1_0 a1_1 a1_2 a1_3 a1_4 a1_5 a1_6 a1_7 a1_8 l1_9 a1_10 a1_11 a1_12 a2_0 a2_1 a2_2 a2_3 a2_4 t681 t682 t683) = some (r1, r2, r3, r4, r5, r6, r7, r8, r9, r10, r11, r12, r13, r14, r15, r16, r17, r18, r19, r20, r21, r22, r23, r24, r25, r26, r27, r28, r29, r30, r31, r32, r33, r34, r35) := H
              have A78 := Aside0.mk A780
              clear A780
              have H' := Aside0.mk H
              clear H
              go_wp2_with (first | (go_at_call 8; (with_reducible refine (terracelaw15_within.calls (wrap64 (a1_12 + (ji55))) true _ A76.out).mono ?_); rintro e w' ⟨rfl, ⟨nd, rfl⟩⟩; have hnb79 := NB647_0.out; have hnc79 := NB0_647.out; have hnb80 := NB647_50.out; have hnc80 := NB50_647.out; have hnb81 := NB647_646.out; have hnc81 := NB646_647.out; have hnb82 := NB647_648.out; have hnc82 := NB648_647.out; have hnb83 := NB647_708.out; have hnc83 := NB708_647.out; obtain ⟨hcz84_0, hcz84_1, hcz84_2, hcz84_3, hcz84_4⟩ := bc5q8 BK647.out; have hfz84_0 := fun i_ => blk_frozen BK647.out i_) | (go_at_call 8; (with_reducible refine (terracelaw15_within.calls a2_4 t710 _ A78.out).mono ?_); rintro e w' ⟨rfl, ⟨nd, rfl⟩⟩))
              go_meet
              case rel => exact ⟨_, (!t710), (by first | rfl | (simp; done) | (simp [*]; done)), H', ⟨by have := HJ3.out; first | omega | exact Nat.le_refl _⟩, ⟨by (with_reducible repeat (first | apply Kd.R_alloc | apply Kd.R_drewN | apply Kd.R_drew)); exact Kd.R_mono (Kd.R_far (Kd.R_far (Kd.R_far (Kd.R_types HO704.out BK708.out (by decide)) (fun _ hk => hk.2) _) (fun _ hk => hk.2) _) (fun _ hk => hk.2) _) (fun _ hk => ⟨hk.1.1, hk.1.2⟩)⟩, ⟨by (with_reducible repeat (first | apply Kd.R_alloc | apply Kd.R_drewN | apply Kd.R_drew)); exact Kd.R_mono (Kd.R_far (Kd.R_far (Kd.R_far (Kd.R_types HO_647009.out BK708.out (by decide)) (fun _ hk => hk.2) _) (fun _ hk => hk.2) _) (fun _ hk => hk.2) _) (fun _ hk => ⟨hk.1.1, hk.1.2⟩)⟩, ⟨by refine bfq8 NB0_708.out ?_; refine bfq8 NB0_708.out ?_; refine bfq8 NB0_708.out ?_; exact bpq8 BK0.out⟩, ⟨by refine bfq8 NB50_708.out ?_; refine bfq8 NB50_708.out ?_; refine bfq8 NB50_708.out ?_; exact bpq8 BK50.out⟩, ⟨by refine bfq8 NB646_708.out ?_; refine bfq8 NB646_708.out ?_; refine bfq8 NB646_708.out ?_; exact bpq8 BK646.out⟩, ⟨by refine bfq8 NB647_708.out ?_; refine bfq8 NB647_708.out ?_; refine bfq8 NB647_708.out ?_; exact bpq8 BK647.out⟩, ⟨by refine bfq8 NB648_708.out ?_; refine bfq8 NB648_708.out ?_; refine bfq8 NB648_708.out ?_; exact bpq8 BK648.out⟩, ⟨by refine bzq8 ?_; refine btq8 (i := 2) ?_; refine btq8 (i := 1) ?_; refine btq8 (i := 0) ?_; exact ⟨_, bpq8 BK708.out, rfl⟩⟩, ⟨(kkq8 HK.out)⟩, ⟨(bbq8 HB.out)⟩⟩
            · replace c77 := Bool.eq_false_iff.mpr c77
              subst c77
              have H1 : (terracelaw15_step.j1 kj3 (wrap64 (a1_12 + (ji55))) t684 true t685 t686 t687 t688 t689 t690 t691 t692 t693 t694 t695 t696 t697 t698 t699 t700 t705 t706 t707 t701 t702 a1_0 a1_1 a1_2 a1_3 a1_4 a1_5 a1_6 a1_7 a1_8 l1_9 a1_10 a1_11 a1_12 a2_0 a2_1 a2_2 a2_3 a2_4 t681 t682 t683) = some (r1, r2, r3, r4, r5, r6, r7, r8, r9, r10, r11, r12, r13, r14, r15, r16, r17, r18, r19, r20, r21, r22, r23, r24, r25, r26, r27, r28, r29, r30, r31, r32, r33, r34, r35) := by rw [if_neg (show ¬ (false = true) by decide)] at H; exact H
              clear H
              have H := H1
              clear H1
              have H' := Aside0.mk H
              clear H
              go_wp2_with (first | (go_at_call 8; (with_reducible refine (terracelaw15_within.calls (wrap64 (a1_12 + (ji55))) false _ A76.out).mono ?_); rintro e w' ⟨rfl, ⟨nd, rfl⟩⟩))
              go_meet
              case rel => exact ⟨_, (true), (by first | rfl | (simp; done) | (simp [*]; done)), H', ⟨by have := HJ3.out; first | omega | exact Nat.le_refl _⟩, ⟨by (with_reducible repeat (first | apply Kd.R_alloc | apply Kd.R_drewN | apply Kd.R_drew)); exact Kd.R_mono (Kd.R_far (Kd.R_far (Kd.R_far (Kd.R_types HO704.out BK708.out (by decide)) (fun _ hk => hk.2) _) (fun _ hk => hk.2) _) (fun _ hk => hk.2) _) (fun _ hk => ⟨hk.1.1, hk.1.2⟩)⟩, ⟨by (with_reducible repeat (first | apply Kd.R_alloc | apply Kd.R_drewN | apply Kd.R_drew)); exact Kd.R_mono (Kd.R_far (Kd.R_far (Kd.R_far (Kd.R_types HO_647009.out BK708.out (by decide)) (fun _ hk => hk.2) _) (fun _ hk => hk.2) _) (fun _ hk => hk.2) _) (fun _ hk => ⟨hk.1.1, hk.1.2⟩)⟩, ⟨by refine bfq8 NB0_708.out ?_; refine bfq8 NB0_708.out ?_; refine bfq8 NB0_708.out ?_; exact bpq8 BK0.out⟩, ⟨by refine bfq8 NB50_708.out ?_; refine bfq8 NB50_708.out ?_; refine bfq8 NB50_708.out ?_; exact bpq8 BK50.out⟩, ⟨by refine bfq8 NB646_708.out ?_; refine bfq8 NB646_708.out ?_; refine bfq8 NB646_708.out ?_; exact bpq8 BK646.out⟩, ⟨by refine bfq8 NB647_708.out ?_; refine bfq8 NB647_708.out ?_; refine bfq8 NB647_708.out ?_; exact bpq8 BK647.out⟩, ⟨by refine bfq8 NB648_708.out ?_; refine bfq8 NB648_708.out ?_; refine bfq8 NB648_708.out ?_; exact bpq8 BK648.out⟩, ⟨by refine bzq8 ?_; refine btq8 (i := 2) ?_; refine btq8 (i := 1) ?_; refine btq8 (i := 0) ?_; exact ⟨_, bpq8 BK708.out, rfl⟩⟩, ⟨(kkq8 HK.out)⟩, ⟨(bbq8 HB.out)⟩⟩
          · replace c75 := Bool.eq_false_iff.mpr c75
            subst c75
            have H1 : (terracelaw15_step.j1 kj3 (wrap64 (a1_12 + (ji55))) t684 true t685 t686 t687 t688 t689 t690 t691 t692 t693 t694 t695 t696 t697 t698 t699 t700 t705 t706 t707 t701 t702 a1_0 a1_1 a1_2 a1_3 a1_4 a1_5 a1_6 a1_7 a1_8 l1_9 a1_10 a1_11 a1_12 a2_0 a2_1 a2_2 a2_3 a2_4 t681 t682 t683) = some (r1, r2, r3, r4, r5, r6, r7, r8, r9, r10, r11, r12, r13, r14, r15, r16, r17, r18, r19, r20, r21, r22, r23, r24, r25, r26, r27, r28, r29, r30, r31, r32, r33, r34, r35) := by rw [if_neg (show ¬ (false = true) by decide)] at H; exact H
            clear H
            have H := H1
            clear H1
            have H' := Aside0.mk H
            clear H
            go_wp2
            go_meet
            case rel => exact ⟨_, (true), (by first | rfl | (simp; done) | (simp [*]; done)), H', ⟨by have := HJ3.out; first | omega | exact Nat.le_refl _⟩, ⟨by (with_reducible repeat (first | apply Kd.R_alloc | apply Kd.R_drewN | apply Kd.R_drew)); exact Kd.R_mono (Kd.R_far (Kd.R_far (Kd.R_far (Kd.R_types HO704.out BK708.out (by decide)) (fun _ hk => hk.2) _) (fun _ hk => hk.2) _) (fun _ hk => hk.2) _) (fun _ hk => ⟨hk.1.1, hk.1.2⟩)⟩, ⟨by (with_reducible repeat (first | apply Kd.R_alloc | apply Kd.R_drewN | apply Kd.R_drew)); exact Kd.R_mono (Kd.R_far (Kd.R_far (Kd.R_far (Kd.R_types HO_647009.out BK708.out (by decide)) (fun _ hk => hk.2) _) (fun _ hk => hk.2) _) (fun _ hk => hk.2) _) (fun _ hk => ⟨hk.1.1, hk.1.2⟩)⟩, ⟨by refine bfq8 NB0_708.out ?_; refine bfq8 NB0_708.out ?_; refine bfq8 NB0_708.out ?_; exact bpq8 BK0.out⟩, ⟨by refine bfq8 NB50_708.out ?_; refine bfq8 NB50_708.out ?_; refine bfq8 NB50_708.out ?_; exact bpq8 BK50.out⟩, ⟨by refine bfq8 NB646_708.out ?_; refine bfq8 NB646_708.out ?_; refine bfq8 NB646_708.out ?_; exact bpq8 BK646.out⟩, ⟨by refine bfq8 NB647_708.out ?_; refine bfq8 NB647_708.out ?_; refine bfq8 NB647_708.out ?_; exact bpq8 BK647.out⟩, ⟨by refine bfq8 NB648_708.out ?_; refine bfq8 NB648_708.out ?_; refine bfq8 NB648_708.out ?_; exact bpq8 BK648.out⟩, ⟨by refine bzq8 ?_; refine btq8 (i := 2) ?_; refine btq8 (i := 1) ?_; refine btq8 (i := 0) ?_; exact ⟨_, bpq8 BK708.out, rfl⟩⟩, ⟨(kkq8 HK.out)⟩, ⟨(bbq8 HB.out)⟩⟩
        case rest =>
          clear HC57
          try clear c1
          try clear p1
          try clear c2
          try clear p2
          try clear c3
          try clear c4
          try clear c5
          try clear c6
          try clear p6
          try clear hx6
          try clear c7
          try clear c8
          try clear c9
          try clear c9b0
          try clear c10
          try clear c11
          try clear c12
          try clear c13
          try clear c15
          try clear c16
          try clear c17
          try clear c18
          try clear c20
          try clear c20b0
          try clear c20b1
          try clear c22
          try clear c23
          try clear c23b0
          try clear c24
          try clear c24b0
          try clear c25
          try clear c26
          try clear c27
          try clear c28
          try clear c32
          try clear c33
          try clear c34
          try clear c38
          try clear c39
          try clear c41
          try clear c42
          try clear c43
          try clear c44
          try clear c47
          try clear c48
          try clear c49
          try clear c51
          try clear c52
          try clear c58
          try clear c59
          try clear c60
          try clear c61
          try clear c63
          try clear c64
          try clear p64
          try clear c65
          try clear p67
          try clear hx67
          try clear c69
          try clear c70
          try clear c71
          try clear c72
          try clear c73
          try clear c75
          try clear c77
          try clear c79
          try clear c80
          try clear c81
          try clear c82
          try clear c83
          try clear hcz14_0 hcz14_1 hcz14_2 hcz14_3 hcz14_4
          try clear hcz19_0 hcz19_1 hcz19_2 hcz19_3 hcz19_4
          try clear hcz29_0 hcz29_1 hcz29_2 hcz29_3 hcz29_4
          try clear hcz31_0 hcz31_1 hcz31_2 hcz31_3 hcz31_4
          try clear hcz35_0 hcz35_1 hcz35_10 hcz35_11 hcz35_12 hcz35_2 hcz35_3 hcz35_4 hcz35_5 hcz35_6 hcz35_7 hcz35_8 hcz35_9
          try clear hcz37_0 hcz37_1 hcz37_10 hcz37_11 hcz37_12 hcz37_2 hcz37_3 hcz37_4 hcz37_5 hcz37_6 hcz37_7 hcz37_8 hcz37_9
          try clear hcz40_0 hcz40_1 hcz40_10 hcz40_11 hcz40_12 hcz40_2 hcz40_3 hcz40_4 hcz40_5 hcz40_6 hcz40_7 hcz40_8 hcz40_9
          try clear hcz45_0 hcz45_1 hcz45_2 hcz45_3 hcz45_4
          try clear hcz50_0 hcz50_1 hcz50_10 hcz50_11 hcz50_12 hcz50_2 hcz50_3 hcz50_4 hcz50_5 hcz50_6 hcz50_7 hcz50_8 hcz50_9
          try clear hcz53_0 hcz53_1 hcz53_10 hcz53_11 hcz53_12 hcz53_2 hcz53_3 hcz53_4 hcz53_5 hcz53_6 hcz53_7 hcz53_8 hcz53_9
          try clear hcz62_0 hcz62_1 hcz62_2 hcz62_3 hcz62_4
          try clear hcz66_0 hcz66_1 hcz66_10 hcz66_11 hcz66_12 hcz66_2 hcz66_3 hcz66_4 hcz66_5 hcz66_6 hcz66_7 hcz66_8 hcz66_9
          try clear hcz74_0 hcz74_1 hcz74_2
          try clear hcz84_0 hcz84_1 hcz84_2 hcz84_3 hcz84_4
          try clear hfz14_0
          try clear hfz19_0
          try clear hfz29_0
          try clear hfz31_0
          try clear hfz35_0
          try clear hfz37_0
          try clear hfz40_0
          try clear hfz45_0
          try clear hfz50_0
          try clear hfz53_0
          try clear hfz62_0
          try clear hfz66_0
          try clear hfz74_0
          try clear hfz84_0
          try clear hx672_0
          try clear p1
          try clear p2
          obtain ⟨kq, x56_56, rfl, HA, HJ56, HO_51001, HO_647009, BK0, BK50, BK646, BK647, BK648, BK708, HK, HB⟩ := hcut
          cases kq with
          | zero => exact absurd HA.out (by simp [terracelaw15_step.j1])
          | succ kj56 =>
            have H := HA.out
            clear HA
            simp only [terracelaw15_step.j1] at H
            by_cases c85 : x56_56 = true
            · subst c85
              have H1 : (if t684 = 11 then (some (a1_0, a1_1, a1_2, a1_3, a1_4, a1_5, a1_6, a1_7, a1_8, l1_9, a1_10, a1_11, a1_12, (t681 == 0 && (!t682 && (!t683))), t685, t686, t687, t688, t689, t690, t691, t692, t693, t694, t695, t696, t697, t698, t699, t700, t701, t702, t705, t706, t707)) else (some (a1_0, a1_1, a1_2, a1_3, a1_4, a1_5, a1_6, a1_7, a1_8, l1_9, a1_10, a1_11, a1_12, false, t685, t686, t687, t688, t689, t690, t691, t692, t693, t694, t695, t696, t697, t698, t699, t700, t701, t702, t705, t706, t707))) = some (r1, r2, r3, r4, r5, r6, r7, r8, r9, r10, r11, r12, r13, r14, r15, r16, r17, r18, r19, r20, r21, r22, r23, r24, r25, r26, r27, r28, r29, r30, r31, r32, r33, r34, r35) := by rw [if_pos rfl] at H; exact H
              clear H
              have H := H1
              clear H1
              by_cases c86 : t684 = 11
              · rw [if_pos c86] at H
                have c86b0 : (t684 == 11) = true := beq_iff_eq.mpr c86
                have c86b1 : (t684 != 11) = false := bne_eq_false_iff_eq.mpr c86
                clear c86
                simp only [Option.some.injEq, Prod.mk.injEq] at H
                obtain ⟨rfl, rfl, rfl, rfl, rfl, rfl, rfl, rfl, rfl, rfl, rfl, rfl, rfl, rfl, rfl, rfl, rfl, rfl, rfl, rfl, rfl, rfl, rfl, rfl, rfl, rfl, rfl, rfl, rfl, rfl, rfl, rfl, rfl, rfl, rfl⟩ := H
                try go_wp2
                have n0_ := Aside0.mk (Kd.R_drew HO_51001.out)
                have n1_ := Aside0.mk (Kd.R_drew HO_647009.out)
                have n2_ := Aside0.mk (blk_drew BK0.out)
                have n3_ := Aside0.mk (blk_drew BK50.out)
                have n4_ := Aside0.mk (blk_drew BK646.out)
                have n5_ := Aside0.mk (blk_drew BK647.out)
                have n6_ := Aside0.mk (blk_drew BK648.out)
                have n7_ := Aside0.mk (blk_drew BK708.out)
                have n8_ := Aside0.mk (Kept.drew HK.out)
                have n9_ := Aside0.mk (below_drew1 HB.out)
                clear HO_51001
                clear HO_647009
                clear BK0
                clear BK50
                clear BK646
                clear BK647
                clear BK648
                clear BK708
                clear HK
                clear HB
                have HO_51001 := n0_
                have HO_647009 := n1_
                have BK0 := n2_
                have BK50 := n3_
                have BK646 := n4_
                have BK647 := n5_
                have BK648 := n6_
                have BK708 := n7_
                have HK := n8_
                have HB := n9_
                clear n0_ n1_ n2_ n3_ n4_ n5_ n6_ n7_ n8_ n9_
                refine start_ (n := 10) (S := fun w' => w'.cell? ⟨gb646, 0, none⟩ = some (.int .i64 a1_0) ∧ w'.cell? ⟨gb646, 1, none⟩ = some (.int .i64 a1_1) ∧ w'.cell? ⟨gb646, 2, none⟩ = some (.int .i64 a1_2) ∧ w'.cell? ⟨gb646, 3, none⟩ = some (.int .i64 a1_3) ∧ w'.cell? ⟨gb646, 4, none⟩ = some (.int .i64 a1_4) ∧ w'.cell? ⟨gb646, 5, none⟩ = some (.int .i64 a1_5) ∧ w'.cell? ⟨gb646, 6, none⟩ = some (.int .i64 a1_6) ∧ w'.cell? ⟨gb646, 7, none⟩ = some (.int .i64 a1_7) ∧ w'.cell? ⟨gb646, 8, none⟩ = some (.int .i64 a1_8) ∧ w'.cell? ⟨gb646, 9, none⟩ = some (.slice Ao5 l1_9.length co5) ∧ w'.cell? ⟨gb646, 10, none⟩ = some (.int .i64 a1_10) ∧ w'.cell? ⟨gb646, 11, none⟩ = some (.bool a1_11) ∧ w'.cell? ⟨gb646, 12, none⟩ = some (.int .i64 a1_12) ∧ w'.cell? ⟨gb708, 0, none⟩ = some (.int .i64 t681) ∧ w'.cell? ⟨gb708, 1, none⟩ = some (.bool t682) ∧ w'.cell? ⟨gb708, 2, none⟩ = some (.bool t683)) (ds := []) #[false, false, false, false, false, false, false, false, false, false] (by kernel_rfl) rfl rfl ⟨(blk_cell BK646.out 0).trans rfl, (blk_cell BK646.out 1).trans rfl, (blk_cell BK646.out 2).trans rfl, (blk_cell BK646.out 3).trans rfl, (blk_cell BK646.out 4).trans rfl, (blk_cell BK646.out 5).trans rfl, (blk_cell BK646.out 6).trans rfl, (blk_cell BK646.out 7).trans rfl, (blk_cell BK646.out 8).trans rfl, (blk_cell BK646.out 9).trans rfl, (blk_cell BK646.out 10).trans rfl, (blk_cell BK646.out 11).trans rfl, (blk_cell BK646.out 12).trans rfl, (blk_cell BK708.out 0).trans rfl, (blk_cell BK708.out 1).trans rfl, (blk_cell BK708.out 2).trans rfl⟩ (fun hHeld => ?_); refine with_tabW terracelaw15_step.tab10 terracelaw15_step.bits10 (fun HT_ HW_ => ?_)
                generalize wc.drew = w87 at HO_51001 HO_647009 BK0 BK50 BK646 BK647 BK648 BK708 HK HB hHeld ⊢
                refine pure_ (i := 1) (N := some 71) (v := ?_) (a' := ?_) #[false, true, false, false, false, false, false, false, false, false] rfl rfl (any_of HT_.out (by kernel_rfl)) (fun _ _ _ h => h) (Or.inl ⟨by rfl, ?_⟩) ?_ ?_
                rotate_left
                · intro w'
                  go_simp
                  with_reducible rfl
                rotate_left
                · simp only [Act.put, List.setIfInBounds_toArray, List.set_cons_zero, List.set_cons_succ, i64_w, i32_w]
                  rfl
                refine pure_ (i := 2) (N := some 72) (v := ?_) (a' := ?_) #[false, true, true, false, false, false, false, false, false, false] rfl rfl (any_of HT_.out (by kernel_rfl)) (fun _ _ _ h => h) (Or.inl ⟨by rfl, ?_⟩) ?_ ?_
                rotate_left
                · intro w'
                  go_simp
                  with_reducible rfl
                rotate_left
                · simp only [Act.put, List.setIfInBounds_toArray, List.set_cons_zero, List.set_cons_succ, i64_w, i32_w]
                  rfl
                refine pure_ (i := 3) (N := some 73) (v := ?_) (a' := ?_) #[false, true, true, true, false, false, false, false, false, false] rfl rfl (any_of HT_.out (by kernel_rfl)) (fun _ _ _ h => h) (Or.inl ⟨by rfl, ?_⟩) ?_ ?_
                rotate_left
                · intro w'
                  go_simp
                  with_reducible rfl
                rotate_left
                · simp only [Act.put, List.setIfInBounds_toArray, List.set_cons_zero, List.set_cons_succ, i64_w, i32_w]
                  rfl
                refine pure_ (i := 5) (N := some 75) (v := ?_) (a' := ?_) #[false, true, true, true, false, true, false, false, false, false] rfl rfl (any_of HT_.out (by kernel_rfl)) (fun _ _ _ h => h) (Or.inl ⟨by rfl, ?_⟩) ?_ ?_
                rotate_left
                · intro w'
                  go_simp
                  with_reducible rfl
                rotate_left
                · simp only [Act.put, List.setIfInBounds_toArray, List.set_cons_zero, List.set_cons_succ, i64_w, i32_w]
                  rfl
                refine take_ (i := 0) (N := some 70) (v := ?_) (a' := ?_) #[true, true, true, true, false, true, false, false, false, false] rfl rfl (take_ofW HT_.out HW_.out (by kernel_rfl)) (fun _ _ _ h => h) (Or.inl ⟨by rfl, ?_⟩) hHeld ?_ ?_
                rotate_left
                · rintro w' ⟨s0, s1, s2, s3, s4, s5, s6, s7, s8, s9, s10, s11, s12, s13, s14, s15⟩
                  go_simp
                  with_reducible rfl
                rotate_left
                · simp only [Act.put, List.setIfInBounds_toArray, List.set_cons_zero, List.set_cons_succ, i64_w, i32_w]
                  rfl
                refine take_ (i := 4) (N := some 74) (v := ?_) (a' := ?_) #[true, true, true, true, true, true, false, false, false, false] rfl rfl (take_ofW HT_.out HW_.out (by kernel_rfl)) (fun _ _ _ h => h) (Or.inl ⟨by rfl, ?_⟩) hHeld ?_ ?_
                rotate_left
                · rintro w' ⟨s0, s1, s2, s3, s4, s5, s6, s7, s8, s9, s10, s11, s12, s13, s14, s15⟩
                  go_simp
                  with_reducible rfl
                rotate_left
                · simp only [Act.put, List.setIfInBounds_toArray, List.set_cons_zero, List.set_cons_succ, i64_w, i32_w]
                  rfl
                refine pure_ (i := 6) (N := some 76) (v := ?_) (a' := ?_) #[true, true, true, true, true, true, true, false, false, false] rfl rfl (any_of HT_.out (by kernel_rfl)) (fun _ _ _ h => h) (Or.inl ⟨by rfl, ?_⟩) ?_ ?_
                rotate_left
                · intro w'
                  go_simp
                  with_reducible rfl
                rotate_left
                · simp only [Act.put, List.setIfInBounds_toArray, List.set_cons_zero, List.set_cons_succ, i64_w, i32_w]
                  rfl
                refine pure_ (i := 7) (N := some 77) (v := ?_) (a' := ?_) #[true, true, true, true, true, true, true, true, false, false] rfl rfl (any_of HT_.out (by kernel_rfl)) (fun _ _ _ h => h) (Or.inl ⟨by rfl, ?_⟩) ?_ ?_
                rotate_left
                · intro w'
                  go_simp
                  with_reducible rfl
                rotate_left
                · simp only [Act.put, List.setIfInBounds_toArray, List.set_cons_zero, List.set_cons_succ, i64_w, i32_w]
                  rfl
                refine one_ (i := 8) (N := none) #[true, true, true, true, true, true, true, true, true, false] rfl rfl (one_of HT_.out (by kernel_rfl)) (by decide) (fun K hK => ?_)
                have hs88 : w87.cell? ⟨gb648, 0, none⟩ = some (.int .i64 0) := (blk_cell BK648.out 0).trans rfl
                have hfs88 := blk_frozen BK648.out 0
                have hns88_0 := NB0_648.out
                have hns88_1 := NB50_648.out
                have hns88_2 := NB646_648.out
                have hns88_3 := NB647_648.out
                have hns88_5 := NB708_648.out
                have hms88_0 := NB648_0.out
                have hms88_1 := NB648_50.out
                have hms88_2 := NB648_646.out
                have hms88_3 := NB648_647.out
                have hms88_5 := NB648_708.out
                have hs89 : w87.cell? ⟨gb648, 1, none⟩ = some (.int .i64 0) := (blk_cell BK648.out 1).trans rfl
                have hfs89 := blk_frozen BK648.out 1
                have hs90 : w87.cell? ⟨gb648, 2, none⟩ = some (.int .i64 0) := (blk_cell BK648.out 2).trans rfl
                have hfs90 := blk_frozen BK648.out 2
                have hs91 : w87.cell? ⟨gb648, 3, none⟩ = some (.int .i64 0) := (blk_cell BK648.out 3).trans rfl
                have hfs91 := blk_frozen BK648.out 3
                have hs92 : w87.cell? ⟨gb648, 4, none⟩ = some (.int .i64 0) := (blk_cell BK648.out 4).trans rfl
                have hfs92 := blk_frozen BK648.out 4
                have hs93 : w87.cell? ⟨gb648, 5, none⟩ = some (.int .i64 0) := (blk_cell BK648.out 5).trans rfl
                have hfs93 := blk_frozen BK648.out 5
                have hs94 : w87.cell? ⟨gb648, 6, none⟩ = some (.int .i64 0) := (blk_cell BK648.out 6).trans rfl
                have hfs94 := blk_frozen BK648.out 6
                have hs95 : w87.cell? ⟨gb648, 7, none⟩ = some (.int .i64 0) := (blk_cell BK648.out 7).trans rfl
                have hfs95 := blk_frozen BK648.out 7
                have hs96 : w87.cell? ⟨gb648, 8, none⟩ = some (.int .i64 0) := (blk_cell BK648.out 8).trans rfl
                have hfs96 := blk_frozen BK648.out 8
                have hs97 : w87.cell? ⟨gb648, 9, none⟩ = some (.slice none 0 0) := (blk_cell BK648.out 9).trans rfl
                have hfs97 := blk_frozen BK648.out 9
                have hs98 : w87.cell? ⟨gb648, 10, none⟩ = some (.int .i64 0) := (blk_cell BK648.out 10).trans rfl
                have hfs98 := blk_frozen BK648.out 10
                have hs99 : w87.cell? ⟨gb648, 11, none⟩ = some (.bool false) := (blk_cell BK648.out 11).trans rfl
                have hfs99 := blk_frozen BK648.out 11
                have hs100 : w87.cell? ⟨gb648, 12, none⟩ = some (.int .i64 0) := (blk_cell BK648.out 12).trans rfl
                have hfs100 := blk_frozen BK648.out 12
                refine skip_ (w1 := ?_) (by rfl) rfl ?_ ?_
                rotate_left
                · go_simp
                  rfl
                refine hK.out _ _ ⟨(cf13q8 NB646_648.out (hHeld.1)), (cf13q8 NB646_648.out (hHeld.2.1)), (cf13q8 NB646_648.out (hHeld.2.2.1)), (cf13q8 NB646_648.out (hHeld.2.2.2.1)), (cf13q8 NB646_648.out (hHeld.2.2.2.2.1)), (cf13q8 NB646_648.out (hHeld.2.2.2.2.2.1)), (cf13q8 NB646_648.out (hHeld.2.2.2.2.2.2.1)), (cf13q8 NB646_648.out (hHeld.2.2.2.2.2.2.2.1)), (cf13q8 NB646_648.out (hHeld.2.2.2.2.2.2.2.2.1)), (cf13q8 NB646_648.out (hHeld.2.2.2.2.2.2.2.2.2.1)), (cf13q8 NB646_648.out (hHeld.2.2.2.2.2.2.2.2.2.2.1)), (cf13q8 NB646_648.out (hHeld.2.2.2.2.2.2.2.2.2.2.2.1)), (cf13q8 NB646_648.out (hHeld.2.2.2.2.2.2.2.2.2.2.2.2.1)), (cf13q8 NB708_648.out (hHeld.2.2.2.2.2.2.2.2.2.2.2.2.2.1)), (cf13q8 NB708_648.out (hHeld.2.2.2.2.2.2.2.2.2.2.2.2.2.2.1)), (cf13q8 NB708_648.out (hHeld.2.2.2.2.2.2.2.2.2.2.2.2.2.2.2))⟩ (fun hHeld => ?_)
                clear hK K
                refine pure_ (i := 9) (N := some 7) (v := ?_) (a' := ?_) #[true, true, true, true, true, true, true, true, true, true] rfl rfl (any_of HT_.out (by kernel_rfl)) (fun _ _ _ h => h) (Or.inl ⟨by rfl, ?_⟩) ?_ ?_
                rotate_left
                · intro w'
                  go_simp
                  with_reducible rfl
                rotate_left
                · simp only [Act.put, List.setIfInBounds_toArray, List.set_cons_zero, List.set_cons_succ, i64_w, i32_w]
                  rfl
                refine done_ (done_of HT_.out (by kernel_rfl)) ?_
                try go_wp2
                refine bodyPost_ret (results_ct rfl _ _ gb648 41 #[.int .i64 a1_0, .int .i64 a1_1, .int .i64 a1_2, .int .i64 a1_3, .int .i64 a1_4, .int .i64 a1_5, .int .i64 a1_6, .int .i64 a1_7, .int .i64 a1_8, .slice Ao5 l1_9.length co5, .int .i64 a1_10, .bool a1_11, .int .i64 a1_12] (0, 0) _ rfl (by refine bzq8 ?_; refine btq8 (i := 12) ?_; refine btq8 (i := 11) ?_; refine btq8 (i := 10) ?_; refine btq8 (i := 9) ?_; refine btq8 (i := 8) ?_; refine btq8 (i := 7) ?_; refine btq8 (i := 6) ?_; refine btq8 (i := 5) ?_; refine btq8 (i := 4) ?_; refine btq8 (i := 3) ?_; refine btq8 (i := 2) ?_; refine btq8 (i := 1) ?_; refine btq8 (i := 0) ?_; exact ⟨_, bpq8 BK648.out, by first | (simp only [List.setIfInBounds_toArray, List.set_cons_zero, List.set_cons_succ]; done) | rfl⟩) Try.underlying41 rfl (by kernel_rfl)) rfl ?_
                exact ⟨_, _, by first | rfl | (simp [errW_none, errW_some] <;> rfl) | (simp only [← hji54, ← hji55]; first | rfl | (simp [errW_none, errW_some] <;> rfl)) | (simp [*, errW_none, errW_some] <;> rfl), by (with_reducible repeat (first | apply Kd.R_alloc | apply Kd.R_drewN | apply Kd.R_drew)); exact Kd.R_mono (Kd.R_far (Kd.R_far (Kd.R_far (Kd.R_far (Kd.R_far (Kd.R_far (Kd.R_far (Kd.R_far (Kd.R_far (Kd.R_far (Kd.R_far (Kd.R_far (Kd.R_far (Kd.R_types HO_647009.out BK648.out (by decide)) (fun _ hk => hk.2) _) (fun _ hk => hk.2) _) (fun _ hk => hk.2) _) (fun _ hk => hk.2) _) (fun _ hk => hk.2) _) (fun _ hk => hk.2) _) (fun _ hk => hk.2) _) (fun _ hk => hk.2) _) (fun _ hk => hk.2) _) (fun _ hk => hk.2) _) (fun _ hk => hk.2) _) (fun _ hk => hk.2) _) (fun _ hk => hk.2) _) (fun _ hk => ⟨hk.1.1, hk.1.2⟩), by (with_reducible repeat (first | apply Kd.R_alloc | apply Kd.R_drewN | apply Kd.R_drew)); exact Kd.R_mono (Kd.R_far (Kd.R_far (Kd.R_far (Kd.R_far (Kd.R_far (Kd.R_far (Kd.R_far (Kd.R_far (Kd.R_far (Kd.R_far (Kd.R_far (Kd.R_far (Kd.R_far (Kd.R_types HO_51001.out BK648.out (by decide)) (fun _ hk => hk.2) _) (fun _ hk => hk.2) _) (fun _ hk => hk.2) _) (fun _ hk => hk.2) _) (fun _ hk => hk.2) _) (fun _ hk => hk.2) _) (fun _ hk => hk.2) _) (fun _ hk => hk.2) _) (fun _ hk => hk.2) _) (fun _ hk => hk.2) _) (fun _ hk => hk.2) _) (fun _ hk => hk.2) _) (fun _ hk => hk.2) _) (fun _ hk => ⟨hk.1.1, hk.1.2⟩), (by refine bfq8 NB0_648.out ?_; refine bfq8 NB0_648.out ?_; refine bfq8 NB0_648.out ?_; refine bfq8 NB0_648.out ?_; refine bfq8 NB0_648.out ?_; refine bfq8 NB0_648.out ?_; refine bfq8 NB0_648.out ?_; refine bfq8 NB0_648.out ?_; refine bfq8 NB0_648.out ?_; refine bfq8 NB0_648.out ?_; refine bfq8 NB0_648.out ?_; refine bfq8 NB0_648.out ?_; refine bfq8 NB0_648.out ?_; exact bpq8 BK0.out), (by refine bfq8 NB50_648.out ?_; refine bfq8 NB50_648.out ?_; refine bfq8 NB50_648.out ?_; refine bfq8 NB50_648.out ?_; refine bfq8 NB50_648.out ?_; refine bfq8 NB50_648.out ?_; refine bfq8 NB50_648.out ?_; refine bfq8 NB50_648.out ?_; refine bfq8 NB50_648.out ?_; refine bfq8 NB50_648.out ?_; refine bfq8 NB50_648.out ?_; refine bfq8 NB50_648.out ?_; refine bfq8 NB50_648.out ?_; exact bpq8 BK50.out), (bbq8 HB.out), (kkq8 HK.out)⟩
              · rw [if_neg c86] at H
                have c86b0 : (t684 == 11) = false := beq_eq_false_iff_ne.mpr c86
                have c86b1 : (t684 != 11) = true := bne_iff_ne.mpr c86
                simp only [Option.some.injEq, Prod.mk.injEq] at H
                obtain ⟨rfl, rfl, rfl, rfl, rfl, rfl, rfl, rfl, rfl, rfl, rfl, rfl, rfl, rfl, rfl, rfl, rfl, rfl, rfl, rfl, rfl, rfl, rfl, rfl, rfl, rfl, rfl, rfl, rfl, rfl, rfl, rfl, rfl, rfl, rfl⟩ := H
                try go_wp2
                have n0_ := Aside0.mk (Kd.R_drew HO_51001.out)
                have n1_ := Aside0.mk (Kd.R_drew HO_647009.out)
                have n2_ := Aside0.mk (blk_drew BK0.out)
                have n3_ := Aside0.mk (blk_drew BK50.out)
                have n4_ := Aside0.mk (blk_drew BK646.out)
                have n5_ := Aside0.mk (blk_drew BK647.out)
                have n6_ := Aside0.mk (blk_drew BK648.out)
                have n7_ := Aside0.mk (blk_drew BK708.out)
                have n8_ := Aside0.mk (Kept.drew HK.out)
                have n9_ := Aside0.mk (below_drew1 HB.out)
                clear HO_51001
                clear HO_647009
                clear BK0
                clear BK50
                clear BK646
                clear BK647
                clear BK648
                clear BK708
                clear HK
                clear HB
                have HO_51001 := n0_
                have HO_647009 := n1_
                have BK0 := n2_
                have BK50 := n3_
                have BK646 := n4_
                have BK647 := n5_
                have BK648 := n6_
                have BK708 := n7_
                have HK := n8_
                have HB := n9_
                clear n0_ n1_ n2_ n3_ n4_ n5_ n6_ n7_ n8_ n9_
                refine start_ (n := 10) (S := fun w' => w'.cell? ⟨gb646, 0, none⟩ = some (.int .i64 a1_0) ∧ w'.cell? ⟨gb646, 1, none⟩ = some (.int .i64 a1_1) ∧ w'.cell? ⟨gb646, 2, none⟩ = some (.int .i64 a1_2) ∧ w'.cell? ⟨gb646, 3, none⟩ = some (.int .i64 a1_3) ∧ w'.cell? ⟨gb646, 4, none⟩ = some (.int .i64 a1_4) ∧ w'.cell? ⟨gb646, 5, none⟩ = some (.int .i64 a1_5) ∧ w'.cell? ⟨gb646, 6, none⟩ = some (.int .i64 a1_6) ∧ w'.cell? ⟨gb646, 7, none⟩ = some (.int .i64 a1_7) ∧ w'.cell? ⟨gb646, 8, none⟩ = some (.int .i64 a1_8) ∧ w'.cell? ⟨gb646, 9, none⟩ = some (.slice Ao5 l1_9.length co5) ∧ w'.cell? ⟨gb646, 10, none⟩ = some (.int .i64 a1_10) ∧ w'.cell? ⟨gb646, 11, none⟩ = some (.bool a1_11) ∧ w'.cell? ⟨gb646, 12, none⟩ = some (.int .i64 a1_12)) (ds := []) #[false, false, false, false, false, false, false, false, false, false] (by kernel_rfl) rfl rfl ⟨(blk_cell BK646.out 0).trans rfl, (blk_cell BK646.out 1).trans rfl, (blk_cell BK646.out 2).trans rfl, (blk_cell BK646.out 3).trans rfl, (blk_cell BK646.out 4).trans rfl, (blk_cell BK646.out 5).trans rfl, (blk_cell BK646.out 6).trans rfl, (blk_cell BK646.out 7).trans rfl, (blk_cell BK646.out 8).trans rfl, (blk_cell BK646.out 9).trans rfl, (blk_cell BK646.out 10).trans rfl, (blk_cell BK646.out 11).trans rfl, (blk_cell BK646.out 12).trans rfl⟩ (fun hHeld => ?_); refine with_tabW terracelaw15_step.tab10 terracelaw15_step.bits10 (fun HT_ HW_ => ?_)
                generalize wc.drew = w101 at HO_51001 HO_647009 BK0 BK50 BK646 BK647 BK648 BK708 HK HB hHeld ⊢
                refine pure_ (i := 1) (N := some 71) (v := ?_) (a' := ?_) #[false, true, false, false, false, false, false, false, false, false] rfl rfl (any_of HT_.out (by kernel_rfl)) (fun _ _ _ h => h) (Or.inl ⟨by rfl, ?_⟩) ?_ ?_
                rotate_left
                · intro w'
                  go_simp
                  with_reducible rfl
                rotate_left
                · simp only [Act.put, List.setIfInBounds_toArray, List.set_cons_zero, List.set_cons_succ, i64_w, i32_w]
                  rfl
                refine pure_ (i := 2) (N := some 72) (v := ?_) (a' := ?_) #[false, true, true, false, false, false, false, false, false, false] rfl rfl (any_of HT_.out (by kernel_rfl)) (fun _ _ _ h => h) (Or.inl ⟨by rfl, ?_⟩) ?_ ?_
                rotate_left
                · intro w'
                  go_simp
                  with_reducible rfl
                rotate_left
                · simp only [Act.put, List.setIfInBounds_toArray, List.set_cons_zero, List.set_cons_succ, i64_w, i32_w]
                  rfl
                refine pure_ (i := 3) (N := some 73) (v := ?_) (a' := ?_) #[false, true, true, true, false, false, false, false, false, false] rfl rfl (any_of HT_.out (by kernel_rfl)) (fun _ _ _ h => h) (Or.inl ⟨by rfl, ?_⟩) ?_ ?_
                rotate_left
                · intro w'
                  go_simp
                  with_reducible rfl
                rotate_left
                · simp only [Act.put, List.setIfInBounds_toArray, List.set_cons_zero, List.set_cons_succ, i64_w, i32_w]
                  rfl
                refine pure_ (i := 4) (N := some 74) (v := undef) (a' := ?_) #[false, true, true, true, true, false, false, false, false, false] rfl rfl (any_of HT_.out (by kernel_rfl)) (fun _ _ _ h => h) (Or.inr ⟨by rfl, rfl⟩) ?_ ?_
                rotate_left
                · simp only [Act.put, List.setIfInBounds_toArray, List.set_cons_zero, List.set_cons_succ, i64_w, i32_w]
                  rfl
                refine pure_ (i := 5) (N := some 75) (v := undef) (a' := ?_) #[false, true, true, true, true, true, false, false, false, false] rfl rfl (any_of HT_.out (by kernel_rfl)) (fun _ _ _ h => h) (Or.inr ⟨by rfl, rfl⟩) ?_ ?_
                rotate_left
                · simp only [Act.put, List.setIfInBounds_toArray, List.set_cons_zero, List.set_cons_succ, i64_w, i32_w]
                  rfl
                refine pure_ (i := 6) (N := some 76) (v := undef) (a' := ?_) #[false, true, true, true, true, true, true, false, false, false] rfl rfl (any_of HT_.out (by kernel_rfl)) (fun _ _ _ h => h) (Or.inr ⟨by rfl, rfl⟩) ?_ ?_
                rotate_left
                · simp only [Act.put, List.setIfInBounds_toArray, List.set_cons_zero, List.set_cons_succ, i64_w, i32_w]
                  rfl
                refine pure_ (i := 7) (N := some 77) (v := ?_) (a' := ?_) #[false, true, true, true, true, true, true, true, false, false] rfl rfl (any_of HT_.out (by kernel_rfl)) (fun _ _ _ h => h) (Or.inl ⟨by rfl, ?_⟩) ?_ ?_
                rotate_left
                · intro w'
                  go_simp
                  with_reducible rfl
                rotate_left
                · simp only [Act.put, List.setIfInBounds_toArray, List.set_cons_zero, List.set_cons_succ, i64_w, i32_w]
                  rfl
                refine take_ (i := 0) (N := some 70) (v := ?_) (a' := ?_) #[true, true, true, true, true, true, true, true, false, false] rfl rfl (take_ofW HT_.out HW_.out (by kernel_rfl)) (fun _ _ _ h => h) (Or.inl ⟨by rfl, ?_⟩) hHeld ?_ ?_
                rotate_left
                · rintro w' ⟨s0, s1, s2, s3, s4, s5, s6, s7, s8, s9, s10, s11, s12⟩
                  go_simp
                  with_reducible rfl
                rotate_left
                · simp only [Act.put, List.setIfInBounds_toArray, List.set_cons_zero, List.set_cons_succ, i64_w, i32_w]
                  rfl
                refine one_ (i := 8) (N := none) #[true, true, true, true, true, true, true, true, true, false] rfl rfl (one_of HT_.out (by kernel_rfl)) (by decide) (fun K hK => ?_)
                have hs102 : w101.cell? ⟨gb648, 0, none⟩ = some (.int .i64 0) := (blk_cell BK648.out 0).trans rfl
                have hfs102 := blk_frozen BK648.out 0
                have hns102_0 := NB0_648.out
                have hns102_1 := NB50_648.out
                have hns102_2 := NB646_648.out
                have hns102_3 := NB647_648.out
                have hns102_5 := NB708_648.out
                have hms102_0 := NB648_0.out
                have hms102_1 := NB648_50.out
                have hms102_2 := NB648_646.out
                have hms102_3 := NB648_647.out
                have hms102_5 := NB648_708.out
                have hs103 : w101.cell? ⟨gb648, 1, none⟩ = some (.int .i64 0) := (blk_cell BK648.out 1).trans rfl
                have hfs103 := blk_frozen BK648.out 1
                have hs104 : w101.cell? ⟨gb648, 2, none⟩ = some (.int .i64 0) := (blk_cell BK648.out 2).trans rfl
                have hfs104 := blk_frozen BK648.out 2
                have hs105 : w101.cell? ⟨gb648, 3, none⟩ = some (.int .i64 0) := (blk_cell BK648.out 3).trans rfl
                have hfs105 := blk_frozen BK648.out 3
                have hs106 : w101.cell? ⟨gb648, 4, none⟩ = some (.int .i64 0) := (blk_cell BK648.out 4).trans rfl
                have hfs106 := blk_frozen BK648.out 4
                have hs107 : w101.cell? ⟨gb648, 5, none⟩ = some (.int .i64 0) := (blk_cell BK648.out 5).trans rfl
                have hfs107 := blk_frozen BK648.out 5
                have hs108 : w101.cell? ⟨gb648, 6, none⟩ = some (.int .i64 0) := (blk_cell BK648.out 6).trans rfl
                have hfs108 := blk_frozen BK648.out 6
                have hs109 : w101.cell? ⟨gb648, 7, none⟩ = some (.int .i64 0) := (blk_cell BK648.out 7).trans rfl
                have hfs109 := blk_frozen BK648.out 7
                have hs110 : w101.cell? ⟨gb648, 8, none⟩ = some (.int .i64 0) := (blk_cell BK648.out 8).trans rfl
                have hfs110 := blk_frozen BK648.out 8
                have hs111 : w101.cell? ⟨gb648, 9, none⟩ = some (.slice none 0 0) := (blk_cell BK648.out 9).trans rfl
                have hfs111 := blk_frozen BK648.out 9
                have hs112 : w101.cell? ⟨gb648, 10, none⟩ = some (.int .i64 0) := (blk_cell BK648.out 10).trans rfl
                have hfs112 := blk_frozen BK648.out 10
                have hs113 : w101.cell? ⟨gb648, 11, none⟩ = some (.bool false) := (blk_cell BK648.out 11).trans rfl
                have hfs113 := blk_frozen BK648.out 11
                have hs114 : w101.cell? ⟨gb648, 12, none⟩ = some (.int .i64 0) := (blk_cell BK648.out 12).trans rfl
                have hfs114 := blk_frozen BK648.out 12
                refine skip_ (w1 := ?_) (by rfl) rfl ?_ ?_
                rotate_left
                · go_simp
                  rfl
                refine hK.out _ _ ⟨(cf13q8 NB646_648.out (hHeld.1)), (cf13q8 NB646_648.out (hHeld.2.1)), (cf13q8 NB646_648.out (hHeld.2.2.1)), (cf13q8 NB646_648.out (hHeld.2.2.2.1)), (cf13q8 NB646_648.out (hHeld.2.2.2.2.1)), (cf13q8 NB646_648.out (hHeld.2.2.2.2.2.1)), (cf13q8 NB646_648.out (hHeld.2.2.2.2.2.2.1)), (cf13q8 NB646_648.out (hHeld.2.2.2.2.2.2.2.1)), (cf13q8 NB646_648.out (hHeld.2.2.2.2.2.2.2.2.1)), (cf13q8 NB646_648.out (hHeld.2.2.2.2.2.2.2.2.2.1)), (cf13q8 NB646_648.out (hHeld.2.2.2.2.2.2.2.2.2.2.1)), (cf13q8 NB646_648.out (hHeld.2.2.2.2.2.2.2.2.2.2.2.1)), (cf13q8 NB646_648.out (hHeld.2.2.2.2.2.2.2.2.2.2.2.2))⟩ (fun hHeld => ?_)
                clear hK K
                refine pure_ (i := 9) (N := some 7) (v := ?_) (a' := ?_) #[true, true, true, true, true, true, true, true, true, true] rfl rfl (any_of HT_.out (by kernel_rfl)) (fun _ _ _ h => h) (Or.inl ⟨by rfl, ?_⟩) ?_ ?_
                rotate_left
                · intro w'
                  go_simp
                  with_reducible rfl
                rotate_left
                · simp only [Act.put, List.setIfInBounds_toArray, List.set_cons_zero, List.set_cons_succ, i64_w, i32_w]
                  rfl
                refine done_ (done_of HT_.out (by kernel_rfl)) ?_
                try go_wp2
                refine bodyPost_ret (results_ct rfl _ _ gb648 41 #[.int .i64 a1_0, .int .i64 a1_1, .int .i64 a1_2, .int .i64 a1_3, .int .i64 a1_4, .int .i64 a1_5, .int .i64 a1_6, .int .i64 a1_7, .int .i64 a1_8, .slice Ao5 l1_9.length co5, .int .i64 a1_10, .bool a1_11, .int .i64 a1_12] (0, 0) _ rfl (by refine bzq8 ?_; refine btq8 (i := 12) ?_; refine btq8 (i := 11) ?_; refine btq8 (i := 10) ?_; refine btq8 (i := 9) ?_; refine btq8 (i := 8) ?_; refine btq8 (i := 7) ?_; refine btq8 (i := 6) ?_; refine btq8 (i := 5) ?_; refine btq8 (i := 4) ?_; refine btq8 (i := 3) ?_; refine btq8 (i := 2) ?_; refine btq8 (i := 1) ?_; refine btq8 (i := 0) ?_; exact ⟨_, bpq8 BK648.out, by first | (simp only [List.setIfInBounds_toArray, List.set_cons_zero, List.set_cons_succ]; done) | rfl⟩) Try.underlying41 rfl (by kernel_rfl)) rfl ?_
                exact ⟨_, _, by first | rfl | (simp [errW_none, errW_some] <;> rfl) | (simp only [← hji54, ← hji55]; first | rfl | (simp [errW_none, errW_some] <;> rfl)) | (simp [*, errW_none, errW_some] <;> rfl), by (with_reducible repeat (first | apply Kd.R_alloc | apply Kd.R_drewN | apply Kd.R_drew)); exact Kd.R_mono (Kd.R_far (Kd.R_far (Kd.R_far (Kd.R_far (Kd.R_far (Kd.R_far (Kd.R_far (Kd.R_far (Kd.R_far (Kd.R_far (Kd.R_far (Kd.R_far (Kd.R_far (Kd.R_types HO_647009.out BK648.out (by decide)) (fun _ hk => hk.2) _) (fun _ hk => hk.2) _) (fun _ hk => hk.2) _) (fun _ hk => hk.2) _) (fun _ hk => hk.2) _) (fun _ hk => hk.2) _) (fun _ hk => hk.2) _) (fun _ hk => hk.2) _) (fun _ hk => hk.2) _) (fun _ hk => hk.2) _) (fun _ hk => hk.2) _) (fun _ hk => hk.2) _) (fun _ hk => hk.2) _) (fun _ hk => ⟨hk.1.1, hk.1.2⟩), by (with_reducible repeat (first | apply Kd.R_alloc | apply Kd.R_drewN | apply Kd.R_drew)); exact Kd.R_mono (Kd.R_far (Kd.R_far (Kd.R_far (Kd.R_far (Kd.R_far (Kd.R_far (Kd.R_far (Kd.R_far (Kd.R_far (Kd.R_far (Kd.R_far (Kd.R_far (Kd.R_far (Kd.R_types HO_51001.out BK648.out (by decide)) (fun _ hk => hk.2) _) (fun _ hk => hk.2) _) (fun _ hk => hk.2) _) (fun _ hk => hk.2) _) (fun _ hk => hk.2) _) (fun _ hk => hk.2) _) (fun _ hk => hk.2) _) (fun _ hk => hk.2) _) (fun _ hk => hk.2) _) (fun _ hk => hk.2) _) (fun _ hk => hk.2) _) (fun _ hk => hk.2) _) (fun _ hk => hk.2) _) (fun _ hk => ⟨hk.1.1, hk.1.2⟩), (by refine bfq8 NB0_648.out ?_; refine bfq8 NB0_648.out ?_; refine bfq8 NB0_648.out ?_; refine bfq8 NB0_648.out ?_; refine bfq8 NB0_648.out ?_; refine bfq8 NB0_648.out ?_; refine bfq8 NB0_648.out ?_; refine bfq8 NB0_648.out ?_; refine bfq8 NB0_648.out ?_; refine bfq8 NB0_648.out ?_; refine bfq8 NB0_648.out ?_; refine bfq8 NB0_648.out ?_; refine bfq8 NB0_648.out ?_; exact bpq8 BK0.out), (by refine bfq8 NB50_648.out ?_; refine bfq8 NB50_648.out ?_; refine bfq8 NB50_648.out ?_; refine bfq8 NB50_648.out ?_; refine bfq8 NB50_648.out ?_; refine bfq8 NB50_648.out ?_; refine bfq8 NB50_648.out ?_; refine bfq8 NB50_648.out ?_; refine bfq8 NB50_648.out ?_; refine bfq8 NB50_648.out ?_; refine bfq8 NB50_648.out ?_; refine bfq8 NB50_648.out ?_; refine bfq8 NB50_648.out ?_; exact bpq8 BK50.out), (bbq8 HB.out), (kkq8 HK.out)⟩
            · replace c85 := Bool.eq_false_iff.mpr c85
              subst c85
              have H1 : (if (wrap64 (a1_12 + (ji55))) < a1_12 then (if t684 = 23 then (some (a1_0, a1_1, a1_2, a1_3, a1_4, a1_5, a1_6, a1_7, a1_8, l1_9, a1_10, a1_11, a1_12, (t681 == 0 && (!t682 && (!t683))), t685, t686, t687, t688, t689, t690, t691, t692, t693, t694, t695, t696, t697, t698, t699, t700, t701, t702, t705, t706, t707)) else (some (a1_0, a1_1, a1_2, a1_3, a1_4, a1_5, a1_6, a1_7, a1_8, l1_9, a1_10, a1_11, a1_12, false, t685, t686, t687, t688, t689, t690, t691, t692, t693, t694, t695, t696, t697, t698, t699, t700, t701, t702, t705, t706, t707))) else ((terraceref15_On.f kj56 a1_0 a1_1 a1_2 a1_3 a1_4 a1_5 a1_6 a1_7 a1_8 l1_9 a1_10 a1_11 a1_12 a2_1 a2_2 (wrap64 (a1_12 + (ji55))) a2_4).bind fun bt711 => (if t684 = 0 then (some (bt711.1, bt711.2.1, bt711.2.2.1, bt711.2.2.2.1, bt711.2.2.2.2.1, bt711.2.2.2.2.2.1, bt711.2.2.2.2.2.2.1, bt711.2.2.2.2.2.2.2.1, bt711.2.2.2.2.2.2.2.2.1, bt711.2.2.2.2.2.2.2.2.2.1, bt711.2.2.2.2.2.2.2.2.2.2.1, bt711.2.2.2.2.2.2.2.2.2.2.2.1, bt711.2.2.2.2.2.2.2.2.2.2.2.2.1, (t681 == bt711.2.2.2.2.2.2.2.2.2.2.2.2.2.1 && (t682 == bt711.2.2.2.2.2.2.2.2.2.2.2.2.2.2.1 && (t683 == bt711.2.2.2.2.2.2.2.2.2.2.2.2.2.2.2))), t685, t686, t687, t688, t689, t690, t691, t692, t693, t694, t695, t696, t697, t698, t699, t700, t701, t702, t705, t706, t707)) else (some (bt711.1, bt711.2.1, bt711.2.2.1, bt711.2.2.2.1, bt711.2.2.2.2.1, bt711.2.2.2.2.2.1, bt711.2.2.2.2.2.2.1, bt711.2.2.2.2.2.2.2.1, bt711.2.2.2.2.2.2.2.2.1, bt711.2.2.2.2.2.2.2.2.2.1, bt711.2.2.2.2.2.2.2.2.2.2.1, bt711.2.2.2.2.2.2.2.2.2.2.2.1, bt711.2.2.2.2.2.2.2.2.2.2.2.2.1, false, t685, t686, t687, t688, t689, t690, t691, t692, t693, t694, t695, t696, t697, t698, t699, t700, t701, t702, t705, t706, t707))))) = some (r1, r2, r3, r4, r5, r6, r7, r8, r9, r10, r11, r12, r13, r14, r15, r16, r17, r18, r19, r20, r21, r22, r23, r24, r25, r26, r27, r28, r29, r30, r31, r32, r33, r34, r35) := by rw [if_neg (show ¬ (false = true) by decide)] at H; exact H
              clear H
              have H := H1
              clear H1
              by_cases c115 : (wrap64 (a1_12 + (ji55))) < a1_12
              · rw [if_pos c115] at H
                have c115b0 : decide ((wrap64 (a1_12 + (ji55))) < a1_12) = true := decide_eq_true c115
                clear c115
                by_cases c116 : t684 = 23
                · rw [if_pos c116] at H
                  have c116b0 : (t684 == 23) = true := beq_iff_eq.mpr c116
                  have c116b1 : (t684 != 23) = false := bne_eq_false_iff_eq.mpr c116
                  clear c116
                  simp only [Option.some.injEq, Prod.mk.injEq] at H
                  obtain ⟨rfl, rfl, rfl, rfl, rfl, rfl, rfl, rfl, rfl, rfl, rfl, rfl, rfl, rfl, rfl, rfl, rfl, rfl, rfl, rfl, rfl, rfl, rfl, rfl, rfl, rfl, rfl, rfl, rfl, rfl, rfl, rfl, rfl, rfl, rfl⟩ := H
                  have hnb117 := NB646_0.out
                  have hnc117 := NB0_646.out
                  have hnb118 := NB646_50.out
                  have hnc118 := NB50_646.out
                  have hnb119 := NB646_647.out
                  have hnc119 := NB647_646.out
                  have hnb120 := NB646_648.out
                  have hnc120 := NB648_646.out
                  have hnb121 := NB646_708.out
                  have hnc121 := NB708_646.out
                  obtain ⟨hcz122_0, hcz122_1, hcz122_2, hcz122_3, hcz122_4, hcz122_5, hcz122_6, hcz122_7, hcz122_8, hcz122_9, hcz122_10, hcz122_11, hcz122_12⟩ := bc13q8 BK646.out
                  have hfz122_0 := fun i_ => blk_frozen BK646.out i_
                  try go_wp2
                  have n0_ := Aside0.mk (Kd.R_drew HO_51001.out)
                  have n1_ := Aside0.mk (Kd.R_drew HO_647009.out)
                  have n2_ := Aside0.mk (blk_drew BK0.out)
                  have n3_ := Aside0.mk (blk_drew BK50.out)
                  have n4_ := Aside0.mk (blk_drew BK646.out)
                  have n5_ := Aside0.mk (blk_drew BK647.out)
                  have n6_ := Aside0.mk (blk_drew BK648.out)
                  have n7_ := Aside0.mk (blk_drew BK708.out)
                  have n8_ := Aside0.mk (Kept.drew HK.out)
                  have n9_ := Aside0.mk (below_drew1 HB.out)
                  clear HO_51001
                  clear HO_647009
                  clear BK0
                  clear BK50
                  clear BK646
                  clear BK647
                  clear BK648
                  clear BK708
                  clear HK
                  clear HB
                  have HO_51001 := n0_
                  have HO_647009 := n1_
                  have BK0 := n2_
                  have BK50 := n3_
                  have BK646 := n4_
                  have BK647 := n5_
                  have BK648 := n6_
                  have BK708 := n7_
                  have HK := n8_
                  have HB := n9_
                  clear n0_ n1_ n2_ n3_ n4_ n5_ n6_ n7_ n8_ n9_
                  refine start_ (n := 10) (S := fun w' => w'.cell? ⟨gb646, 0, none⟩ = some (.int .i64 a1_0) ∧ w'.cell? ⟨gb646, 1, none⟩ = some (.int .i64 a1_1) ∧ w'.cell? ⟨gb646, 2, none⟩ = some (.int .i64 a1_2) ∧ w'.cell? ⟨gb646, 3, none⟩ = some (.int .i64 a1_3) ∧ w'.cell? ⟨gb646, 4, none⟩ = some (.int .i64 a1_4) ∧ w'.cell? ⟨gb646, 5, none⟩ = some (.int .i64 a1_5) ∧ w'.cell? ⟨gb646, 6, none⟩ = some (.int .i64 a1_6) ∧ w'.cell? ⟨gb646, 7, none⟩ = some (.int .i64 a1_7) ∧ w'.cell? ⟨gb646, 8, none⟩ = some (.int .i64 a1_8) ∧ w'.cell? ⟨gb646, 9, none⟩ = some (.slice Ao5 l1_9.length co5) ∧ w'.cell? ⟨gb646, 10, none⟩ = some (.int .i64 a1_10) ∧ w'.cell? ⟨gb646, 11, none⟩ = some (.bool a1_11) ∧ w'.cell? ⟨gb646, 12, none⟩ = some (.int .i64 a1_12) ∧ w'.cell? ⟨gb708, 0, none⟩ = some (.int .i64 t681) ∧ w'.cell? ⟨gb708, 1, none⟩ = some (.bool t682) ∧ w'.cell? ⟨gb708, 2, none⟩ = some (.bool t683)) (ds := []) #[false, false, false, false, false, false, false, false, false, false] (by kernel_rfl) rfl rfl ⟨(blk_cell BK646.out 0).trans rfl, (blk_cell BK646.out 1).trans rfl, (blk_cell BK646.out 2).trans rfl, (blk_cell BK646.out 3).trans rfl, (blk_cell BK646.out 4).trans rfl, (blk_cell BK646.out 5).trans rfl, (blk_cell BK646.out 6).trans rfl, (blk_cell BK646.out 7).trans rfl, (blk_cell BK646.out 8).trans rfl, (blk_cell BK646.out 9).trans rfl, (blk_cell BK646.out 10).trans rfl, (blk_cell BK646.out 11).trans rfl, (blk_cell BK646.out 12).trans rfl, (blk_cell BK708.out 0).trans rfl, (blk_cell BK708.out 1).trans rfl, (blk_cell BK708.out 2).trans rfl⟩ (fun hHeld => ?_); refine with_tabW terracelaw15_step.tab12 terracelaw15_step.bits12 (fun HT_ HW_ => ?_)
                  generalize wc.drew = w123 at HO_51001 HO_647009 BK0 BK50 BK646 BK647 BK648 BK708 HK HB hHeld ⊢
                  refine pure_ (i := 1) (N := some 84) (v := ?_) (a' := ?_) #[false, true, false, false, false, false, false, false, false, false] rfl rfl (any_of HT_.out (by kernel_rfl)) (fun _ _ _ h => h) (Or.inl ⟨by rfl, ?_⟩) ?_ ?_
                  rotate_left
                  · intro w'
                    go_simp
                    with_reducible rfl
                  rotate_left
                  · simp only [Act.put, List.setIfInBounds_toArray, List.set_cons_zero, List.set_cons_succ, i64_w, i32_w]
                    rfl
                  refine pure_ (i := 2) (N := some 85) (v := ?_) (a' := ?_) #[false, true, true, false, false, false, false, false, false, false] rfl rfl (any_of HT_.out (by kernel_rfl)) (fun _ _ _ h => h) (Or.inl ⟨by rfl, ?_⟩) ?_ ?_
                  rotate_left
                  · intro w'
                    go_simp
                    with_reducible rfl
                  rotate_left
                  · simp only [Act.put, List.setIfInBounds_toArray, List.set_cons_zero, List.set_cons_succ, i64_w, i32_w]
                    rfl
                  refine pure_ (i := 3) (N := some 86) (v := ?_) (a' := ?_) #[false, true, true, true, false, false, false, false, false, false] rfl rfl (any_of HT_.out (by kernel_rfl)) (fun _ _ _ h => h) (Or.inl ⟨by rfl, ?_⟩) ?_ ?_
                  rotate_left
                  · intro w'
                    go_simp
                    with_reducible rfl
                  rotate_left
                  · simp only [Act.put, List.setIfInBounds_toArray, List.set_cons_zero, List.set_cons_succ, i64_w, i32_w]
                    rfl
                  refine pure_ (i := 5) (N := some 88) (v := ?_) (a' := ?_) #[false, true, true, true, false, true, false, false, false, false] rfl rfl (any_of HT_.out (by kernel_rfl)) (fun _ _ _ h => h) (Or.inl ⟨by rfl, ?_⟩) ?_ ?_
                  rotate_left
                  · intro w'
                    go_simp
                    with_reducible rfl
                  rotate_left
                  · simp only [Act.put, List.setIfInBounds_toArray, List.set_cons_zero, List.set_cons_succ, i64_w, i32_w]
                    rfl
                  refine take_ (i := 0) (N := some 83) (v := ?_) (a' := ?_) #[true, true, true, true, false, true, false, false, false, false] rfl rfl (take_ofW HT_.out HW_.out (by kernel_rfl)) (fun _ _ _ h => h) (Or.inl ⟨by rfl, ?_⟩) hHeld ?_ ?_
                  rotate_left
                  · rintro w' ⟨s0, s1, s2, s3, s4, s5, s6, s7, s8, s9, s10, s11, s12, s13, s14, s15⟩
                    go_simp
                    with_reducible rfl
                  rotate_left
                  · simp only [Act.put, List.setIfInBounds_toArray, List.set_cons_zero, List.set_cons_succ, i64_w, i32_w]
                    rfl
                  refine take_ (i := 4) (N := some 87) (v := ?_) (a' := ?_) #[true, true, true, true, true, true, false, false, false, false] rfl rfl (take_ofW HT_.out HW_.out (by kernel_rfl)) (fun _ _ _ h => h) (Or.inl ⟨by rfl, ?_⟩) hHeld ?_ ?_
                  rotate_left
                  · rintro w' ⟨s0, s1, s2, s3, s4, s5, s6, s7, s8, s9, s10, s11, s12, s13, s14, s15⟩
                    go_simp
                    with_reducible rfl
                  rotate_left
                  · simp only [Act.put, List.setIfInBounds_toArray, List.set_cons_zero, List.set_cons_succ, i64_w, i32_w]
                    rfl
                  refine pure_ (i := 6) (N := some 89) (v := ?_) (a' := ?_) #[true, true, true, true, true, true, true, false, false, false] rfl rfl (any_of HT_.out (by kernel_rfl)) (fun _ _ _ h => h) (Or.inl ⟨by rfl, ?_⟩) ?_ ?_
                  rotate_left
                  · intro w'
                    go_simp
                    with_reducible rfl
                  rotate_left
                  · simp only [Act.put, List.setIfInBounds_toArray, List.set_cons_zero, List.set_cons_succ, i64_w, i32_w]
                    rfl
                  refine pure_ (i := 7) (N := some 90) (v := ?_) (a' := ?_) #[true, true, true, true, true, true, true, true, false, false] rfl rfl (any_of HT_.out (by kernel_rfl)) (fun _ _ _ h => h) (Or.inl ⟨by rfl, ?_⟩) ?_ ?_
                  rotate_left
                  · intro w'
                    go_simp
                    with_reducible rfl
                  rotate_left
                  · simp only [Act.put, List.setIfInBounds_toArray, List.set_cons_zero, List.set_cons_succ, i64_w, i32_w]
                    rfl
                  refine one_ (i := 8) (N := none) #[true, true, true, true, true, true, true, true, true, false] rfl rfl (one_of HT_.out (by kernel_rfl)) (by decide) (fun K hK => ?_)
                  have hs124 : w123.cell? ⟨gb648, 0, none⟩ = some (.int .i64 0) := (blk_cell BK648.out 0).trans rfl
                  have hfs124 := blk_frozen BK648.out 0
                  have hns124_0 := NB0_648.out
                  have hns124_1 := NB50_648.out
                  have hns124_2 := NB646_648.out
                  have hns124_3 := NB647_648.out
                  have hns124_5 := NB708_648.out
                  have hms124_0 := NB648_0.out
                  have hms124_1 := NB648_50.out
                  have hms124_2 := NB648_646.out
                  have hms124_3 := NB648_647.out
                  have hms124_5 := NB648_708.out
                  have hs125 : w123.cell? ⟨gb648, 1, none⟩ = some (.int .i64 0) := (blk_cell BK648.out 1).trans rfl
                  have hfs125 := blk_frozen BK648.out 1
                  have hs126 : w123.cell? ⟨gb648, 2, none⟩ = some (.int .i64 0) := (blk_cell BK648.out 2).trans rfl
                  have hfs126 := blk_frozen BK648.out 2
                  have hs127 : w123.cell? ⟨gb648, 3, none⟩ = some (.int .i64 0) := (blk_cell BK648.out 3).trans rfl
                  have hfs127 := blk_frozen BK648.out 3
                  have hs128 : w123.cell? ⟨gb648, 4, none⟩ = some (.int .i64 0) := (blk_cell BK648.out 4).trans rfl
                  have hfs128 := blk_frozen BK648.out 4
                  have hs129 : w123.cell? ⟨gb648, 5, none⟩ = some (.int .i64 0) := (blk_cell BK648.out 5).trans rfl
                  have hfs129 := blk_frozen BK648.out 5
                  have hs130 : w123.cell? ⟨gb648, 6, none⟩ = some (.int .i64 0) := (blk_cell BK648.out 6).trans rfl
                  have hfs130 := blk_frozen BK648.out 6
                  have hs131 : w123.cell? ⟨gb648, 7, none⟩ = some (.int .i64 0) := (blk_cell BK648.out 7).trans rfl
                  have hfs131 := blk_frozen BK648.out 7
                  have hs132 : w123.cell? ⟨gb648, 8, none⟩ = some (.int .i64 0) := (blk_cell BK648.out 8).trans rfl
                  have hfs132 := blk_frozen BK648.out 8
                  have hs133 : w123.cell? ⟨gb648, 9, none⟩ = some (.slice none 0 0) := (blk_cell BK648.out 9).trans rfl
                  have hfs133 := blk_frozen BK648.out 9
                  have hs134 : w123.cell? ⟨gb648, 10, none⟩ = some (.int .i64 0) := (blk_cell BK648.out 10).trans rfl
                  have hfs134 := blk_frozen BK648.out 10
                  have hs135 : w123.cell? ⟨gb648, 11, none⟩ = some (.bool false) := (blk_cell BK648.out 11).trans rfl
                  have hfs135 := blk_frozen BK648.out 11
                  have hs136 : w123.cell? ⟨gb648, 12, none⟩ = some (.int .i64 0) := (blk_cell BK648.out 12).trans rfl
                  have hfs136 := blk_frozen BK648.out 12
                  refine skip_ (w1 := ?_) (by rfl) rfl ?_ ?_
                  rotate_left
                  · go_simp
                    rfl
                  refine hK.out _ _ ⟨(cf13q8 NB646_648.out (hHeld.1)), (cf13q8 NB646_648.out (hHeld.2.1)), (cf13q8 NB646_648.out (hHeld.2.2.1)), (cf13q8 NB646_648.out (hHeld.2.2.2.1)), (cf13q8 NB646_648.out (hHeld.2.2.2.2.1)), (cf13q8 NB646_648.out (hHeld.2.2.2.2.2.1)), (cf13q8 NB646_648.out (hHeld.2.2.2.2.2.2.1)), (cf13q8 NB646_648.out (hHeld.2.2.2.2.2.2.2.1)), (cf13q8 NB646_648.out (hHeld.2.2.2.2.2.2.2.2.1)), (cf13q8 NB646_648.out (hHeld.2.2.2.2.2.2.2.2.2.1)), (cf13q8 NB646_648.out (hHeld.2.2.2.2.2.2.2.2.2.2.1)), (cf13q8 NB646_648.out (hHeld.2.2.2.2.2.2.2.2.2.2.2.1)), (cf13q8 NB646_648.out (hHeld.2.2.2.2.2.2.2.2.2.2.2.2.1)), (cf13q8 NB708_648.out (hHeld.2.2.2.2.2.2.2.2.2.2.2.2.2.1)), (cf13q8 NB708_648.out (hHeld.2.2.2.2.2.2.2.2.2.2.2.2.2.2.1)), (cf13q8 NB708_648.out (hHeld.2.2.2.2.2.2.2.2.2.2.2.2.2.2.2))⟩ (fun hHeld => ?_)
                  clear hK K
                  refine pure_ (i := 9) (N := some 7) (v := ?_) (a' := ?_) #[true, true, true, true, true, true, true, true, true, true] rfl rfl (any_of HT_.out (by kernel_rfl)) (fun _ _ _ h => h) (Or.inl ⟨by rfl, ?_⟩) ?_ ?_
                  rotate_left
                  · intro w'
                    go_simp
                    with_reducible rfl
                  rotate_left
                  · simp only [Act.put, List.setIfInBounds_toArray, List.set_cons_zero, List.set_cons_succ, i64_w, i32_w]
                    rfl
                  refine done_ (done_of HT_.out (by kernel_rfl)) ?_
                  try go_wp2
                  refine bodyPost_ret (results_ct rfl _ _ gb648 41 #[.int .i64 a1_0, .int .i64 a1_1, .int .i64 a1_2, .int .i64 a1_3, .int .i64 a1_4, .int .i64 a1_5, .int .i64 a1_6, .int .i64 a1_7, .int .i64 a1_8, .slice Ao5 l1_9.length co5, .int .i64 a1_10, .bool a1_11, .int .i64 a1_12] (0, 0) _ rfl (by refine bzq8 ?_; refine btq8 (i := 12) ?_; refine btq8 (i := 11) ?_; refine btq8 (i := 10) ?_; refine btq8 (i := 9) ?_; refine btq8 (i := 8) ?_; refine btq8 (i := 7) ?_; refine btq8 (i := 6) ?_; refine btq8 (i := 5) ?_; refine btq8 (i := 4) ?_; refine btq8 (i := 3) ?_; refine btq8 (i := 2) ?_; refine btq8 (i := 1) ?_; refine btq8 (i := 0) ?_; exact ⟨_, bpq8 BK648.out, by first | (simp only [List.setIfInBounds_toArray, List.set_cons_zero, List.set_cons_succ]; done) | rfl⟩) Try.underlying41 rfl (by kernel_rfl)) rfl ?_
                  exact ⟨_, _, by first | rfl | (simp [errW_none, errW_some] <;> rfl) | (simp only [← hji54, ← hji55]; first | rfl | (simp [errW_none, errW_some] <;> rfl)) | (simp [*, errW_none, errW_some] <;> rfl), by (with_reducible repeat (first | apply Kd.R_alloc | apply Kd.R_drewN | apply Kd.R_drew)); exact Kd.R_mono (Kd.R_far (Kd.R_far (Kd.R_far (Kd.R_far (Kd.R_far (Kd.R_far (Kd.R_far (Kd.R_far (Kd.R_far (Kd.R_far (Kd.R_far (Kd.R_far (Kd.R_far (Kd.R_types HO_647009.out BK648.out (by decide)) (fun _ hk => hk.2) _) (fun _ hk => hk.2) _) (fun _ hk => hk.2) _) (fun _ hk => hk.2) _) (fun _ hk => hk.2) _) (fun _ hk => hk.2) _) (fun _ hk => hk.2) _) (fun _ hk => hk.2) _) (fun _ hk => hk.2) _) (fun _ hk => hk.2) _) (fun _ hk => hk.2) _) (fun _ hk => hk.2) _) (fun _ hk => hk.2) _) (fun _ hk => ⟨hk.1.1, hk.1.2⟩), by (with_reducible repeat (first | apply Kd.R_alloc | apply Kd.R_drewN | apply Kd.R_drew)); exact Kd.R_mono (Kd.R_far (Kd.R_far (Kd.R_far (Kd.R_far (Kd.R_far (Kd.R_far (Kd.R_far (Kd.R_far (Kd.R_far (Kd.R_far (Kd.R_far (Kd.R_far (Kd.R_far (Kd.R_types HO_51001.out BK648.out (by decide)) (fun _ hk => hk.2) _) (fun _ hk => hk.2) _) (fun _ hk => hk.2) _) (fun _ hk => hk.2) _) (fun _ hk => hk.2) _) (fun _ hk => hk.2) _) (fun _ hk => hk.2) _) (fun _ hk => hk.2) _) (fun _ hk => hk.2) _) (fun _ hk => hk.2) _) (fun _ hk => hk.2) _) (fun _ hk => hk.2) _) (fun _ hk => hk.2) _) (fun _ hk => ⟨hk.1.1, hk.1.2⟩), (by refine bfq8 NB0_648.out ?_; refine bfq8 NB0_648.out ?_; refine bfq8 NB0_648.out ?_; refine bfq8 NB0_648.out ?_; refine bfq8 NB0_648.out ?_; refine bfq8 NB0_648.out ?_; refine bfq8 NB0_648.out ?_; refine bfq8 NB0_648.out ?_; refine bfq8 NB0_648.out ?_; refine bfq8 NB0_648.out ?_; refine bfq8 NB0_648.out ?_; refine bfq8 NB0_648.out ?_; refine bfq8 NB0_648.out ?_; exact bpq8 BK0.out), (by refine bfq8 NB50_648.out ?_; refine bfq8 NB50_648.out ?_; refine bfq8 NB50_648.out ?_; refine bfq8 NB50_648.out ?_; refine bfq8 NB50_648.out ?_; refine bfq8 NB50_648.out ?_; refine bfq8 NB50_648.out ?_; refine bfq8 NB50_648.out ?_; refine bfq8 NB50_648.out ?_; refine bfq8 NB50_648.out ?_; refine bfq8 NB50_648.out ?_; refine bfq8 NB50_648.out ?_; refine bfq8 NB50_648.out ?_; exact bpq8 BK50.out), (bbq8 HB.out), (kkq8 HK.out)⟩
                · rw [if_neg c116] at H
                  have c116b0 : (t684 == 23) = false := beq_eq_false_iff_ne.mpr c116
                  have c116b1 : (t684 != 23) = true := bne_iff_ne.mpr c116
                  simp only [Option.some.injEq, Prod.mk.injEq] at H
                  obtain ⟨rfl, rfl, rfl, rfl, rfl, rfl, rfl, rfl, rfl, rfl, rfl, rfl, rfl, rfl, rfl, rfl, rfl, rfl, rfl, rfl, rfl, rfl, rfl, rfl, rfl, rfl, rfl, rfl, rfl, rfl, rfl, rfl, rfl, rfl, rfl⟩ := H
                  have hnb137 := NB646_0.out
                  have hnc137 := NB0_646.out
                  have hnb138 := NB646_50.out
                  have hnc138 := NB50_646.out
                  have hnb139 := NB646_647.out
                  have hnc139 := NB647_646.out
                  have hnb140 := NB646_648.out
                  have hnc140 := NB648_646.out
                  have hnb141 := NB646_708.out
                  have hnc141 := NB708_646.out
                  obtain ⟨hcz142_0, hcz142_1, hcz142_2, hcz142_3, hcz142_4, hcz142_5, hcz142_6, hcz142_7, hcz142_8, hcz142_9, hcz142_10, hcz142_11, hcz142_12⟩ := bc13q8 BK646.out
                  have hfz142_0 := fun i_ => blk_frozen BK646.out i_
                  try go_wp2
                  have n0_ := Aside0.mk (Kd.R_drew HO_51001.out)
                  have n1_ := Aside0.mk (Kd.R_drew HO_647009.out)
                  have n2_ := Aside0.mk (blk_drew BK0.out)
                  have n3_ := Aside0.mk (blk_drew BK50.out)
                  have n4_ := Aside0.mk (blk_drew BK646.out)
                  have n5_ := Aside0.mk (blk_drew BK647.out)
                  have n6_ := Aside0.mk (blk_drew BK648.out)
                  have n7_ := Aside0.mk (blk_drew BK708.out)
                  have n8_ := Aside0.mk (Kept.drew HK.out)
                  have n9_ := Aside0.mk (below_drew1 HB.out)
                  clear HO_51001
                  clear HO_647009
                  clear BK0
                  clear BK50
                  clear BK646
                  clear BK647
                  clear BK648
                  clear BK708
                  clear HK
                  clear HB
                  have HO_51001 := n0_
                  have HO_647009 := n1_
                  have BK0 := n2_
                  have BK50 := n3_
                  have BK646 := n4_
                  have BK647 := n5_
                  have BK648 := n6_
                  have BK708 := n7_
                  have HK := n8_
                  have HB := n9_
                  clear n0_ n1_ n2_ n3_ n4_ n5_ n6_ n7_ n8_ n9_
                  refine start_ (n := 10) (S := fun w' => w'.cell? ⟨gb646, 0, none⟩ = some (.int .i64 a1_0) ∧ w'.cell? ⟨gb646, 1, none⟩ = some (.int .i64 a1_1) ∧ w'.cell? ⟨gb646, 2, none⟩ = some (.int .i64 a1_2) ∧ w'.cell? ⟨gb646, 3, none⟩ = some (.int .i64 a1_3) ∧ w'.cell? ⟨gb646, 4, none⟩ = some (.int .i64 a1_4) ∧ w'.cell? ⟨gb646, 5, none⟩ = some (.int .i64 a1_5) ∧ w'.cell? ⟨gb646, 6, none⟩ = some (.int .i64 a1_6) ∧ w'.cell? ⟨gb646, 7, none⟩ = some (.int .i64 a1_7) ∧ w'.cell? ⟨gb646, 8, none⟩ = some (.int .i64 a1_8) ∧ w'.cell? ⟨gb646, 9, none⟩ = some (.slice Ao5 l1_9.length co5) ∧ w'.cell? ⟨gb646, 10, none⟩ = some (.int .i64 a1_10) ∧ w'.cell? ⟨gb646, 11, none⟩ = some (.bool a1_11) ∧ w'.cell? ⟨gb646, 12, none⟩ = some (.int .i64 a1_12)) (ds := []) #[false, false, false, false, false, false, false, false, false, false] (by kernel_rfl) rfl rfl ⟨(blk_cell BK646.out 0).trans rfl, (blk_cell BK646.out 1).trans rfl, (blk_cell BK646.out 2).trans rfl, (blk_cell BK646.out 3).trans rfl, (blk_cell BK646.out 4).trans rfl, (blk_cell BK646.out 5).trans rfl, (blk_cell BK646.out 6).trans rfl, (blk_cell BK646.out 7).trans rfl, (blk_cell BK646.out 8).trans rfl, (blk_cell BK646.out 9).trans rfl, (blk_cell BK646.out 10).trans rfl, (blk_cell BK646.out 11).trans rfl, (blk_cell BK646.out 12).trans rfl⟩ (fun hHeld => ?_); refine with_tabW terracelaw15_step.tab12 terracelaw15_step.bits12 (fun HT_ HW_ => ?_)
                  generalize wc.drew = w143 at HO_51001 HO_647009 BK0 BK50 BK646 BK647 BK648 BK708 HK HB hHeld ⊢
                  refine pure_ (i := 1) (N := some 84) (v := ?_) (a' := ?_) #[false, true, false, false, false, false, false, false, false, false] rfl rfl (any_of HT_.out (by kernel_rfl)) (fun _ _ _ h => h) (Or.inl ⟨by rfl, ?_⟩) ?_ ?_
                  rotate_left
                  · intro w'
                    go_simp
                    with_reducible rfl
                  rotate_left
                  · simp only [Act.put, List.setIfInBounds_toArray, List.set_cons_zero, List.set_cons_succ, i64_w, i32_w]
                    rfl
                  refine pure_ (i := 2) (N := some 85) (v := ?_) (a' := ?_) #[false, true, true, false, false, false, false, false, false, false] rfl rfl (any_of HT_.out (by kernel_rfl)) (fun _ _ _ h => h) (Or.inl ⟨by rfl, ?_⟩) ?_ ?_
                  rotate_left
                  · intro w'
                    go_simp
                    with_reducible rfl
                  rotate_left
                  · simp only [Act.put, List.setIfInBounds_toArray, List.set_cons_zero, List.set_cons_succ, i64_w, i32_w]
                    rfl
                  refine pure_ (i := 3) (N := some 86) (v := ?_) (a' := ?_) #[false, true, true, true, false, false, false, false, false, false] rfl rfl (any_of HT_.out (by kernel_rfl)) (fun _ _ _ h => h) (Or.inl ⟨by rfl, ?_⟩) ?_ ?_
                  rotate_left
                  · intro w'
                    go_simp
                    with_reducible rfl
                  rotate_left
                  · simp only [Act.put, List.setIfInBounds_toArray, List.set_cons_zero, List.set_cons_succ, i64_w, i32_w]
                    rfl
                  refine pure_ (i := 4) (N := some 87) (v := undef) (a' := ?_) #[false, true, true, true, true, false, false, false, false, false] rfl rfl (any_of HT_.out (by kernel_rfl)) (fun _ _ _ h => h) (Or.inr ⟨by rfl, rfl⟩) ?_ ?_
                  rotate_left
                  · simp only [Act.put, List.setIfInBounds_toArray, List.set_cons_zero, List.set_cons_succ, i64_w, i32_w]
                    rfl
                  refine pure_ (i := 5) (N := some 88) (v := undef) (a' := ?_) #[false, true, true, true, true, true, false, false, false, false] rfl rfl (any_of HT_.out (by kernel_rfl)) (fun _ _ _ h => h) (Or.inr ⟨by rfl, rfl⟩) ?_ ?_
                  rotate_left
                  · simp only [Act.put, List.setIfInBounds_toArray, List.set_cons_zero, List.set_cons_succ, i64_w, i32_w]
                    rfl
                  refine pure_ (i := 6) (N := some 89) (v := undef) (a' := ?_) #[false, true, true, true, true, true, true, false, false, false] rfl rfl (any_of HT_.out (by kernel_rfl)) (fun _ _ _ h => h) (Or.inr ⟨by rfl, rfl⟩) ?_ ?_
                  rotate_left
                  · simp only [Act.put, List.setIfInBounds_toArray, List.set_cons_zero, List.set_cons_succ, i64_w, i32_w]
                    rfl
                  refine pure_ (i := 7) (N := some 90) (v := ?_) (a' := ?_) #[false, true, true, true, true, true, true, true, false, false] rfl rfl (any_of HT_.out (by kernel_rfl)) (fun _ _ _ h => h) (Or.inl ⟨by rfl, ?_⟩) ?_ ?_
                  rotate_left
                  · intro w'
                    go_simp
                    with_reducible rfl
                  rotate_left
                  · simp only [Act.put, List.setIfInBounds_toArray, List.set_cons_zero, List.set_cons_succ, i64_w, i32_w]
                    rfl
                  refine take_ (i := 0) (N := some 83) (v := ?_) (a' := ?_) #[true, true, true, true, true, true, true, true, false, false] rfl rfl (take_ofW HT_.out HW_.out (by kernel_rfl)) (fun _ _ _ h => h) (Or.inl ⟨by rfl, ?_⟩) hHeld ?_ ?_
                  rotate_left
                  · rintro w' ⟨s0, s1, s2, s3, s4, s5, s6, s7, s8, s9, s10, s11, s12⟩
                    go_simp
                    with_reducible rfl
                  rotate_left
                  · simp only [Act.put, List.setIfInBounds_toArray, List.set_cons_zero, List.set_cons_succ, i64_w, i32_w]
                    rfl
                  refine one_ (i := 8) (N := none) #[true, true, true, true, true, true, true, true, true, false] rfl rfl (one_of HT_.out (by kernel_rfl)) (by decide) (fun K hK => ?_)
                  have hs144 : w143.cell? ⟨gb648, 0, none⟩ = some (.int .i64 0) := (blk_cell BK648.out 0).trans rfl
                  have hfs144 := blk_frozen BK648.out 0
                  have hns144_0 := NB0_648.out
                  have hns144_1 := NB50_648.out
                  have hns144_2 := NB646_648.out
                  have hns144_3 := NB647_648.out
                  have hns144_5 := NB708_648.out
                  have hms144_0 := NB648_0.out
                  have hms144_1 := NB648_50.out
                  have hms144_2 := NB648_646.out
                  have hms144_3 := NB648_647.out
                  have hms144_5 := NB648_708.out
                  have hs145 : w143.cell? ⟨gb648, 1, none⟩ = some (.int .i64 0) := (blk_cell BK648.out 1).trans rfl
                  have hfs145 := blk_frozen BK648.out 1
                  have hs146 : w143.cell? ⟨gb648, 2, none⟩ = some (.int .i64 0) := (blk_cell BK648.out 2).trans rfl
                  have hfs146 := blk_frozen BK648.out 2
                  have hs147 : w143.cell? ⟨gb648, 3, none⟩ = some (.int .i64 0) := (blk_cell BK648.out 3).trans rfl
                  have hfs147 := blk_frozen BK648.out 3
                  have hs148 : w143.cell? ⟨gb648, 4, none⟩ = some (.int .i64 0) := (blk_cell BK648.out 4).trans rfl
                  have hfs148 := blk_frozen BK648.out 4
                  have hs149 : w143.cell? ⟨gb648, 5, none⟩ = some (.int .i64 0) := (blk_cell BK648.out 5).trans rfl
                  have hfs149 := blk_frozen BK648.out 5
                  have hs150 : w143.cell? ⟨gb648, 6, none⟩ = some (.int .i64 0) := (blk_cell BK648.out 6).trans rfl
                  have hfs150 := blk_frozen BK648.out 6
                  have hs151 : w143.cell? ⟨gb648, 7, none⟩ = some (.int .i64 0) := (blk_cell BK648.out 7).trans rfl
                  have hfs151 := blk_frozen BK648.out 7
                  have hs152 : w143.cell? ⟨gb648, 8, none⟩ = some (.int .i64 0) := (blk_cell BK648.out 8).trans rfl
                  have hfs152 := blk_frozen BK648.out 8
                  have hs153 : w143.cell? ⟨gb648, 9, none⟩ = some (.slice none 0 0) := (blk_cell BK648.out 9).trans rfl
                  have hfs153 := blk_frozen BK648.out 9
                  have hs154 : w143.cell? ⟨gb648, 10, none⟩ = some (.int .i64 0) := (blk_cell BK648.out 10).trans rfl
                  have hfs154 := blk_frozen BK648.out 10
                  have hs155 : w143.cell? ⟨gb648, 11, none⟩ = some (.bool false) := (blk_cell BK648.out 11).trans rfl
                  have hfs155 := blk_frozen BK648.out 11
                  have hs156 : w143.cell? ⟨gb648, 12, none⟩ = some (.int .i64 0) := (blk_cell BK648.out 12).trans rfl
                  have hfs156 := blk_frozen BK648.out 12
                  refine skip_ (w1 := ?_) (by rfl) rfl ?_ ?_
                  rotate_left
                  · go_simp
                    rfl
                  refine hK.out _ _ ⟨(cf13q8 NB646_648.out (hHeld.1)), (cf13q8 NB646_648.out (hHeld.2.1)), (cf13q8 NB646_648.out (hHeld.2.2.1)), (cf13q8 NB646_648.out (hHeld.2.2.2.1)), (cf13q8 NB646_648.out (hHeld.2.2.2.2.1)), (cf13q8 NB646_648.out (hHeld.2.2.2.2.2.1)), (cf13q8 NB646_648.out (hHeld.2.2.2.2.2.2.1)), (cf13q8 NB646_648.out (hHeld.2.2.2.2.2.2.2.1)), (cf13q8 NB646_648.out (hHeld.2.2.2.2.2.2.2.2.1)), (cf13q8 NB646_648.out (hHeld.2.2.2.2.2.2.2.2.2.1)), (cf13q8 NB646_648.out (hHeld.2.2.2.2.2.2.2.2.2.2.1)), (cf13q8 NB646_648.out (hHeld.2.2.2.2.2.2.2.2.2.2.2.1)), (cf13q8 NB646_648.out (hHeld.2.2.2.2.2.2.2.2.2.2.2.2))⟩ (fun hHeld => ?_)
                  clear hK K
                  refine pure_ (i := 9) (N := some 7) (v := ?_) (a' := ?_) #[true, true, true, true, true, true, true, true, true, true] rfl rfl (any_of HT_.out (by kernel_rfl)) (fun _ _ _ h => h) (Or.inl ⟨by rfl, ?_⟩) ?_ ?_
                  rotate_left
                  · intro w'
                    go_simp
                    with_reducible rfl
                  rotate_left
                  · simp only [Act.put, List.setIfInBounds_toArray, List.set_cons_zero, List.set_cons_succ, i64_w, i32_w]
                    rfl
                  refine done_ (done_of HT_.out (by kernel_rfl)) ?_
                  try go_wp2
                  refine bodyPost_ret (results_ct rfl _ _ gb648 41 #[.int .i64 a1_0, .int .i64 a1_1, .int .i64 a1_2, .int .i64 a1_3, .int .i64 a1_4, .int .i64 a1_5, .int .i64 a1_6, .int .i64 a1_7, .int .i64 a1_8, .slice Ao5 l1_9.length co5, .int .i64 a1_10, .bool a1_11, .int .i64 a1_12] (0, 0) _ rfl (by refine bzq8 ?_; refine btq8 (i := 12) ?_; refine btq8 (i := 11) ?_; refine btq8 (i := 10) ?_; refine btq8 (i := 9) ?_; refine btq8 (i := 8) ?_; refine btq8 (i := 7) ?_; refine btq8 (i := 6) ?_; refine btq8 (i := 5) ?_; refine btq8 (i := 4) ?_; refine btq8 (i := 3) ?_; refine btq8 (i := 2) ?_; refine btq8 (i := 1) ?_; refine btq8 (i := 0) ?_; exact ⟨_, bpq8 BK648.out, by first | (simp only [List.setIfInBounds_toArray, List.set_cons_zero, List.set_cons_succ]; done) | rfl⟩) Try.underlying41 rfl (by kernel_rfl)) rfl ?_
                  exact ⟨_, _, by first | rfl | (simp [errW_none, errW_some] <;> rfl) | (simp only [← hji54, ← hji55]; first | rfl | (simp [errW_none, errW_some] <;> rfl)) | (simp [*, errW_none, errW_some] <;> rfl), by (with_reducible repeat (first | apply Kd.R_alloc | apply Kd.R_drewN | apply Kd.R_drew)); exact Kd.R_mono (Kd.R_far (Kd.R_far (Kd.R_far (Kd.R_far (Kd.R_far (Kd.R_far (Kd.R_far (Kd.R_far (Kd.R_far (Kd.R_far (Kd.R_far (Kd.R_far (Kd.R_far (Kd.R_types HO_647009.out BK648.out (by decide)) (fun _ hk => hk.2) _) (fun _ hk => hk.2) _) (fun _ hk => hk.2) _) (fun _ hk => hk.2) _) (fun _ hk => hk.2) _) (fun _ hk => hk.2) _) (fun _ hk => hk.2) _) (fun _ hk => hk.2) _) (fun _ hk => hk.2) _) (fun _ hk => hk.2) _) (fun _ hk => hk.2) _) (fun _ hk => hk.2) _) (fun _ hk => hk.2) _) (fun _ hk => ⟨hk.1.1, hk.1.2⟩), by (with_reducible repeat (first | apply Kd.R_alloc | apply Kd.R_drewN | apply Kd.R_drew)); exact Kd.R_mono (Kd.R_far (Kd.R_far (Kd.R_far (Kd.R_far (Kd.R_far (Kd.R_far (Kd.R_far (Kd.R_far (Kd.R_far (Kd.R_far (Kd.R_far (Kd.R_far (Kd.R_far (Kd.R_types HO_51001.out BK648.out (by decide)) (fun _ hk => hk.2) _) (fun _ hk => hk.2) _) (fun _ hk => hk.2) _) (fun _ hk => hk.2) _) (fun _ hk => hk.2) _) (fun _ hk => hk.2) _) (fun _ hk => hk.2) _) (fun _ hk => hk.2) _) (fun _ hk => hk.2) _) (fun _ hk => hk.2) _) (fun _ hk => hk.2) _) (fun _ hk => hk.2) _) (fun _ hk => hk.2) _) (fun _ hk => ⟨hk.1.1, hk.1.2⟩), (by refine bfq8 NB0_648.out ?_; refine bfq8 NB0_648.out ?_; refine bfq8 NB0_648.out ?_; refine bfq8 NB0_648.out ?_; refine bfq8 NB0_648.out ?_; refine bfq8 NB0_648.out ?_; refine bfq8 NB0_648.out ?_; refine bfq8 NB0_648.out ?_; refine bfq8 NB0_648.out ?_; refine bfq8 NB0_648.out ?_; refine bfq8 NB0_648.out ?_; refine bfq8 NB0_648.out ?_; refine bfq8 NB0_648.out ?_; exact bpq8 BK0.out), (by refine bfq8 NB50_648.out ?_; refine bfq8 NB50_648.out ?_; refine bfq8 NB50_648.out ?_; refine bfq8 NB50_648.out ?_; refine bfq8 NB50_648.out ?_; refine bfq8 NB50_648.out ?_; refine bfq8 NB50_648.out ?_; refine bfq8 NB50_648.out ?_; refine bfq8 NB50_648.out ?_; refine bfq8 NB50_648.out ?_; refine bfq8 NB50_648.out ?_; refine bfq8 NB50_648.out ?_; refine bfq8 NB50_648.out ?_; exact bpq8 BK50.out), (bbq8 HB.out), (kkq8 HK.out)⟩
              · rw [if_neg c115] at H
                have c115b0 : decide ((wrap64 (a1_12 + (ji55))) < a1_12) = false := decide_eq_false c115
                clear c115
                replace H := Option.bind_eq_some_iff.mp H
                obtain ⟨⟨t711, t712, t713, t714, t715, t716, t717, t718, t719, t720, t723, t724, t725, t726, t727, t728⟩, A1570, H⟩ := H
                replace H : (if t684 = 0 then (some (t711, t712, t713, t714, t715, t716, t717, t718, t719, t720, t723, t724, t725, (t681 == t726 && (t682 == t727 && (t683 == t728))), t685, t686, t687, t688, t689, t690, t691, t692, t693, t694, t695, t696, t697, t698, t699, t700, t701, t702, t705, t706, t707)) else (some (t711, t712, t713, t714, t715, t716, t717, t718, t719, t720, t723, t724, t725, false, t685, t686, t687, t688, t689, t690, t691, t692, t693, t694, t695, t696, t697, t698, t699, t700, t701, t702, t705, t706, t707))) = some (r1, r2, r3, r4, r5, r6, r7, r8, r9, r10, r11, r12, r13, r14, r15, r16, r17, r18, r19, r20, r21, r22, r23, r24, r25, r26, r27, r28, r29, r30, r31, r32, r33, r34, r35) := H
                have A157 := Aside0.mk A1570
                clear A1570
                by_cases c158 : t684 = 0
                · rw [if_pos c158] at H
                  have c158b0 : (t684 == 0) = true := beq_iff_eq.mpr c158
                  have c158b1 : (t684 != 0) = false := bne_eq_false_iff_eq.mpr c158
                  clear c158
                  simp only [Option.some.injEq, Prod.mk.injEq] at H
                  obtain ⟨rfl, rfl, rfl, rfl, rfl, rfl, rfl, rfl, rfl, rfl, rfl, rfl, rfl, rfl, rfl, rfl, rfl, rfl, rfl, rfl, rfl, rfl, rfl, rfl, rfl, rfl, rfl, rfl, rfl, rfl, rfl, rfl, rfl, rfl, rfl⟩ := H
                  have hnb159 := NB646_0.out
                  have hnc159 := NB0_646.out
                  have hnb160 := NB646_50.out
                  have hnc160 := NB50_646.out
                  have hnb161 := NB646_647.out
                  have hnc161 := NB647_646.out
                  have hnb162 := NB646_648.out
                  have hnc162 := NB648_646.out
                  have hnb163 := NB646_708.out
                  have hnc163 := NB708_646.out
                  obtain ⟨hcz164_0, hcz164_1, hcz164_2, hcz164_3, hcz164_4, hcz164_5, hcz164_6, hcz164_7, hcz164_8, hcz164_9, hcz164_10, hcz164_11, hcz164_12⟩ := bc13q8 BK646.out
                  have hfz164_0 := fun i_ => blk_frozen BK646.out i_
                  have hnb165 := NB647_0.out
                  have hnc165 := NB0_647.out
                  have hnb166 := NB647_50.out
                  have hnc166 := NB50_647.out
                  have hnb167 := NB647_648.out
                  have hnc167 := NB648_647.out
                  have hnb168 := NB647_708.out
                  have hnc168 := NB708_647.out
                  obtain ⟨hcz169_0, hcz169_1, hcz169_2, hcz169_3, hcz169_4⟩ := bc5q8 BK647.out
                  have hfz169_0 := fun i_ => blk_frozen BK647.out i_
                  try go_wp2_with (first | ((with_reducible refine gate_callee (f := 25) rfl ?_); refine goesL_ (some 100) rfl rfl Try.func25 (by kernel_rfl) rfl #[.agg #[.int .i64 a1_0, .int .i64 a1_1, .int .i64 a1_2, .int .i64 a1_3, .int .i64 a1_4, .int .i64 a1_5, .int .i64 a1_6, .int .i64 a1_7, .int .i64 a1_8, .slice Ao5 l1_9.length co5, .int .i64 a1_10, .bool a1_11, .int .i64 a1_12], .int .i64 a2_1, .int .u32 a2_2, .int .i64 (wrap64 (a1_12 + (ji55))), .int .i64 a2_4] rfl (by (try simp only [List.map_toArray, List.map_cons, List.map_nil]); first | done | (simp only [hji55]; rfl) | rfl | (simp only [List.length_drop, List.length_take]; rfl)) ?_; (with_reducible refine (terraceref15_On.calls kj56 a1_0 a1_1 a1_2 a1_3 a1_4 a1_5 a1_6 a1_7 a1_8 (fun k_ => some k_ = (.slice Ao5 l1_9.length co5 : Value).ownBlock) (.slice Ao5 l1_9.length co5) l1_9 a1_10 a1_11 a1_12 a2_1 a2_2 (wrap64 (a1_12 + (ji55))) a2_4 t711 t712 t713 t714 t715 t716 t717 t718 t719 t720 t723 t724 t725 t726 t727 t728 w0 _ ?side1 ?side2 A157.out).mono ?_); (case side1 => repeat (first | (with_reducible first | exact HB.out | apply below_alloc | apply pw_below_drewN | apply below_drew1 | refine below_set ?_ GE0.out | refine below_set ?_ GE50.out | refine below_set ?_ GE646.out | refine below_set ?_ GE647.out | refine below_set ?_ GE648.out | refine below_set ?_ GE708.out) | exact HB.out)); (case side2 => exact Kd.R_tight rfl HO_647009.out); rintro e w170 ⟨v721, rfl, ho0, hb, hkp⟩; refine ⟨_, rfl, ?_⟩; have n0_ := Aside0.mk (Kd.R_mono (ok' := fun k_ => ((P0_17_ k_ ∨ False) ∨ w.heap.size ≤ k_) ∧ some k_ ≠ (v721 : Value).ownBlock) (Kd.R_keptB (HO_51001.out) hkp (fun k_ hk_ hs_ => (fun e_ => e_.elim) hs_)) (fun k_ hk_ => ⟨hk_.1.1, fun e_ => Or.elim (ho0.1 k_ e_.symm) (fun hs_ => (fun e2_ => (hk_.1.2) e2_) hs_) (fun hn_ => Nat.not_le.2 hk_.2.2 hn_)⟩)); have n1_ := Aside0.mk (blk_kept (by exact bpq8 BK0.out) hkp (fun hs_ => (fun e_ => e_.elim) hs_)); have n2_ := Aside0.mk (blk_kept (by exact bpq8 BK50.out) hkp (fun hs_ => (fun e_ => e_.elim) hs_)); have n3_ := Aside0.mk (blk_kept (by exact bpq8 BK646.out) hkp (fun hs_ => (fun e_ => e_.elim) hs_)); have n4_ := Aside0.mk (blk_kept (by exact bpq8 BK647.out) hkp (fun hs_ => (fun e_ => e_.elim) hs_)); have n5_ := Aside0.mk (blk_kept (by exact bpq8 BK648.out) hkp (fun hs_ => (fun e_ => e_.elim) hs_)); have n6_ := Aside0.mk (blk_kept (by exact bpq8 BK708.out) hkp (fun hs_ => (fun e_ => e_.elim) hs_)); have n7_ := Aside0.mk (Kd.R_mono (ok' := fun k_ => ((False ∨ P1_9_ k_) ∨ w.heap.size ≤ k_) ∧ some k_ ≠ (v703 : Value).ownBlock) ho0 (fun k_ hk_ => ⟨Or.elim hk_ (fun hs_ => (HO_647009.out.1 k_ (hs_).symm).1) (fun hn_ => (.inr (Nat.le_trans (by first | exact HK.out.1 | exact (show Kept w _ (fun k_ => ((P0_17_ k_ ∨ False) ∨ k_ = g) ∨ k_ = gs0) from (kkq8 HK.out)).1) hn_))), Or.elim hk_ (fun hs_ => fun e_ => (((HO_51001.out).1 k_ e_.symm).2) hs_) (fun hn_ => (Kd.fresh' (Kd.R_lt (by (with_reducible repeat (first | apply Kd.R_alloc | apply Kd.R_drewN | apply Kd.R_drew)); exact HO_51001.out)) k_ hn_))⟩)); have n8_ := Aside0.mk (Kept.then_ (S := (fun k_ => ((P0_17_ k_ ∨ False) ∨ k_ = g) ∨ k_ = gs0)) ((kkq8 HK.out)) hkp (fun k_ hs_ => (fun e_ => e_.elim) hs_)); have n9_ := Aside0.mk (hb); clear HO_51001; clear BK0; clear BK50; clear BK646; clear BK647; clear BK648; clear BK708; clear HK; clear HB; clear HO_647009; have HO_51001 := n0_; have BK0 := n1_; have BK50 := n2_; have BK646 := n3_; have BK647 := n4_; have BK648 := n5_; have BK708 := n6_; have HO722 := n7_; have HK := n8_; have HB := n9_; clear n0_ n1_ n2_ n3_ n4_ n5_ n6_ n7_ n8_ n9_; (try clear hb); (try clear hkp); (try clear ho0)) | ((with_reducible refine gate_dst (N := 12) rfl ?_); refine box_event ?hg (N := 12) ?hd (cs := #[.int .i64 0, .int .i64 0, .int .i64 0, .int .i64 0, .int .i64 0, .int .i64 0, .int .i64 0, .int .i64 0, .int .i64 0, .slice none 0 0, .int .i64 0, .bool false, .int .i64 0]) (t := 41) ?hr ?_; (case hd => rfl); (case hg => rfl); (case hr => first | (go_simp; done) | (go_simp; rfl)); intro gb729 hg w171 hbox hb; have n0_ := Aside0.mk (Kd.R_below (by (with_reducible repeat (first | apply Kd.R_alloc | apply Kd.R_drewN | apply Kd.R_drew)); exact HO_51001.out) hb); have n1_ := Aside0.mk (Kd.R_below (by (with_reducible repeat (first | apply Kd.R_alloc | apply Kd.R_drewN | apply Kd.R_drew)); exact HO722.out) hb); have n2_ := Aside0.mk (blk_below (bpq8 BK0.out) hb); have n3_ := Aside0.mk (blk_below (bpq8 BK50.out) hb); have n4_ := Aside0.mk (blk_below (bpq8 BK646.out) hb); have n5_ := Aside0.mk (blk_below (bpq8 BK647.out) hb); have n6_ := Aside0.mk (blk_below (bpq8 BK648.out) hb); have n7_ := Aside0.mk (blk_below (bpq8 BK708.out) hb); have n8_ := Aside0.mk (Kept.below (S := (fun k_ => ((P0_17_ k_ ∨ False) ∨ k_ = g) ∨ k_ = gs0)) ((kkq8 HK.out)) hb); have n9_ := Aside0.mk (below_step ((bbq8 HB.out)) hb); have n10_ := Aside0.mk (hbox); have n11_ := Aside0.mk ((by rw [hg]; exact (by first | exact HK.out.1 | exact (show Kept w _ (fun k_ => ((P0_17_ k_ ∨ False) ∨ k_ = g) ∨ k_ = gs0) from (kkq8 HK.out)).1) : w.heap.size ≤ gb729)); have n12_ := Aside0.mk ((by rw [hg]; exact (below_size ((bbq8 HB.out))) : w0.heap.size ≤ gb729)); have n13_ := Aside0.mk ((by rw [hg]; exact Nat.ne_of_lt (blk_lt (bpq8 BK0.out)) : g ≠ gb729)); have n14_ := Aside0.mk ((by rw [hg]; exact Nat.ne_of_gt (blk_lt (bpq8 BK0.out)) : gb729 ≠ g)); have n15_ := Aside0.mk ((by rw [hg]; exact Nat.ne_of_lt (blk_lt (bpq8 BK50.out)) : gs0 ≠ gb729)); have n16_ := Aside0.mk ((by rw [hg]; exact Nat.ne_of_gt (blk_lt (bpq8 BK50.out)) : gb729 ≠ gs0)); have n17_ := Aside0.mk ((by rw [hg]; exact Nat.ne_of_lt (blk_lt (bpq8 BK646.out)) : gb646 ≠ gb729)); have n18_ := Aside0.mk ((by rw [hg]; exact Nat.ne_of_gt (blk_lt (bpq8 BK646.out)) : gb729 ≠ gb646)); have n19_ := Aside0.mk ((by rw [hg]; exact Nat.ne_of_lt (blk_lt (bpq8 BK647.out)) : gb647 ≠ gb729)); have n20_ := Aside0.mk ((by rw [hg]; exact Nat.ne_of_gt (blk_lt (bpq8 BK647.out)) : gb729 ≠ gb647)); have n21_ := Aside0.mk ((by rw [hg]; exact Nat.ne_of_lt (blk_lt (bpq8 BK648.out)) : gb648 ≠ gb729)); have n22_ := Aside0.mk ((by rw [hg]; exact Nat.ne_of_gt (blk_lt (bpq8 BK648.out)) : gb729 ≠ gb648)); have n23_ := Aside0.mk ((by rw [hg]; exact Nat.ne_of_lt (blk_lt (bpq8 BK708.out)) : gb708 ≠ gb729)); have n24_ := Aside0.mk ((by rw [hg]; exact Nat.ne_of_gt (blk_lt (bpq8 BK708.out)) : gb729 ≠ gb708)); clear HO_51001; clear HO722; clear BK0; clear BK50; clear BK646; clear BK647; clear BK648; clear BK708; clear HK; clear HB; have HO_51001 := n0_; have HO722 := n1_; have BK0 := n2_; have BK50 := n3_; have BK646 := n4_; have BK647 := n5_; have BK648 := n6_; have BK708 := n7_; have HK := n8_; have HB := n9_; have BK729 := n10_; have GW729 := n11_; have GE729 := n12_; have NB0_729 := n13_; have NB729_0 := n14_; have NB50_729 := n15_; have NB729_50 := n16_; have NB646_729 := n17_; have NB729_646 := n18_; have NB647_729 := n19_; have NB729_647 := n20_; have NB648_729 := n21_; have NB729_648 := n22_; have NB708_729 := n23_; have NB729_708 := n24_; clear n0_ n1_ n2_ n3_ n4_ n5_ n6_ n7_ n8_ n9_ n10_ n11_ n12_ n13_ n14_ n15_ n16_ n17_ n18_ n19_ n20_ n21_ n22_ n23_ n24_; clear hb hbox hg; have hnb172 := NB729_0.out; have hnc172 := NB0_729.out; have hnb173 := NB729_50.out; have hnc173 := NB50_729.out; have hnb174 := NB729_646.out; have hnc174 := NB646_729.out; have hnb175 := NB729_647.out; have hnc175 := NB647_729.out; have hnb176 := NB729_648.out; have hnc176 := NB648_729.out; have hnb177 := NB729_708.out; have hnc177 := NB708_729.out; obtain ⟨hcz178_0, hcz178_1, hcz178_2, hcz178_3, hcz178_4, hcz178_5, hcz178_6, hcz178_7, hcz178_8, hcz178_9, hcz178_10, hcz178_11, hcz178_12⟩ := bc13q8 BK729.out; have hfz178_0 := fun i_ => blk_frozen BK729.out i_; obtain ⟨Ao179, co179, eo179⟩ := Kd.R_slice HO722.out; subst eo179))
                  have n0_ : Aside0 (Kd.R (Kd.int .i64) 3 (((((((((((((w171.setCell ⟨gb729, 0, none⟩ (.int .i64 t711)).setCell ⟨gb729, 1, none⟩ (.int .i64 t712)).setCell ⟨gb729, 2, none⟩ (.int .i64 t713)).setCell ⟨gb729, 3, none⟩ (.int .i64 t714)).setCell ⟨gb729, 4, none⟩ (.int .i64 t715)).setCell ⟨gb729, 5, none⟩ (.int .i64 t716)).setCell ⟨gb729, 6, none⟩ (.int .i64 t717)).setCell ⟨gb729, 7, none⟩ (.int .i64 t718)).setCell ⟨gb729, 8, none⟩ (.int .i64 t719)).setCell ⟨gb729, 9, none⟩ (.slice Ao179 t720.length co179)).setCell ⟨gb729, 10, none⟩ (.int .i64 t723)).setCell ⟨gb729, 11, none⟩ (.bool t724)).setCell ⟨gb729, 12, none⟩ (.int .i64 t725)) w0.heap.size (fun k_ => ((P0_17_ k_ ∨ False) ∨ w.heap.size ≤ k_) ∧ some k_ ≠ (.slice Ao179 t720.length co179 : Value).ownBlock) v703 t702) := ⟨by (with_reducible repeat (first | apply Kd.R_alloc | apply Kd.R_drewN | apply Kd.R_drew)); exact Kd.R_mono (Kd.R_far (Kd.R_far (Kd.R_far (Kd.R_far (Kd.R_far (Kd.R_far (Kd.R_far (Kd.R_far (Kd.R_far (Kd.R_far (Kd.R_far (Kd.R_far (Kd.R_far (Kd.R_types HO_51001.out BK729.out (by decide)) (fun _ hk => hk.2) _) (fun _ hk => hk.2) _) (fun _ hk => hk.2) _) (fun _ hk => hk.2) _) (fun _ hk => hk.2) _) (fun _ hk => hk.2) _) (fun _ hk => hk.2) _) (fun _ hk => hk.2) _) (fun _ hk => hk.2) _) (fun _ hk => hk.2) _) (fun _ hk => hk.2) _) (fun _ hk => hk.2) _) (fun _ hk => hk.2) _) (fun _ hk => ⟨hk.1.1, hk.1.2⟩)⟩
                  have n1_ : Aside0 (Kd.R (Kd.int .i64) 3 (((((((((((((w171.setCell ⟨gb729, 0, none⟩ (.int .i64 t711)).setCell ⟨gb729, 1, none⟩ (.int .i64 t712)).setCell ⟨gb729, 2, none⟩ (.int .i64 t713)).setCell ⟨gb729, 3, none⟩ (.int .i64 t714)).setCell ⟨gb729, 4, none⟩ (.int .i64 t715)).setCell ⟨gb729, 5, none⟩ (.int .i64 t716)).setCell ⟨gb729, 6, none⟩ (.int .i64 t717)).setCell ⟨gb729, 7, none⟩ (.int .i64 t718)).setCell ⟨gb729, 8, none⟩ (.int .i64 t719)).setCell ⟨gb729, 9, none⟩ (.slice Ao179 t720.length co179)).setCell ⟨gb729, 10, none⟩ (.int .i64 t723)).setCell ⟨gb729, 11, none⟩ (.bool t724)).setCell ⟨gb729, 12, none⟩ (.int .i64 t725)) w0.heap.size (fun k_ => ((False ∨ P1_9_ k_) ∨ w.heap.size ≤ k_) ∧ some k_ ≠ (v703 : Value).ownBlock) (.slice Ao179 t720.length co179) t720) := ⟨by (with_reducible repeat (first | apply Kd.R_alloc | apply Kd.R_drewN | apply Kd.R_drew)); exact Kd.R_mono (Kd.R_far (Kd.R_far (Kd.R_far (Kd.R_far (Kd.R_far (Kd.R_far (Kd.R_far (Kd.R_far (Kd.R_far (Kd.R_far (Kd.R_far (Kd.R_far (Kd.R_far (Kd.R_types HO722.out BK729.out (by decide)) (fun _ hk => hk.2) _) (fun _ hk => hk.2) _) (fun _ hk => hk.2) _) (fun _ hk => hk.2) _) (fun _ hk => hk.2) _) (fun _ hk => hk.2) _) (fun _ hk => hk.2) _) (fun _ hk => hk.2) _) (fun _ hk => hk.2) _) (fun _ hk => hk.2) _) (fun _ hk => hk.2) _) (fun _ hk => hk.2) _) (fun _ hk => hk.2) _) (fun _ hk => ⟨hk.1.1, hk.1.2⟩)⟩
                  have n2_ : Aside0 ((((((((((((((w171.setCell ⟨gb729, 0, none⟩ (.int .i64 t711)).setCell ⟨gb729, 1, none⟩ (.int .i64 t712)).setCell ⟨gb729, 2, none⟩ (.int .i64 t713)).setCell ⟨gb729, 3, none⟩ (.int .i64 t714)).setCell ⟨gb729, 4, none⟩ (.int .i64 t715)).setCell ⟨gb729, 5, none⟩ (.int .i64 t716)).setCell ⟨gb729, 6, none⟩ (.int .i64 t717)).setCell ⟨gb729, 7, none⟩ (.int .i64 t718)).setCell ⟨gb729, 8, none⟩ (.int .i64 t719)).setCell ⟨gb729, 9, none⟩ (.slice Ao179 t720.length co179)).setCell ⟨gb729, 10, none⟩ (.int .i64 t723)).setCell ⟨gb729, 11, none⟩ (.bool t724)).setCell ⟨gb729, 12, none⟩ (.int .i64 t725)).heap[g]? = some (.cells #[.int .u32 t685, .bool t686, .int .u32 t687, .bool t688, .int .u32 t689, .bool t690, .int .u32 t691, .bool t692, .int .u32 t693, .bool t694, .int .u32 t695, .bool t696, .int .u32 t697, .bool t698, .int .u32 t699, .bool t700, .pointer (some ⟨gs0, 0, none⟩), .int .i64 t705, .int .i64 t706, .bool t707] 54 (0, 0))) := ⟨by refine bfq8 NB0_729.out ?_; refine bfq8 NB0_729.out ?_; refine bfq8 NB0_729.out ?_; refine bfq8 NB0_729.out ?_; refine bfq8 NB0_729.out ?_; refine bfq8 NB0_729.out ?_; refine bfq8 NB0_729.out ?_; refine bfq8 NB0_729.out ?_; refine bfq8 NB0_729.out ?_; refine bfq8 NB0_729.out ?_; refine bfq8 NB0_729.out ?_; refine bfq8 NB0_729.out ?_; refine bfq8 NB0_729.out ?_; exact bpq8 BK0.out⟩
                  have n3_ : Aside0 ((((((((((((((w171.setCell ⟨gb729, 0, none⟩ (.int .i64 t711)).setCell ⟨gb729, 1, none⟩ (.int .i64 t712)).setCell ⟨gb729, 2, none⟩ (.int .i64 t713)).setCell ⟨gb729, 3, none⟩ (.int .i64 t714)).setCell ⟨gb729, 4, none⟩ (.int .i64 t715)).setCell ⟨gb729, 5, none⟩ (.int .i64 t716)).setCell ⟨gb729, 6, none⟩ (.int .i64 t717)).setCell ⟨gb729, 7, none⟩ (.int .i64 t718)).setCell ⟨gb729, 8, none⟩ (.int .i64 t719)).setCell ⟨gb729, 9, none⟩ (.slice Ao179 t720.length co179)).setCell ⟨gb729, 10, none⟩ (.int .i64 t723)).setCell ⟨gb729, 11, none⟩ (.bool t724)).setCell ⟨gb729, 12, none⟩ (.int .i64 t725)).heap[gs0]? = some (.cells #[.int .i64 t701, v703] 68 (0, 0))) := ⟨by refine bfq8 NB50_729.out ?_; refine bfq8 NB50_729.out ?_; refine bfq8 NB50_729.out ?_; refine bfq8 NB50_729.out ?_; refine bfq8 NB50_729.out ?_; refine bfq8 NB50_729.out ?_; refine bfq8 NB50_729.out ?_; refine bfq8 NB50_729.out ?_; refine bfq8 NB50_729.out ?_; refine bfq8 NB50_729.out ?_; refine bfq8 NB50_729.out ?_; refine bfq8 NB50_729.out ?_; refine bfq8 NB50_729.out ?_; exact bpq8 BK50.out⟩
                  have n4_ : Aside0 ((((((((((((((w171.setCell ⟨gb729, 0, none⟩ (.int .i64 t711)).setCell ⟨gb729, 1, none⟩ (.int .i64 t712)).setCell ⟨gb729, 2, none⟩ (.int .i64 t713)).setCell ⟨gb729, 3, none⟩ (.int .i64 t714)).setCell ⟨gb729, 4, none⟩ (.int .i64 t715)).setCell ⟨gb729, 5, none⟩ (.int .i64 t716)).setCell ⟨gb729, 6, none⟩ (.int .i64 t717)).setCell ⟨gb729, 7, none⟩ (.int .i64 t718)).setCell ⟨gb729, 8, none⟩ (.int .i64 t719)).setCell ⟨gb729, 9, none⟩ (.slice Ao179 t720.length co179)).setCell ⟨gb729, 10, none⟩ (.int .i64 t723)).setCell ⟨gb729, 11, none⟩ (.bool t724)).setCell ⟨gb729, 12, none⟩ (.int .i64 t725)).heap[gb646]? = some (.cells #[.int .i64 a1_0, .int .i64 a1_1, .int .i64 a1_2, .int .i64 a1_3, .int .i64 a1_4, .int .i64 a1_5, .int .i64 a1_6, .int .i64 a1_7, .int .i64 a1_8, .slice Ao5 l1_9.length co5, .int .i64 a1_10, .bool a1_11, .int .i64 a1_12] 41 (0, 0))) := ⟨by refine bfq8 NB646_729.out ?_; refine bfq8 NB646_729.out ?_; refine bfq8 NB646_729.out ?_; refine bfq8 NB646_729.out ?_; refine bfq8 NB646_729.out ?_; refine bfq8 NB646_729.out ?_; refine bfq8 NB646_729.out ?_; refine bfq8 NB646_729.out ?_; refine bfq8 NB646_729.out ?_; refine bfq8 NB646_729.out ?_; refine bfq8 NB646_729.out ?_; refine bfq8 NB646_729.out ?_; refine bfq8 NB646_729.out ?_; exact bpq8 BK646.out⟩
                  have n5_ : Aside0 ((((((((((((((w171.setCell ⟨gb729, 0, none⟩ (.int .i64 t711)).setCell ⟨gb729, 1, none⟩ (.int .i64 t712)).setCell ⟨gb729, 2, none⟩ (.int .i64 t713)).setCell ⟨gb729, 3, none⟩ (.int .i64 t714)).setCell ⟨gb729, 4, none⟩ (.int .i64 t715)).setCell ⟨gb729, 5, none⟩ (.int .i64 t716)).setCell ⟨gb729, 6, none⟩ (.int .i64 t717)).setCell ⟨gb729, 7, none⟩ (.int .i64 t718)).setCell ⟨gb729, 8, none⟩ (.int .i64 t719)).setCell ⟨gb729, 9, none⟩ (.slice Ao179 t720.length co179)).setCell ⟨gb729, 10, none⟩ (.int .i64 t723)).setCell ⟨gb729, 11, none⟩ (.bool t724)).setCell ⟨gb729, 12, none⟩ (.int .i64 t725)).heap[gb647]? = some (.cells #[.int .i64 a2_0, .int .i64 a2_1, .int .u32 a2_2, .int .i64 a2_3, .int .i64 a2_4] 29 (0, 0))) := ⟨by refine bfq8 NB647_729.out ?_; refine bfq8 NB647_729.out ?_; refine bfq8 NB647_729.out ?_; refine bfq8 NB647_729.out ?_; refine bfq8 NB647_729.out ?_; refine bfq8 NB647_729.out ?_; refine bfq8 NB647_729.out ?_; refine bfq8 NB647_729.out ?_; refine bfq8 NB647_729.out ?_; refine bfq8 NB647_729.out ?_; refine bfq8 NB647_729.out ?_; refine bfq8 NB647_729.out ?_; refine bfq8 NB647_729.out ?_; exact bpq8 BK647.out⟩
                  have n6_ : Aside0 ((((((((((((((w171.setCell ⟨gb729, 0, none⟩ (.int .i64 t711)).setCell ⟨gb729, 1, none⟩ (.int .i64 t712)).setCell ⟨gb729, 2, none⟩ (.int .i64 t713)).setCell ⟨gb729, 3, none⟩ (.int .i64 t714)).setCell ⟨gb729, 4, none⟩ (.int .i64 t715)).setCell ⟨gb729, 5, none⟩ (.int .i64 t716)).setCell ⟨gb729, 6, none⟩ (.int .i64 t717)).setCell ⟨gb729, 7, none⟩ (.int .i64 t718)).setCell ⟨gb729, 8, none⟩ (.int .i64 t719)).setCell ⟨gb729, 9, none⟩ (.slice Ao179 t720.length co179)).setCell ⟨gb729, 10, none⟩ (.int .i64 t723)).setCell ⟨gb729, 11, none⟩ (.bool t724)).setCell ⟨gb729, 12, none⟩ (.int .i64 t725)).heap[gb648]? = some (.cells #[.int .i64 0, .int .i64 0, .int .i64 0, .int .i64 0, .int .i64 0, .int .i64 0, .int .i64 0, .int .i64 0, .int .i64 0, .slice none 0 0, .int .i64 0, .bool false, .int .i64 0] 41 (0, 0))) := ⟨by refine bfq8 NB648_729.out ?_; refine bfq8 NB648_729.out ?_; refine bfq8 NB648_729.out ?_; refine bfq8 NB648_729.out ?_; refine bfq8 NB648_729.out ?_; refine bfq8 NB648_729.out ?_; refine bfq8 NB648_729.out ?_; refine bfq8 NB648_729.out ?_; refine bfq8 NB648_729.out ?_; refine bfq8 NB648_729.out ?_; refine bfq8 NB648_729.out ?_; refine bfq8 NB648_729.out ?_; refine bfq8 NB648_729.out ?_; exact bpq8 BK648.out⟩
                  have n7_ : Aside0 ((((((((((((((w171.setCell ⟨gb729, 0, none⟩ (.int .i64 t711)).setCell ⟨gb729, 1, none⟩ (.int .i64 t712)).setCell ⟨gb729, 2, none⟩ (.int .i64 t713)).setCell ⟨gb729, 3, none⟩ (.int .i64 t714)).setCell ⟨gb729, 4, none⟩ (.int .i64 t715)).setCell ⟨gb729, 5, none⟩ (.int .i64 t716)).setCell ⟨gb729, 6, none⟩ (.int .i64 t717)).setCell ⟨gb729, 7, none⟩ (.int .i64 t718)).setCell ⟨gb729, 8, none⟩ (.int .i64 t719)).setCell ⟨gb729, 9, none⟩ (.slice Ao179 t720.length co179)).setCell ⟨gb729, 10, none⟩ (.int .i64 t723)).setCell ⟨gb729, 11, none⟩ (.bool t724)).setCell ⟨gb729, 12, none⟩ (.int .i64 t725)).heap[gb708]? = some (.cells #[.int .i64 t681, .bool t682, .bool t683] 31 (0, 0))) := ⟨by refine bfq8 NB708_729.out ?_; refine bfq8 NB708_729.out ?_; refine bfq8 NB708_729.out ?_; refine bfq8 NB708_729.out ?_; refine bfq8 NB708_729.out ?_; refine bfq8 NB708_729.out ?_; refine bfq8 NB708_729.out ?_; refine bfq8 NB708_729.out ?_; refine bfq8 NB708_729.out ?_; refine bfq8 NB708_729.out ?_; refine bfq8 NB708_729.out ?_; refine bfq8 NB708_729.out ?_; refine bfq8 NB708_729.out ?_; exact bpq8 BK708.out⟩
                  have n8_ : Aside0 ((((((((((((((w171.setCell ⟨gb729, 0, none⟩ (.int .i64 t711)).setCell ⟨gb729, 1, none⟩ (.int .i64 t712)).setCell ⟨gb729, 2, none⟩ (.int .i64 t713)).setCell ⟨gb729, 3, none⟩ (.int .i64 t714)).setCell ⟨gb729, 4, none⟩ (.int .i64 t715)).setCell ⟨gb729, 5, none⟩ (.int .i64 t716)).setCell ⟨gb729, 6, none⟩ (.int .i64 t717)).setCell ⟨gb729, 7, none⟩ (.int .i64 t718)).setCell ⟨gb729, 8, none⟩ (.int .i64 t719)).setCell ⟨gb729, 9, none⟩ (.slice Ao179 t720.length co179)).setCell ⟨gb729, 10, none⟩ (.int .i64 t723)).setCell ⟨gb729, 11, none⟩ (.bool t724)).setCell ⟨gb729, 12, none⟩ (.int .i64 t725)).heap[gb729]? = some (.cells #[.int .i64 t711, .int .i64 t712, .int .i64 t713, .int .i64 t714, .int .i64 t715, .int .i64 t716, .int .i64 t717, .int .i64 t718, .int .i64 t719, .slice Ao179 t720.length co179, .int .i64 t723, .bool t724, .int .i64 t725] 41 (0, 0))) := ⟨by refine bzq8 ?_; refine btq8 (i := 12) ?_; refine btq8 (i := 11) ?_; refine btq8 (i := 10) ?_; refine btq8 (i := 9) ?_; refine btq8 (i := 8) ?_; refine btq8 (i := 7) ?_; refine btq8 (i := 6) ?_; refine btq8 (i := 5) ?_; refine btq8 (i := 4) ?_; refine btq8 (i := 3) ?_; refine btq8 (i := 2) ?_; refine btq8 (i := 1) ?_; refine btq8 (i := 0) ?_; exact ⟨_, bpq8 BK729.out, by first | (simp only [List.setIfInBounds_toArray, List.set_cons_zero, List.set_cons_succ]; done) | rfl⟩⟩
                  have n9_ : Aside0 (Kept w (((((((((((((w171.setCell ⟨gb729, 0, none⟩ (.int .i64 t711)).setCell ⟨gb729, 1, none⟩ (.int .i64 t712)).setCell ⟨gb729, 2, none⟩ (.int .i64 t713)).setCell ⟨gb729, 3, none⟩ (.int .i64 t714)).setCell ⟨gb729, 4, none⟩ (.int .i64 t715)).setCell ⟨gb729, 5, none⟩ (.int .i64 t716)).setCell ⟨gb729, 6, none⟩ (.int .i64 t717)).setCell ⟨gb729, 7, none⟩ (.int .i64 t718)).setCell ⟨gb729, 8, none⟩ (.int .i64 t719)).setCell ⟨gb729, 9, none⟩ (.slice Ao179 t720.length co179)).setCell ⟨gb729, 10, none⟩ (.int .i64 t723)).setCell ⟨gb729, 11, none⟩ (.bool t724)).setCell ⟨gb729, 12, none⟩ (.int .i64 t725)) (fun k_ => ((P0_17_ k_ ∨ False) ∨ k_ = g) ∨ k_ = gs0)) := ⟨(kkq8 HK.out)⟩
                  have n10_ : Aside0 (Below w0.heap.size w0 (((((((((((((w171.setCell ⟨gb729, 0, none⟩ (.int .i64 t711)).setCell ⟨gb729, 1, none⟩ (.int .i64 t712)).setCell ⟨gb729, 2, none⟩ (.int .i64 t713)).setCell ⟨gb729, 3, none⟩ (.int .i64 t714)).setCell ⟨gb729, 4, none⟩ (.int .i64 t715)).setCell ⟨gb729, 5, none⟩ (.int .i64 t716)).setCell ⟨gb729, 6, none⟩ (.int .i64 t717)).setCell ⟨gb729, 7, none⟩ (.int .i64 t718)).setCell ⟨gb729, 8, none⟩ (.int .i64 t719)).setCell ⟨gb729, 9, none⟩ (.slice Ao179 t720.length co179)).setCell ⟨gb729, 10, none⟩ (.int .i64 t723)).setCell ⟨gb729, 11, none⟩ (.bool t724)).setCell ⟨gb729, 12, none⟩ (.int .i64 t725))) := ⟨(bbq8 HB.out)⟩
                  (try clear HO_51001)
                  (try clear HO722)
                  (try clear BK0)
                  (try clear BK50)
                  (try clear BK646)
                  (try clear BK647)
                  (try clear BK648)
                  (try clear BK708)
                  (try clear BK729)
                  (try clear HK)
                  (try clear HB)
                  generalize (((((((((((((w171.setCell ⟨gb729, 0, none⟩ (.int .i64 t711)).setCell ⟨gb729, 1, none⟩ (.int .i64 t712)).setCell ⟨gb729, 2, none⟩ (.int .i64 t713)).setCell ⟨gb729, 3, none⟩ (.int .i64 t714)).setCell ⟨gb729, 4, none⟩ (.int .i64 t715)).setCell ⟨gb729, 5, none⟩ (.int .i64 t716)).setCell ⟨gb729, 6, none⟩ (.int .i64 t717)).setCell ⟨gb729, 7, none⟩ (.int .i64 t718)).setCell ⟨gb729, 8, none⟩ (.int .i64 t719)).setCell ⟨gb729, 9, none⟩ (.slice Ao179 t720.length co179)).setCell ⟨gb729, 10, none⟩ (.int .i64 t723)).setCell ⟨gb729, 11, none⟩ (.bool t724)).setCell ⟨gb729, 12, none⟩ (.int .i64 t725)) = w180 at n0_ n1_ n2_ n3_ n4_ n5_ n6_ n7_ n8_ n9_ n10_ ⊢
                  have HO_51001 := n0_
                  have HO722 := n1_
                  have BK0 := n2_
                  have BK50 := n3_
                  have BK646 := n4_
                  have BK647 := n5_
                  have BK648 := n6_
                  have BK708 := n7_
                  have BK729 := n8_
                  have HK := n9_
                  have HB := n10_
                  clear n0_ n1_ n2_ n3_ n4_ n5_ n6_ n7_ n8_ n9_ n10_
                  have n0_ := Aside0.mk (Kd.R_drew HO_51001.out)
                  have n1_ := Aside0.mk (Kd.R_drew HO722.out)
                  have n2_ := Aside0.mk (blk_drew BK0.out)
                  have n3_ := Aside0.mk (blk_drew BK50.out)
                  have n4_ := Aside0.mk (blk_drew BK646.out)
                  have n5_ := Aside0.mk (blk_drew BK647.out)
                  have n6_ := Aside0.mk (blk_drew BK648.out)
                  have n7_ := Aside0.mk (blk_drew BK708.out)
                  have n8_ := Aside0.mk (blk_drew BK729.out)
                  have n9_ := Aside0.mk (Kept.drew HK.out)
                  have n10_ := Aside0.mk (below_drew1 HB.out)
                  clear HO_51001
                  clear HO722
                  clear BK0
                  clear BK50
                  clear BK646
                  clear BK647
                  clear BK648
                  clear BK708
                  clear BK729
                  clear HK
                  clear HB
                  have HO_51001 := n0_
                  have HO722 := n1_
                  have BK0 := n2_
                  have BK50 := n3_
                  have BK646 := n4_
                  have BK647 := n5_
                  have BK648 := n6_
                  have BK708 := n7_
                  have BK729 := n8_
                  have HK := n9_
                  have HB := n10_
                  clear n0_ n1_ n2_ n3_ n4_ n5_ n6_ n7_ n8_ n9_ n10_
                  refine start_ (n := 13) (S := fun w' => w'.cell? ⟨gb729, 0, none⟩ = some (.int .i64 t711) ∧ w'.cell? ⟨gb729, 1, none⟩ = some (.int .i64 t712) ∧ w'.cell? ⟨gb729, 2, none⟩ = some (.int .i64 t713) ∧ w'.cell? ⟨gb729, 3, none⟩ = some (.int .i64 t714) ∧ w'.cell? ⟨gb729, 4, none⟩ = some (.int .i64 t715) ∧ w'.cell? ⟨gb729, 5, none⟩ = some (.int .i64 t716) ∧ w'.cell? ⟨gb729, 6, none⟩ = some (.int .i64 t717) ∧ w'.cell? ⟨gb729, 7, none⟩ = some (.int .i64 t718) ∧ w'.cell? ⟨gb729, 8, none⟩ = some (.int .i64 t719) ∧ w'.cell? ⟨gb729, 9, none⟩ = some (.slice Ao179 t720.length co179) ∧ w'.cell? ⟨gb729, 10, none⟩ = some (.int .i64 t723) ∧ w'.cell? ⟨gb729, 11, none⟩ = some (.bool t724) ∧ w'.cell? ⟨gb729, 12, none⟩ = some (.int .i64 t725) ∧ w'.cell? ⟨gb708, 0, none⟩ = some (.int .i64 t681) ∧ w'.cell? ⟨gb708, 1, none⟩ = some (.bool t682) ∧ w'.cell? ⟨gb708, 2, none⟩ = some (.bool t683)) (ds := []) #[false, false, false, false, false, false, false, false, false, false, false, false, false] (by kernel_rfl) rfl rfl ⟨(blk_cell BK729.out 0).trans rfl, (blk_cell BK729.out 1).trans rfl, (blk_cell BK729.out 2).trans rfl, (blk_cell BK729.out 3).trans rfl, (blk_cell BK729.out 4).trans rfl, (blk_cell BK729.out 5).trans rfl, (blk_cell BK729.out 6).trans rfl, (blk_cell BK729.out 7).trans rfl, (blk_cell BK729.out 8).trans rfl, (blk_cell BK729.out 9).trans rfl, (blk_cell BK729.out 10).trans rfl, (blk_cell BK729.out 11).trans rfl, (blk_cell BK729.out 12).trans rfl, (blk_cell BK708.out 0).trans rfl, (blk_cell BK708.out 1).trans rfl, (blk_cell BK708.out 2).trans rfl⟩ (fun hHeld => ?_); refine with_tabW terracelaw15_step.tab14 terracelaw15_step.bits14 (fun HT_ HW_ => ?_)
                  generalize w180.drew = w181 at HO_51001 HO722 BK0 BK50 BK646 BK647 BK648 BK708 BK729 HK HB hHeld ⊢
                  refine pure_ (i := 1) (N := some 106) (v := ?_) (a' := ?_) #[false, true, false, false, false, false, false, false, false, false, false, false, false] rfl rfl (any_of HT_.out (by kernel_rfl)) (fun _ _ _ h => h) (Or.inl ⟨by rfl, ?_⟩) ?_ ?_
                  rotate_left
                  · intro w'
                    go_simp
                    with_reducible rfl
                  rotate_left
                  · simp only [Act.put, List.setIfInBounds_toArray, List.set_cons_zero, List.set_cons_succ, i64_w, i32_w]
                    rfl
                  refine pure_ (i := 2) (N := some 107) (v := ?_) (a' := ?_) #[false, true, true, false, false, false, false, false, false, false, false, false, false] rfl rfl (any_of HT_.out (by kernel_rfl)) (fun _ _ _ h => h) (Or.inl ⟨by rfl, ?_⟩) ?_ ?_
                  rotate_left
                  · intro w'
                    go_simp
                    with_reducible rfl
                  rotate_left
                  · simp only [Act.put, List.setIfInBounds_toArray, List.set_cons_zero, List.set_cons_succ, i64_w, i32_w]
                    rfl
                  refine pure_ (i := 3) (N := some 108) (v := ?_) (a' := ?_) #[false, true, true, true, false, false, false, false, false, false, false, false, false] rfl rfl (any_of HT_.out (by kernel_rfl)) (fun _ _ _ h => h) (Or.inl ⟨by rfl, ?_⟩) ?_ ?_
                  rotate_left
                  · intro w'
                    go_simp
                    with_reducible rfl
                  rotate_left
                  · simp only [Act.put, List.setIfInBounds_toArray, List.set_cons_zero, List.set_cons_succ, i64_w, i32_w]
                    rfl
                  refine pure_ (i := 5) (N := some 110) (v := ?_) (a' := ?_) #[false, true, true, true, false, true, false, false, false, false, false, false, false] rfl rfl (any_of HT_.out (by kernel_rfl)) (fun _ _ _ h => h) (Or.inl ⟨by rfl, ?_⟩) ?_ ?_
                  rotate_left
                  · intro w'
                    go_simp
                    with_reducible rfl
                  rotate_left
                  · simp only [Act.put, List.setIfInBounds_toArray, List.set_cons_zero, List.set_cons_succ, i64_w, i32_w]
                    rfl
                  refine pure_ (i := 6) (N := some 111) (v := ?_) (a' := ?_) #[false, true, true, true, false, true, true, false, false, false, false, false, false] rfl rfl (any_of HT_.out (by kernel_rfl)) (fun _ _ _ h => h) (Or.inl ⟨by rfl, ?_⟩) ?_ ?_
                  rotate_left
                  · intro w'
                    go_simp
                    with_reducible rfl
                  rotate_left
                  · simp only [Act.put, List.setIfInBounds_toArray, List.set_cons_zero, List.set_cons_succ, i64_w, i32_w]
                    rfl
                  refine pure_ (i := 7) (N := some 112) (v := ?_) (a' := ?_) #[false, true, true, true, false, true, true, true, false, false, false, false, false] rfl rfl (any_of HT_.out (by kernel_rfl)) (fun _ _ _ h => h) (Or.inl ⟨by rfl, ?_⟩) ?_ ?_
                  rotate_left
                  · intro w'
                    go_simp
                    with_reducible rfl
                  rotate_left
                  · simp only [Act.put, List.setIfInBounds_toArray, List.set_cons_zero, List.set_cons_succ, i64_w, i32_w]
                    rfl
                  refine pure_ (i := 8) (N := some 113) (v := ?_) (a' := ?_) #[false, true, true, true, false, true, true, true, true, false, false, false, false] rfl rfl (any_of HT_.out (by kernel_rfl)) (fun _ _ _ h => h) (Or.inl ⟨by rfl, ?_⟩) ?_ ?_
                  rotate_left
                  · intro w'
                    go_simp
                    with_reducible rfl
                  rotate_left
                  · simp only [Act.put, List.setIfInBounds_toArray, List.set_cons_zero, List.set_cons_succ, i64_w, i32_w]
                    rfl
                  refine take_ (i := 0) (N := some 105) (v := ?_) (a' := ?_) #[true, true, true, true, false, true, true, true, true, false, false, false, false] rfl rfl (take_ofW HT_.out HW_.out (by kernel_rfl)) (fun _ _ _ h => h) (Or.inl ⟨by rfl, ?_⟩) hHeld ?_ ?_
                  rotate_left
                  · rintro w' ⟨s0, s1, s2, s3, s4, s5, s6, s7, s8, s9, s10, s11, s12, s13, s14, s15⟩
                    go_simp
                    with_reducible rfl
                  rotate_left
                  · simp only [Act.put, List.setIfInBounds_toArray, List.set_cons_zero, List.set_cons_succ, i64_w, i32_w]
                    rfl
                  refine take_ (i := 4) (N := some 109) (v := ?_) (a' := ?_) #[true, true, true, true, true, true, true, true, true, false, false, false, false] rfl rfl (take_ofW HT_.out HW_.out (by kernel_rfl)) (fun _ _ _ h => h) (Or.inl ⟨by rfl, ?_⟩) hHeld ?_ ?_
                  rotate_left
                  · rintro w' ⟨s0, s1, s2, s3, s4, s5, s6, s7, s8, s9, s10, s11, s12, s13, s14, s15⟩
                    go_simp
                    with_reducible rfl
                  rotate_left
                  · simp only [Act.put, List.setIfInBounds_toArray, List.set_cons_zero, List.set_cons_succ, i64_w, i32_w]
                    rfl
                  refine pure_ (i := 9) (N := some 114) (v := ?_) (a' := ?_) #[true, true, true, true, true, true, true, true, true, true, false, false, false] rfl rfl (any_of HT_.out (by kernel_rfl)) (fun _ _ _ h => h) (Or.inl ⟨by rfl, ?_⟩) ?_ ?_
                  rotate_left
                  · intro w'
                    go_simp
                    with_reducible rfl
                  rotate_left
                  · simp only [Act.put, List.setIfInBounds_toArray, List.set_cons_zero, List.set_cons_succ, i64_w, i32_w]
                    rfl
                  refine pure_ (i := 10) (N := some 115) (v := ?_) (a' := ?_) #[true, true, true, true, true, true, true, true, true, true, true, false, false] rfl rfl (any_of HT_.out (by kernel_rfl)) (fun _ _ _ h => h) (Or.inl ⟨by rfl, ?_⟩) ?_ ?_
                  rotate_left
                  · intro w'
                    go_simp
                    with_reducible rfl
                  rotate_left
                  · simp only [Act.put, List.setIfInBounds_toArray, List.set_cons_zero, List.set_cons_succ, i64_w, i32_w]
                    rfl
                  refine one_ (i := 11) (N := none) #[true, true, true, true, true, true, true, true, true, true, true, true, false] rfl rfl (one_of HT_.out (by kernel_rfl)) (by decide) (fun K hK => ?_)
                  have hs182 : w181.cell? ⟨gb648, 0, none⟩ = some (.int .i64 0) := (blk_cell BK648.out 0).trans rfl
                  have hfs182 := blk_frozen BK648.out 0
                  have hns182_0 := NB0_648.out
                  have hns182_1 := NB50_648.out
                  have hns182_2 := NB646_648.out
                  have hns182_3 := NB647_648.out
                  have hns182_5 := NB708_648.out
                  have hns182_6 := NB729_648.out
                  have hms182_0 := NB648_0.out
                  have hms182_1 := NB648_50.out
                  have hms182_2 := NB648_646.out
                  have hms182_3 := NB648_647.out
                  have hms182_5 := NB648_708.out
                  have hms182_6 := NB648_729.out
                  have hs183 : w181.cell? ⟨gb648, 1, none⟩ = some (.int .i64 0) := (blk_cell BK648.out 1).trans rfl
                  have hfs183 := blk_frozen BK648.out 1
                  have hs184 : w181.cell? ⟨gb648, 2, none⟩ = some (.int .i64 0) := (blk_cell BK648.out 2).trans rfl
                  have hfs184 := blk_frozen BK648.out 2
                  have hs185 : w181.cell? ⟨gb648, 3, none⟩ = some (.int .i64 0) := (blk_cell BK648.out 3).trans rfl
                  have hfs185 := blk_frozen BK648.out 3
                  have hs186 : w181.cell? ⟨gb648, 4, none⟩ = some (.int .i64 0) := (blk_cell BK648.out 4).trans rfl
                  have hfs186 := blk_frozen BK648.out 4
                  have hs187 : w181.cell? ⟨gb648, 5, none⟩ = some (.int .i64 0) := (blk_cell BK648.out 5).trans rfl
                  have hfs187 := blk_frozen BK648.out 5
                  have hs188 : w181.cell? ⟨gb648, 6, none⟩ = some (.int .i64 0) := (blk_cell BK648.out 6).trans rfl
                  have hfs188 := blk_frozen BK648.out 6
                  have hs189 : w181.cell? ⟨gb648, 7, none⟩ = some (.int .i64 0) := (blk_cell BK648.out 7).trans rfl
                  have hfs189 := blk_frozen BK648.out 7
                  have hs190 : w181.cell? ⟨gb648, 8, none⟩ = some (.int .i64 0) := (blk_cell BK648.out 8).trans rfl
                  have hfs190 := blk_frozen BK648.out 8
                  have hs191 : w181.cell? ⟨gb648, 9, none⟩ = some (.slice none 0 0) := (blk_cell BK648.out 9).trans rfl
                  have hfs191 := blk_frozen BK648.out 9
                  have hs192 : w181.cell? ⟨gb648, 10, none⟩ = some (.int .i64 0) := (blk_cell BK648.out 10).trans rfl
                  have hfs192 := blk_frozen BK648.out 10
                  have hs193 : w181.cell? ⟨gb648, 11, none⟩ = some (.bool false) := (blk_cell BK648.out 11).trans rfl
                  have hfs193 := blk_frozen BK648.out 11
                  have hs194 : w181.cell? ⟨gb648, 12, none⟩ = some (.int .i64 0) := (blk_cell BK648.out 12).trans rfl
                  have hfs194 := blk_frozen BK648.out 12
                  refine skip_ (w1 := ?_) (by rfl) rfl ?_ ?_
                  rotate_left
                  · go_simp
                    rfl
                  refine hK.out _ _ ⟨(cf13q8 NB729_648.out (hHeld.1)), (cf13q8 NB729_648.out (hHeld.2.1)), (cf13q8 NB729_648.out (hHeld.2.2.1)), (cf13q8 NB729_648.out (hHeld.2.2.2.1)), (cf13q8 NB729_648.out (hHeld.2.2.2.2.1)), (cf13q8 NB729_648.out (hHeld.2.2.2.2.2.1)), (cf13q8 NB729_648.out (hHeld.2.2.2.2.2.2.1)), (cf13q8 NB729_648.out (hHeld.2.2.2.2.2.2.2.1)), (cf13q8 NB729_648.out (hHeld.2.2.2.2.2.2.2.2.1)), (cf13q8 NB729_648.out (hHeld.2.2.2.2.2.2.2.2.2.1)), (cf13q8 NB729_648.out (hHeld.2.2.2.2.2.2.2.2.2.2.1)), (cf13q8 NB729_648.out (hHeld.2.2.2.2.2.2.2.2.2.2.2.1)), (cf13q8 NB729_648.out (hHeld.2.2.2.2.2.2.2.2.2.2.2.2.1)), (cf13q8 NB708_648.out (hHeld.2.2.2.2.2.2.2.2.2.2.2.2.2.1)), (cf13q8 NB708_648.out (hHeld.2.2.2.2.2.2.2.2.2.2.2.2.2.2.1)), (cf13q8 NB708_648.out (hHeld.2.2.2.2.2.2.2.2.2.2.2.2.2.2.2))⟩ (fun hHeld => ?_)
                  clear hK K
                  refine pure_ (i := 12) (N := some 7) (v := ?_) (a' := ?_) #[true, true, true, true, true, true, true, true, true, true, true, true, true] rfl rfl (any_of HT_.out (by kernel_rfl)) (fun _ _ _ h => h) (Or.inl ⟨by rfl, ?_⟩) ?_ ?_
                  rotate_left
                  · intro w'
                    go_simp
                    with_reducible rfl
                  rotate_left
                  · simp only [Act.put, List.setIfInBounds_toArray, List.set_cons_zero, List.set_cons_succ, i64_w, i32_w]
                    rfl
                  refine done_ (done_of HT_.out (by kernel_rfl)) ?_
                  try go_wp2
                  refine bodyPost_ret (results_ct rfl _ _ gb648 41 #[.int .i64 t711, .int .i64 t712, .int .i64 t713, .int .i64 t714, .int .i64 t715, .int .i64 t716, .int .i64 t717, .int .i64 t718, .int .i64 t719, .slice Ao179 t720.length co179, .int .i64 t723, .bool t724, .int .i64 t725] (0, 0) _ rfl (by refine bzq8 ?_; refine btq8 (i := 12) ?_; refine btq8 (i := 11) ?_; refine btq8 (i := 10) ?_; refine btq8 (i := 9) ?_; refine btq8 (i := 8) ?_; refine btq8 (i := 7) ?_; refine btq8 (i := 6) ?_; refine btq8 (i := 5) ?_; refine btq8 (i := 4) ?_; refine btq8 (i := 3) ?_; refine btq8 (i := 2) ?_; refine btq8 (i := 1) ?_; refine btq8 (i := 0) ?_; exact ⟨_, bpq8 BK648.out, by first | (simp only [List.setIfInBounds_toArray, List.set_cons_zero, List.set_cons_succ]; done) | rfl⟩) Try.underlying41 rfl (by kernel_rfl)) rfl ?_
                  exact ⟨_, _, by first | rfl | (simp [errW_none, errW_some] <;> rfl) | (simp only [← hji54, ← hji55]; first | rfl | (simp [errW_none, errW_some] <;> rfl)) | (simp [*, errW_none, errW_some] <;> rfl), by (with_reducible repeat (first | apply Kd.R_alloc | apply Kd.R_drewN | apply Kd.R_drew)); exact Kd.R_mono (Kd.R_far (Kd.R_far (Kd.R_far (Kd.R_far (Kd.R_far (Kd.R_far (Kd.R_far (Kd.R_far (Kd.R_far (Kd.R_far (Kd.R_far (Kd.R_far (Kd.R_far (Kd.R_types HO722.out BK648.out (by decide)) (fun _ hk => hk.2) _) (fun _ hk => hk.2) _) (fun _ hk => hk.2) _) (fun _ hk => hk.2) _) (fun _ hk => hk.2) _) (fun _ hk => hk.2) _) (fun _ hk => hk.2) _) (fun _ hk => hk.2) _) (fun _ hk => hk.2) _) (fun _ hk => hk.2) _) (fun _ hk => hk.2) _) (fun _ hk => hk.2) _) (fun _ hk => hk.2) _) (fun _ hk => ⟨hk.1.1, hk.1.2⟩), by (with_reducible repeat (first | apply Kd.R_alloc | apply Kd.R_drewN | apply Kd.R_drew)); exact Kd.R_mono (Kd.R_far (Kd.R_far (Kd.R_far (Kd.R_far (Kd.R_far (Kd.R_far (Kd.R_far (Kd.R_far (Kd.R_far (Kd.R_far (Kd.R_far (Kd.R_far (Kd.R_far (Kd.R_types HO_51001.out BK648.out (by decide)) (fun _ hk => hk.2) _) (fun _ hk => hk.2) _) (fun _ hk => hk.2) _) (fun _ hk => hk.2) _) (fun _ hk => hk.2) _) (fun _ hk => hk.2) _) (fun _ hk => hk.2) _) (fun _ hk => hk.2) _) (fun _ hk => hk.2) _) (fun _ hk => hk.2) _) (fun _ hk => hk.2) _) (fun _ hk => hk.2) _) (fun _ hk => hk.2) _) (fun _ hk => ⟨hk.1.1, hk.1.2⟩), (by refine bfq8 NB0_648.out ?_; refine bfq8 NB0_648.out ?_; refine bfq8 NB0_648.out ?_; refine bfq8 NB0_648.out ?_; refine bfq8 NB0_648.out ?_; refine bfq8 NB0_648.out ?_; refine bfq8 NB0_648.out ?_; refine bfq8 NB0_648.out ?_; refine bfq8 NB0_648.out ?_; refine bfq8 NB0_648.out ?_; refine bfq8 NB0_648.out ?_; refine bfq8 NB0_648.out ?_; refine bfq8 NB0_648.out ?_; exact bpq8 BK0.out), (by refine bfq8 NB50_648.out ?_; refine bfq8 NB50_648.out ?_; refine bfq8 NB50_648.out ?_; refine bfq8 NB50_648.out ?_; refine bfq8 NB50_648.out ?_; refine bfq8 NB50_648.out ?_; refine bfq8 NB50_648.out ?_; refine bfq8 NB50_648.out ?_; refine bfq8 NB50_648.out ?_; refine bfq8 NB50_648.out ?_; refine bfq8 NB50_648.out ?_; refine bfq8 NB50_648.out ?_; refine bfq8 NB50_648.out ?_; exact bpq8 BK50.out), (bbq8 HB.out), (kkq8 HK.out)⟩
                · rw [if_neg c158] at H
                  have c158b0 : (t684 == 0) = false := beq_eq_false_iff_ne.mpr c158
                  have c158b1 : (t684 != 0) = true := bne_iff_ne.mpr c158
                  simp only [Option.some.injEq, Prod.mk.injEq] at H
                  obtain ⟨rfl, rfl, rfl, rfl, rfl, rfl, rfl, rfl, rfl, rfl, rfl, rfl, rfl, rfl, rfl, rfl, rfl, rfl, rfl, rfl, rfl, rfl, rfl, rfl, rfl, rfl, rfl, rfl, rfl, rfl, rfl, rfl, rfl, rfl, rfl⟩ := H
                  have hnb195 := NB646_0.out
                  have hnc195 := NB0_646.out
                  have hnb196 := NB646_50.out
                  have hnc196 := NB50_646.out
                  have hnb197 := NB646_647.out
                  have hnc197 := NB647_646.out
                  have hnb198 := NB646_648.out
                  have hnc198 := NB648_646.out
                  have hnb199 := NB646_708.out
                  have hnc199 := NB708_646.out
                  obtain ⟨hcz200_0, hcz200_1, hcz200_2, hcz200_3, hcz200_4, hcz200_5, hcz200_6, hcz200_7, hcz200_8, hcz200_9, hcz200_10, hcz200_11, hcz200_12⟩ := bc13q8 BK646.out
                  have hfz200_0 := fun i_ => blk_frozen BK646.out i_
                  have hnb201 := NB647_0.out
                  have hnc201 := NB0_647.out
                  have hnb202 := NB647_50.out
                  have hnc202 := NB50_647.out
                  have hnb203 := NB647_648.out
                  have hnc203 := NB648_647.out
                  have hnb204 := NB647_708.out
                  have hnc204 := NB708_647.out
                  obtain ⟨hcz205_0, hcz205_1, hcz205_2, hcz205_3, hcz205_4⟩ := bc5q8 BK647.out
                  have hfz205_0 := fun i_ => blk_frozen BK647.out i_
                  try go_wp2_with (first | ((with_reducible refine gate_callee (f := 25) rfl ?_); refine goesL_ (some 100) rfl rfl Try.func25 (by kernel_rfl) rfl #[.agg #[.int .i64 a1_0, .int .i64 a1_1, .int .i64 a1_2, .int .i64 a1_3, .int .i64 a1_4, .int .i64 a1_5, .int .i64 a1_6, .int .i64 a1_7, .int .i64 a1_8, .slice Ao5 l1_9.length co5, .int .i64 a1_10, .bool a1_11, .int .i64 a1_12], .int .i64 a2_1, .int .u32 a2_2, .int .i64 (wrap64 (a1_12 + (ji55))), .int .i64 a2_4] rfl (by (try simp only [List.map_toArray, List.map_cons, List.map_nil]); first | done | (simp only [hji55]; rfl) | rfl | (simp only [List.length_drop, List.length_take]; rfl)) ?_; (with_reducible refine (terraceref15_On.calls kj56 a1_0 a1_1 a1_2 a1_3 a1_4 a1_5 a1_6 a1_7 a1_8 (fun k_ => some k_ = (.slice Ao5 l1_9.length co5 : Value).ownBlock) (.slice Ao5 l1_9.length co5) l1_9 a1_10 a1_11 a1_12 a2_1 a2_2 (wrap64 (a1_12 + (ji55))) a2_4 t711 t712 t713 t714 t715 t716 t717 t718 t719 t720 t723 t724 t725 t726 t727 t728 w0 _ ?side1 ?side2 A157.out).mono ?_); (case side1 => repeat (first | (with_reducible first | exact HB.out | apply below_alloc | apply pw_below_drewN | apply below_drew1 | refine below_set ?_ GE0.out | refine below_set ?_ GE50.out | refine below_set ?_ GE646.out | refine below_set ?_ GE647.out | refine below_set ?_ GE648.out | refine below_set ?_ GE708.out) | exact HB.out)); (case side2 => exact Kd.R_tight rfl HO_647009.out); rintro e w206 ⟨v721, rfl, ho0, hb, hkp⟩; refine ⟨_, rfl, ?_⟩; have n0_ := Aside0.mk (Kd.R_mono (ok' := fun k_ => ((P0_17_ k_ ∨ False) ∨ w.heap.size ≤ k_) ∧ some k_ ≠ (v721 : Value).ownBlock) (Kd.R_keptB (HO_51001.out) hkp (fun k_ hk_ hs_ => (fun e_ => e_.elim) hs_)) (fun k_ hk_ => ⟨hk_.1.1, fun e_ => Or.elim (ho0.1 k_ e_.symm) (fun hs_ => (fun e2_ => (hk_.1.2) e2_) hs_) (fun hn_ => Nat.not_le.2 hk_.2.2 hn_)⟩)); have n1_ := Aside0.mk (blk_kept (by exact bpq8 BK0.out) hkp (fun hs_ => (fun e_ => e_.elim) hs_)); have n2_ := Aside0.mk (blk_kept (by exact bpq8 BK50.out) hkp (fun hs_ => (fun e_ => e_.elim) hs_)); have n3_ := Aside0.mk (blk_kept (by exact bpq8 BK646.out) hkp (fun hs_ => (fun e_ => e_.elim) hs_)); have n4_ := Aside0.mk (blk_kept (by exact bpq8 BK647.out) hkp (fun hs_ => (fun e_ => e_.elim) hs_)); have n5_ := Aside0.mk (blk_kept (by exact bpq8 BK648.out) hkp (fun hs_ => (fun e_ => e_.elim) hs_)); have n6_ := Aside0.mk (blk_kept (by exact bpq8 BK708.out) hkp (fun hs_ => (fun e_ => e_.elim) hs_)); have n7_ := Aside0.mk (Kd.R_mono (ok' := fun k_ => ((False ∨ P1_9_ k_) ∨ w.heap.size ≤ k_) ∧ some k_ ≠ (v703 : Value).ownBlock) ho0 (fun k_ hk_ => ⟨Or.elim hk_ (fun hs_ => (HO_647009.out.1 k_ (hs_).symm).1) (fun hn_ => (.inr (Nat.le_trans (by first | exact HK.out.1 | exact (show Kept w _ (fun k_ => ((P0_17_ k_ ∨ False) ∨ k_ = g) ∨ k_ = gs0) from (kkq8 HK.out)).1) hn_))), Or.elim hk_ (fun hs_ => fun e_ => (((HO_51001.out).1 k_ e_.symm).2) hs_) (fun hn_ => (Kd.fresh' (Kd.R_lt (by (with_reducible repeat (first | apply Kd.R_alloc | apply Kd.R_drewN | apply Kd.R_drew)); exact HO_51001.out)) k_ hn_))⟩)); have n8_ := Aside0.mk (Kept.then_ (S := (fun k_ => ((P0_17_ k_ ∨ False) ∨ k_ = g) ∨ k_ = gs0)) ((kkq8 HK.out)) hkp (fun k_ hs_ => (fun e_ => e_.elim) hs_)); have n9_ := Aside0.mk (hb); clear HO_51001; clear BK0; clear BK50; clear BK646; clear BK647; clear BK648; clear BK708; clear HK; clear HB; clear HO_647009; have HO_51001 := n0_; have BK0 := n1_; have BK50 := n2_; have BK646 := n3_; have BK647 := n4_; have BK648 := n5_; have BK708 := n6_; have HO722 := n7_; have HK := n8_; have HB := n9_; clear n0_ n1_ n2_ n3_ n4_ n5_ n6_ n7_ n8_ n9_; (try clear hb); (try clear hkp); (try clear ho0)) | ((with_reducible refine gate_dst (N := 12) rfl ?_); refine box_event ?hg (N := 12) ?hd (cs := #[.int .i64 0, .int .i64 0, .int .i64 0, .int .i64 0, .int .i64 0, .int .i64 0, .int .i64 0, .int .i64 0, .int .i64 0, .slice none 0 0, .int .i64 0, .bool false, .int .i64 0]) (t := 41) ?hr ?_; (case hd => rfl); (case hg => rfl); (case hr => first | (go_simp; done) | (go_simp; rfl)); intro gb729 hg w207 hbox hb; have n0_ := Aside0.mk (Kd.R_below (by (with_reducible repeat (first | apply Kd.R_alloc | apply Kd.R_drewN | apply Kd.R_drew)); exact HO_51001.out) hb); have n1_ := Aside0.mk (Kd.R_below (by (with_reducible repeat (first | apply Kd.R_alloc | apply Kd.R_drewN | apply Kd.R_drew)); exact HO722.out) hb); have n2_ := Aside0.mk (blk_below (bpq8 BK0.out) hb); have n3_ := Aside0.mk (blk_below (bpq8 BK50.out) hb); have n4_ := Aside0.mk (blk_below (bpq8 BK646.out) hb); have n5_ := Aside0.mk (blk_below (bpq8 BK647.out) hb); have n6_ := Aside0.mk (blk_below (bpq8 BK648.out) hb); have n7_ := Aside0.mk (blk_below (bpq8 BK708.out) hb); have n8_ := Aside0.mk (Kept.below (S := (fun k_ => ((P0_17_ k_ ∨ False) ∨ k_ = g) ∨ k_ = gs0)) ((kkq8 HK.out)) hb); have n9_ := Aside0.mk (below_step ((bbq8 HB.out)) hb); have n10_ := Aside0.mk (hbox); have n11_ := Aside0.mk ((by rw [hg]; exact (by first | exact HK.out.1 | exact (show Kept w _ (fun k_ => ((P0_17_ k_ ∨ False) ∨ k_ = g) ∨ k_ = gs0) from (kkq8 HK.out)).1) : w.heap.size ≤ gb729)); have n12_ := Aside0.mk ((by rw [hg]; exact (below_size ((bbq8 HB.out))) : w0.heap.size ≤ gb729)); have n13_ := Aside0.mk ((by rw [hg]; exact Nat.ne_of_lt (blk_lt (bpq8 BK0.out)) : g ≠ gb729)); have n14_ := Aside0.mk ((by rw [hg]; exact Nat.ne_of_gt (blk_lt (bpq8 BK0.out)) : gb729 ≠ g)); have n15_ := Aside0.mk ((by rw [hg]; exact Nat.ne_of_lt (blk_lt (bpq8 BK50.out)) : gs0 ≠ gb729)); have n16_ := Aside0.mk ((by rw [hg]; exact Nat.ne_of_gt (blk_lt (bpq8 BK50.out)) : gb729 ≠ gs0)); have n17_ := Aside0.mk ((by rw [hg]; exact Nat.ne_of_lt (blk_lt (bpq8 BK646.out)) : gb646 ≠ gb729)); have n18_ := Aside0.mk ((by rw [hg]; exact Nat.ne_of_gt (blk_lt (bpq8 BK646.out)) : gb729 ≠ gb646)); have n19_ := Aside0.mk ((by rw [hg]; exact Nat.ne_of_lt (blk_lt (bpq8 BK647.out)) : gb647 ≠ gb729)); have n20_ := Aside0.mk ((by rw [hg]; exact Nat.ne_of_gt (blk_lt (bpq8 BK647.out)) : gb729 ≠ gb647)); have n21_ := Aside0.mk ((by rw [hg]; exact Nat.ne_of_lt (blk_lt (bpq8 BK648.out)) : gb648 ≠ gb729)); have n22_ := Aside0.mk ((by rw [hg]; exact Nat.ne_of_gt (blk_lt (bpq8 BK648.out)) : gb729 ≠ gb648)); have n23_ := Aside0.mk ((by rw [hg]; exact Nat.ne_of_lt (blk_lt (bpq8 BK708.out)) : gb708 ≠ gb729)); have n24_ := Aside0.mk ((by rw [hg]; exact Nat.ne_of_gt (blk_lt (bpq8 BK708.out)) : gb729 ≠ gb708)); clear HO_51001; clear HO722; clear BK0; clear BK50; clear BK646; clear BK647; clear BK648; clear BK708; clear HK; clear HB; have HO_51001 := n0_; have HO722 := n1_; have BK0 := n2_; have BK50 := n3_; have BK646 := n4_; have BK647 := n5_; have BK648 := n6_; have BK708 := n7_; have HK := n8_; have HB := n9_; have BK729 := n10_; have GW729 := n11_; have GE729 := n12_; have NB0_729 := n13_; have NB729_0 := n14_; have NB50_729 := n15_; have NB729_50 := n16_; have NB646_729 := n17_; have NB729_646 := n18_; have NB647_729 := n19_; have NB729_647 := n20_; have NB648_729 := n21_; have NB729_648 := n22_; have NB708_729 := n23_; have NB729_708 := n24_; clear n0_ n1_ n2_ n3_ n4_ n5_ n6_ n7_ n8_ n9_ n10_ n11_ n12_ n13_ n14_ n15_ n16_ n17_ n18_ n19_ n20_ n21_ n22_ n23_ n24_; clear hb hbox hg; have hnb208 := NB729_0.out; have hnc208 := NB0_729.out; have hnb209 := NB729_50.out; have hnc209 := NB50_729.out; have hnb210 := NB729_646.out; have hnc210 := NB646_729.out; have hnb211 := NB729_647.out; have hnc211 := NB647_729.out; have hnb212 := NB729_648.out; have hnc212 := NB648_729.out; have hnb213 := NB729_708.out; have hnc213 := NB708_729.out; obtain ⟨hcz214_0, hcz214_1, hcz214_2, hcz214_3, hcz214_4, hcz214_5, hcz214_6, hcz214_7, hcz214_8, hcz214_9, hcz214_10, hcz214_11, hcz214_12⟩ := bc13q8 BK729.out; have hfz214_0 := fun i_ => blk_frozen BK729.out i_; obtain ⟨Ao215, co215, eo215⟩ := Kd.R_slice HO722.out; subst eo215))
                  have n0_ : Aside0 (Kd.R (Kd.int .i64) 3 (((((((((((((w207.setCell ⟨gb729, 0, none⟩ (.int .i64 t711)).setCell ⟨gb729, 1, none⟩ (.int .i64 t712)).setCell ⟨gb729, 2, none⟩ (.int .i64 t713)).setCell ⟨gb729, 3, none⟩ (.int .i64 t714)).setCell ⟨gb729, 4, none⟩ (.int .i64 t715)).setCell ⟨gb729, 5, none⟩ (.int .i64 t716)).setCell ⟨gb729, 6, none⟩ (.int .i64 t717)).setCell ⟨gb729, 7, none⟩ (.int .i64 t718)).setCell ⟨gb729, 8, none⟩ (.int .i64 t719)).setCell ⟨gb729, 9, none⟩ (.slice Ao215 t720.length co215)).setCell ⟨gb729, 10, none⟩ (.int .i64 t723)).setCell ⟨gb729, 11, none⟩ (.bool t724)).setCell ⟨gb729, 12, none⟩ (.int .i64 t725)) w0.heap.size (fun k_ => ((P0_17_ k_ ∨ False) ∨ w.heap.size ≤ k_) ∧ some k_ ≠ (.slice Ao215 t720.length co215 : Value).ownBlock) v703 t702) := ⟨by (with_reducible repeat (first | apply Kd.R_alloc | apply Kd.R_drewN | apply Kd.R_drew)); exact Kd.R_mono (Kd.R_far (Kd.R_far (Kd.R_far (Kd.R_far (Kd.R_far (Kd.R_far (Kd.R_far (Kd.R_far (Kd.R_far (Kd.R_far (Kd.R_far (Kd.R_far (Kd.R_far (Kd.R_types HO_51001.out BK729.out (by decide)) (fun _ hk => hk.2) _) (fun _ hk => hk.2) _) (fun _ hk => hk.2) _) (fun _ hk => hk.2) _) (fun _ hk => hk.2) _) (fun _ hk => hk.2) _) (fun _ hk => hk.2) _) (fun _ hk => hk.2) _) (fun _ hk => hk.2) _) (fun _ hk => hk.2) _) (fun _ hk => hk.2) _) (fun _ hk => hk.2) _) (fun _ hk => hk.2) _) (fun _ hk => ⟨hk.1.1, hk.1.2⟩)⟩
                  have n1_ : Aside0 (Kd.R (Kd.int .i64) 3 (((((((((((((w207.setCell ⟨gb729, 0, none⟩ (.int .i64 t711)).setCell ⟨gb729, 1, none⟩ (.int .i64 t712)).setCell ⟨gb729, 2, none⟩ (.int .i64 t713)).setCell ⟨gb729, 3, none⟩ (.int .i64 t714)).setCell ⟨gb729, 4, none⟩ (.int .i64 t715)).setCell ⟨gb729, 5, none⟩ (.int .i64 t716)).setCell ⟨gb729, 6, none⟩ (.int .i64 t717)).setCell ⟨gb729, 7, none⟩ (.int .i64 t718)).setCell ⟨gb729, 8, none⟩ (.int .i64 t719)).setCell ⟨gb729, 9, none⟩ (.slice Ao215 t720.length co215)).setCell ⟨gb729, 10, none⟩ (.int .i64 t723)).setCell ⟨gb729, 11, none⟩ (.bool t724)).setCell ⟨gb729, 12, none⟩ (.int .i64 t725)) w0.heap.size (fun k_ => ((False ∨ P1_9_ k_) ∨ w.heap.size ≤ k_) ∧ some k_ ≠ (v703 : Value).ownBlock) (.slice Ao215 t720.length co215) t720) := ⟨by (with_reducible repeat (first | apply Kd.R_alloc | apply Kd.R_drewN | apply Kd.R_drew)); exact Kd.R_mono (Kd.R_far (Kd.R_far (Kd.R_far (Kd.R_far (Kd.R_far (Kd.R_far (Kd.R_far (Kd.R_far (Kd.R_far (Kd.R_far (Kd.R_far (Kd.R_far (Kd.R_far (Kd.R_types HO722.out BK729.out (by decide)) (fun _ hk => hk.2) _) (fun _ hk => hk.2) _) (fun _ hk => hk.2) _) (fun _ hk => hk.2) _) (fun _ hk => hk.2) _) (fun _ hk => hk.2) _) (fun _ hk => hk.2) _) (fun _ hk => hk.2) _) (fun _ hk => hk.2) _) (fun _ hk => hk.2) _) (fun _ hk => hk.2) _) (fun _ hk => hk.2) _) (fun _ hk => hk.2) _) (fun _ hk => ⟨hk.1.1, hk.1.2⟩)⟩
                  have n2_ : Aside0 ((((((((((((((w207.setCell ⟨gb729, 0, none⟩ (.int .i64 t711)).setCell ⟨gb729, 1, none⟩ (.int .i64 t712)).setCell ⟨gb729, 2, none⟩ (.int .i64 t713)).setCell ⟨gb729, 3, none⟩ (.int .i64 t714)).setCell ⟨gb729, 4, none⟩ (.int .i64 t715)).setCell ⟨gb729, 5, none⟩ (.int .i64 t716)).setCell ⟨gb729, 6, none⟩ (.int .i64 t717)).setCell ⟨gb729, 7, none⟩ (.int .i64 t718)).setCell ⟨gb729, 8, none⟩ (.int .i64 t719)).setCell ⟨gb729, 9, none⟩ (.slice Ao215 t720.length co215)).setCell ⟨gb729, 10, none⟩ (.int .i64 t723)).setCell ⟨gb729, 11, none⟩ (.bool t724)).setCell ⟨gb729, 12, none⟩ (.int .i64 t725)).heap[g]? = some (.cells #[.int .u32 t685, .bool t686, .int .u32 t687, .bool t688, .int .u32 t689, .bool t690, .int .u32 t691, .bool t692, .int .u32 t693, .bool t694, .int .u32 t695, .bool t696, .int .u32 t697, .bool t698, .int .u32 t699, .bool t700, .pointer (some ⟨gs0, 0, none⟩), .int .i64 t705, .int .i64 t706, .bool t707] 54 (0, 0))) := ⟨by refine bfq8 NB0_729.out ?_; refine bfq8 NB0_729.out ?_; refine bfq8 NB0_729.out ?_; refine bfq8 NB0_729.out ?_; refine bfq8 NB0_729.out ?_; refine bfq8 NB0_729.out ?_; refine bfq8 NB0_729.out ?_; refine bfq8 NB0_729.out ?_; refine bfq8 NB0_729.out ?_; refine bfq8 NB0_729.out ?_; refine bfq8 NB0_729.out ?_; refine bfq8 NB0_729.out ?_; refine bfq8 NB0_729.out ?_; exact bpq8 BK0.out⟩
                  have n3_ : Aside0 ((((((((((((((w207.setCell ⟨gb729, 0, none⟩ (.int .i64 t711)).setCell ⟨gb729, 1, none⟩ (.int .i64 t712)).setCell ⟨gb729, 2, none⟩ (.int .i64 t713)).setCell ⟨gb729, 3, none⟩ (.int .i64 t714)).setCell ⟨gb729, 4, none⟩ (.int .i64 t715)).setCell ⟨gb729, 5, none⟩ (.int .i64 t716)).setCell ⟨gb729, 6, none⟩ (.int .i64 t717)).setCell ⟨gb729, 7, none⟩ (.int .i64 t718)).setCell ⟨gb729, 8, none⟩ (.int .i64 t719)).setCell ⟨gb729, 9, none⟩ (.slice Ao215 t720.length co215)).setCell ⟨gb729, 10, none⟩ (.int .i64 t723)).setCell ⟨gb729, 11, none⟩ (.bool t724)).setCell ⟨gb729, 12, none⟩ (.int .i64 t725)).heap[gs0]? = some (.cells #[.int .i64 t701, v703] 68 (0, 0))) := ⟨by refine bfq8 NB50_729.out ?_; refine bfq8 NB50_729.out ?_; refine bfq8 NB50_729.out ?_; refine bfq8 NB50_729.out ?_; refine bfq8 NB50_729.out ?_; refine bfq8 NB50_729.out ?_; refine bfq8 NB50_729.out ?_; refine bfq8 NB50_729.out ?_; refine bfq8 NB50_729.out ?_; refine bfq8 NB50_729.out ?_; refine bfq8 NB50_729.out ?_; refine bfq8 NB50_729.out ?_; refine bfq8 NB50_729.out ?_; exact bpq8 BK50.out⟩
                  have n4_ : Aside0 ((((((((((((((w207.setCell ⟨gb729, 0, none⟩ (.int .i64 t711)).setCell ⟨gb729, 1, none⟩ (.int .i64 t712)).setCell ⟨gb729, 2, none⟩ (.int .i64 t713)).setCell ⟨gb729, 3, none⟩ (.int .i64 t714)).setCell ⟨gb729, 4, none⟩ (.int .i64 t715)).setCell ⟨gb729, 5, none⟩ (.int .i64 t716)).setCell ⟨gb729, 6, none⟩ (.int .i64 t717)).setCell ⟨gb729, 7, none⟩ (.int .i64 t718)).setCell ⟨gb729, 8, none⟩ (.int .i64 t719)).setCell ⟨gb729, 9, none⟩ (.slice Ao215 t720.length co215)).setCell ⟨gb729, 10, none⟩ (.int .i64 t723)).setCell ⟨gb729, 11, none⟩ (.bool t724)).setCell ⟨gb729, 12, none⟩ (.int .i64 t725)).heap[gb646]? = some (.cells #[.int .i64 a1_0, .int .i64 a1_1, .int .i64 a1_2, .int .i64 a1_3, .int .i64 a1_4, .int .i64 a1_5, .int .i64 a1_6, .int .i64 a1_7, .int .i64 a1_8, .slice Ao5 l1_9.length co5, .int .i64 a1_10, .bool a1_11, .int .i64 a1_12] 41 (0, 0))) := ⟨by refine bfq8 NB646_729.out ?_; refine bfq8 NB646_729.out ?_; refine bfq8 NB646_729.out ?_; refine bfq8 NB646_729.out ?_; refine bfq8 NB646_729.out ?_; refine bfq8 NB646_729.out ?_; refine bfq8 NB646_729.out ?_; refine bfq8 NB646_729.out ?_; refine bfq8 NB646_729.out ?_; refine bfq8 NB646_729.out ?_; refine bfq8 NB646_729.out ?_; refine bfq8 NB646_729.out ?_; refine bfq8 NB646_729.out ?_; exact bpq8 BK646.out⟩
                  have n5_ : Aside0 ((((((((((((((w207.setCell ⟨gb729, 0, none⟩ (.int .i64 t711)).setCell ⟨gb729, 1, none⟩ (.int .i64 t712)).setCell ⟨gb729, 2, none⟩ (.int .i64 t713)).setCell ⟨gb729, 3, none⟩ (.int .i64 t714)).setCell ⟨gb729, 4, none⟩ (.int .i64 t715)).setCell ⟨gb729, 5, none⟩ (.int .i64 t716)).setCell ⟨gb729, 6, none⟩ (.int .i64 t717)).setCell ⟨gb729, 7, none⟩ (.int .i64 t718)).setCell ⟨gb729, 8, none⟩ (.int .i64 t719)).setCell ⟨gb729, 9, none⟩ (.slice Ao215 t720.length co215)).setCell ⟨gb729, 10, none⟩ (.int .i64 t723)).setCell ⟨gb729, 11, none⟩ (.bool t724)).setCell ⟨gb729, 12, none⟩ (.int .i64 t725)).heap[gb647]? = some (.cells #[.int .i64 a2_0, .int .i64 a2_1, .int .u32 a2_2, .int .i64 a2_3, .int .i64 a2_4] 29 (0, 0))) := ⟨by refine bfq8 NB647_729.out ?_; refine bfq8 NB647_729.out ?_; refine bfq8 NB647_729.out ?_; refine bfq8 NB647_729.out ?_; refine bfq8 NB647_729.out ?_; refine bfq8 NB647_729.out ?_; refine bfq8 NB647_729.out ?_; refine bfq8 NB647_729.out ?_; refine bfq8 NB647_729.out ?_; refine bfq8 NB647_729.out ?_; refine bfq8 NB647_729.out ?_; refine bfq8 NB647_729.out ?_; refine bfq8 NB647_729.out ?_; exact bpq8 BK647.out⟩
                  have n6_ : Aside0 ((((((((((((((w207.setCell ⟨gb729, 0, none⟩ (.int .i64 t711)).setCell ⟨gb729, 1, none⟩ (.int .i64 t712)).setCell ⟨gb729, 2, none⟩ (.int .i64 t713)).setCell ⟨gb729, 3, none⟩ (.int .i64 t714)).setCell ⟨gb729, 4, none⟩ (.int .i64 t715)).setCell ⟨gb729, 5, none⟩ (.int .i64 t716)).setCell ⟨gb729, 6, none⟩ (.int .i64 t717)).setCell ⟨gb729, 7, none⟩ (.int .i64 t718)).setCell ⟨gb729, 8, none⟩ (.int .i64 t719)).setCell ⟨gb729, 9, none⟩ (.slice Ao215 t720.length co215)).setCell ⟨gb729, 10, none⟩ (.int .i64 t723)).setCell ⟨gb729, 11, none⟩ (.bool t724)).setCell ⟨gb729, 12, none⟩ (.int .i64 t725)).heap[gb648]? = some (.cells #[.int .i64 0, .int .i64 0, .int .i64 0, .int .i64 0, .int .i64 0, .int .i64 0, .int .i64 0, .int .i64 0, .int .i64 0, .slice none 0 0, .int .i64 0, .bool false, .int .i64 0] 41 (0, 0))) := ⟨by refine bfq8 NB648_729.out ?_; refine bfq8 NB648_729.out ?_; refine bfq8 NB648_729.out ?_; refine bfq8 NB648_729.out ?_; refine bfq8 NB648_729.out ?_; refine bfq8 NB648_729.out ?_; refine bfq8 NB648_729.out ?_; refine bfq8 NB648_729.out ?_; refine bfq8 NB648_729.out ?_; refine bfq8 NB648_729.out ?_; refine bfq8 NB648_729.out ?_; refine bfq8 NB648_729.out ?_; refine bfq8 NB648_729.out ?_; exact bpq8 BK648.out⟩
                  have n7_ : Aside0 ((((((((((((((w207.setCell ⟨gb729, 0, none⟩ (.int .i64 t711)).setCell ⟨gb729, 1, none⟩ (.int .i64 t712)).setCell ⟨gb729, 2, none⟩ (.int .i64 t713)).setCell ⟨gb729, 3, none⟩ (.int .i64 t714)).setCell ⟨gb729, 4, none⟩ (.int .i64 t715)).setCell ⟨gb729, 5, none⟩ (.int .i64 t716)).setCell ⟨gb729, 6, none⟩ (.int .i64 t717)).setCell ⟨gb729, 7, none⟩ (.int .i64 t718)).setCell ⟨gb729, 8, none⟩ (.int .i64 t719)).setCell ⟨gb729, 9, none⟩ (.slice Ao215 t720.length co215)).setCell ⟨gb729, 10, none⟩ (.int .i64 t723)).setCell ⟨gb729, 11, none⟩ (.bool t724)).setCell ⟨gb729, 12, none⟩ (.int .i64 t725)).heap[gb708]? = some (.cells #[.int .i64 t681, .bool t682, .bool t683] 31 (0, 0))) := ⟨by refine bfq8 NB708_729.out ?_; refine bfq8 NB708_729.out ?_; refine bfq8 NB708_729.out ?_; refine bfq8 NB708_729.out ?_; refine bfq8 NB708_729.out ?_; refine bfq8 NB708_729.out ?_; refine bfq8 NB708_729.out ?_; refine bfq8 NB708_729.out ?_; refine bfq8 NB708_729.out ?_; refine bfq8 NB708_729.out ?_; refine bfq8 NB708_729.out ?_; refine bfq8 NB708_729.out ?_; refine bfq8 NB708_729.out ?_; exact bpq8 BK708.out⟩
                  have n8_ : Aside0 ((((((((((((((w207.setCell ⟨gb729, 0, none⟩ (.int .i64 t711)).setCell ⟨gb729, 1, none⟩ (.int .i64 t712)).setCell ⟨gb729, 2, none⟩ (.int .i64 t713)).setCell ⟨gb729, 3, none⟩ (.int .i64 t714)).setCell ⟨gb729, 4, none⟩ (.int .i64 t715)).setCell ⟨gb729, 5, none⟩ (.int .i64 t716)).setCell ⟨gb729, 6, none⟩ (.int .i64 t717)).setCell ⟨gb729, 7, none⟩ (.int .i64 t718)).setCell ⟨gb729, 8, none⟩ (.int .i64 t719)).setCell ⟨gb729, 9, none⟩ (.slice Ao215 t720.length co215)).setCell ⟨gb729, 10, none⟩ (.int .i64 t723)).setCell ⟨gb729, 11, none⟩ (.bool t724)).setCell ⟨gb729, 12, none⟩ (.int .i64 t725)).heap[gb729]? = some (.cells #[.int .i64 t711, .int .i64 t712, .int .i64 t713, .int .i64 t714, .int .i64 t715, .int .i64 t716, .int .i64 t717, .int .i64 t718, .int .i64 t719, .slice Ao215 t720.length co215, .int .i64 t723, .bool t724, .int .i64 t725] 41 (0, 0))) := ⟨by refine bzq8 ?_; refine btq8 (i := 12) ?_; refine btq8 (i := 11) ?_; refine btq8 (i := 10) ?_; refine btq8 (i := 9) ?_; refine btq8 (i := 8) ?_; refine btq8 (i := 7) ?_; refine btq8 (i := 6) ?_; refine btq8 (i := 5) ?_; refine btq8 (i := 4) ?_; refine btq8 (i := 3) ?_; refine btq8 (i := 2) ?_; refine btq8 (i := 1) ?_; refine btq8 (i := 0) ?_; exact ⟨_, bpq8 BK729.out, by first | (simp only [List.setIfInBounds_toArray, List.set_cons_zero, List.set_cons_succ]; done) | rfl⟩⟩
                  have n9_ : Aside0 (Kept w (((((((((((((w207.setCell ⟨gb729, 0, none⟩ (.int .i64 t711)).setCell ⟨gb729, 1, none⟩ (.int .i64 t712)).setCell ⟨gb729, 2, none⟩ (.int .i64 t713)).setCell ⟨gb729, 3, none⟩ (.int .i64 t714)).setCell ⟨gb729, 4, none⟩ (.int .i64 t715)).setCell ⟨gb729, 5, none⟩ (.int .i64 t716)).setCell ⟨gb729, 6, none⟩ (.int .i64 t717)).setCell ⟨gb729, 7, none⟩ (.int .i64 t718)).setCell ⟨gb729, 8, none⟩ (.int .i64 t719)).setCell ⟨gb729, 9, none⟩ (.slice Ao215 t720.length co215)).setCell ⟨gb729, 10, none⟩ (.int .i64 t723)).setCell ⟨gb729, 11, none⟩ (.bool t724)).setCell ⟨gb729, 12, none⟩ (.int .i64 t725)) (fun k_ => ((P0_17_ k_ ∨ False) ∨ k_ = g) ∨ k_ = gs0)) := ⟨(kkq8 HK.out)⟩
                  have n10_ : Aside0 (Below w0.heap.size w0 (((((((((((((w207.setCell ⟨gb729, 0, none⟩ (.int .i64 t711)).setCell ⟨gb729, 1, none⟩ (.int .i64 t712)).setCell ⟨gb729, 2, none⟩ (.int .i64 t713)).setCell ⟨gb729, 3, none⟩ (.int .i64 t714)).setCell ⟨gb729, 4, none⟩ (.int .i64 t715)).setCell ⟨gb729, 5, none⟩ (.int .i64 t716)).setCell ⟨gb729, 6, none⟩ (.int .i64 t717)).setCell ⟨gb729, 7, none⟩ (.int .i64 t718)).setCell ⟨gb729, 8, none⟩ (.int .i64 t719)).setCell ⟨gb729, 9, none⟩ (.slice Ao215 t720.length co215)).setCell ⟨gb729, 10, none⟩ (.int .i64 t723)).setCell ⟨gb729, 11, none⟩ (.bool t724)).setCell ⟨gb729, 12, none⟩ (.int .i64 t725))) := ⟨(bbq8 HB.out)⟩
                  (try clear HO_51001)
                  (try clear HO722)
                  (try clear BK0)
                  (try clear BK50)
                  (try clear BK646)
                  (try clear BK647)
                  (try clear BK648)
                  (try clear BK708)
                  (try clear BK729)
                  (try clear HK)
                  (try clear HB)
                  generalize (((((((((((((w207.setCell ⟨gb729, 0, none⟩ (.int .i64 t711)).setCell ⟨gb729, 1, none⟩ (.int .i64 t712)).setCell ⟨gb729, 2, none⟩ (.int .i64 t713)).setCell ⟨gb729, 3, none⟩ (.int .i64 t714)).setCell ⟨gb729, 4, none⟩ (.int .i64 t715)).setCell ⟨gb729, 5, none⟩ (.int .i64 t716)).setCell ⟨gb729, 6, none⟩ (.int .i64 t717)).setCell ⟨gb729, 7, none⟩ (.int .i64 t718)).setCell ⟨gb729, 8, none⟩ (.int .i64 t719)).setCell ⟨gb729, 9, none⟩ (.slice Ao215 t720.length co215)).setCell ⟨gb729, 10, none⟩ (.int .i64 t723)).setCell ⟨gb729, 11, none⟩ (.bool t724)).setCell ⟨gb729, 12, none⟩ (.int .i64 t725)) = w216 at n0_ n1_ n2_ n3_ n4_ n5_ n6_ n7_ n8_ n9_ n10_ ⊢
                  have HO_51001 := n0_
                  have HO722 := n1_
                  have BK0 := n2_
                  have BK50 := n3_
                  have BK646 := n4_
                  have BK647 := n5_
                  have BK648 := n6_
                  have BK708 := n7_
                  have BK729 := n8_
                  have HK := n9_
                  have HB := n10_
                  clear n0_ n1_ n2_ n3_ n4_ n5_ n6_ n7_ n8_ n9_ n10_
                  have n0_ := Aside0.mk (Kd.R_drew HO_51001.out)
                  have n1_ := Aside0.mk (Kd.R_drew HO722.out)
                  have n2_ := Aside0.mk (blk_drew BK0.out)
                  have n3_ := Aside0.mk (blk_drew BK50.out)
                  have n4_ := Aside0.mk (blk_drew BK646.out)
                  have n5_ := Aside0.mk (blk_drew BK647.out)
                  have n6_ := Aside0.mk (blk_drew BK648.out)
                  have n7_ := Aside0.mk (blk_drew BK708.out)
                  have n8_ := Aside0.mk (blk_drew BK729.out)
                  have n9_ := Aside0.mk (Kept.drew HK.out)
                  have n10_ := Aside0.mk (below_drew1 HB.out)
                  clear HO_51001
                  clear HO722
                  clear BK0
                  clear BK50
                  clear BK646
                  clear BK647
                  clear BK648
                  clear BK708
                  clear BK729
                  clear HK
                  clear HB
                  have HO_51001 := n0_
                  have HO722 := n1_
                  have BK0 := n2_
                  have BK50 := n3_
                  have BK646 := n4_
                  have BK647 := n5_
                  have BK648 := n6_
                  have BK708 := n7_
                  have BK729 := n8_
                  have HK := n9_
                  have HB := n10_
                  clear n0_ n1_ n2_ n3_ n4_ n5_ n6_ n7_ n8_ n9_ n10_
                  refine start_ (n := 13) (S := fun w' => w'.cell? ⟨gb729, 0, none⟩ = some (.int .i64 t711) ∧ w'.cell? ⟨gb729, 1, none⟩ = some (.int .i64 t712) ∧ w'.cell? ⟨gb729, 2, none⟩ = some (.int .i64 t713) ∧ w'.cell? ⟨gb729, 3, none⟩ = some (.int .i64 t714) ∧ w'.cell? ⟨gb729, 4, none⟩ = some (.int .i64 t715) ∧ w'.cell? ⟨gb729, 5, none⟩ = some (.int .i64 t716) ∧ w'.cell? ⟨gb729, 6, none⟩ = some (.int .i64 t717) ∧ w'.cell? ⟨gb729, 7, none⟩ = some (.int .i64 t718) ∧ w'.cell? ⟨gb729, 8, none⟩ = some (.int .i64 t719) ∧ w'.cell? ⟨gb729, 9, none⟩ = some (.slice Ao215 t720.length co215) ∧ w'.cell? ⟨gb729, 10, none⟩ = some (.int .i64 t723) ∧ w'.cell? ⟨gb729, 11, none⟩ = some (.bool t724) ∧ w'.cell? ⟨gb729, 12, none⟩ = some (.int .i64 t725)) (ds := []) #[false, false, false, false, false, false, false, false, false, false, false, false, false] (by kernel_rfl) rfl rfl ⟨(blk_cell BK729.out 0).trans rfl, (blk_cell BK729.out 1).trans rfl, (blk_cell BK729.out 2).trans rfl, (blk_cell BK729.out 3).trans rfl, (blk_cell BK729.out 4).trans rfl, (blk_cell BK729.out 5).trans rfl, (blk_cell BK729.out 6).trans rfl, (blk_cell BK729.out 7).trans rfl, (blk_cell BK729.out 8).trans rfl, (blk_cell BK729.out 9).trans rfl, (blk_cell BK729.out 10).trans rfl, (blk_cell BK729.out 11).trans rfl, (blk_cell BK729.out 12).trans rfl⟩ (fun hHeld => ?_); refine with_tabW terracelaw15_step.tab14 terracelaw15_step.bits14 (fun HT_ HW_ => ?_)
                  generalize w216.drew = w217 at HO_51001 HO722 BK0 BK50 BK646 BK647 BK648 BK708 BK729 HK HB hHeld ⊢
                  refine pure_ (i := 1) (N := some 106) (v := ?_) (a' := ?_) #[false, true, false, false, false, false, false, false, false, false, false, false, false] rfl rfl (any_of HT_.out (by kernel_rfl)) (fun _ _ _ h => h) (Or.inl ⟨by rfl, ?_⟩) ?_ ?_
                  rotate_left
                  · intro w'
                    go_simp
                    with_reducible rfl
                  rotate_left
                  · simp only [Act.put, List.setIfInBounds_toArray, List.set_cons_zero, List.set_cons_succ, i64_w, i32_w]
                    rfl
                  refine pure_ (i := 2) (N := some 107) (v := ?_) (a' := ?_) #[false, true, true, false, false, false, false, false, false, false, false, false, false] rfl rfl (any_of HT_.out (by kernel_rfl)) (fun _ _ _ h => h) (Or.inl ⟨by rfl, ?_⟩) ?_ ?_
                  rotate_left
                  · intro w'
                    go_simp
                    with_reducible rfl
                  rotate_left
                  · simp only [Act.put, List.setIfInBounds_toArray, List.set_cons_zero, List.set_cons_succ, i64_w, i32_w]
                    rfl
                  refine pure_ (i := 3) (N := some 108) (v := ?_) (a' := ?_) #[false, true, true, true, false, false, false, false, false, false, false, false, false] rfl rfl (any_of HT_.out (by kernel_rfl)) (fun _ _ _ h => h) (Or.inl ⟨by rfl, ?_⟩) ?_ ?_
                  rotate_left
                  · intro w'
                    go_simp
                    with_reducible rfl
                  rotate_left
                  · simp only [Act.put, List.setIfInBounds_toArray, List.set_cons_zero, List.set_cons_succ, i64_w, i32_w]
                    rfl
                  refine pure_ (i := 4) (N := some 109) (v := undef) (a' := ?_) #[false, true, true, true, true, false, false, false, false, false, false, false, false] rfl rfl (any_of HT_.out (by kernel_rfl)) (fun _ _ _ h => h) (Or.inr ⟨by rfl, rfl⟩) ?_ ?_
                  rotate_left
                  · simp only [Act.put, List.setIfInBounds_toArray, List.set_cons_zero, List.set_cons_succ, i64_w, i32_w]
                    rfl
                  refine pure_ (i := 5) (N := some 110) (v := undef) (a' := ?_) #[false, true, true, true, true, true, false, false, false, false, false, false, false] rfl rfl (any_of HT_.out (by kernel_rfl)) (fun _ _ _ h => h) (Or.inr ⟨by rfl, rfl⟩) ?_ ?_
                  rotate_left
                  · simp only [Act.put, List.setIfInBounds_toArray, List.set_cons_zero, List.set_cons_succ, i64_w, i32_w]
                    rfl
                  refine pure_ (i := 6) (N := some 111) (v := undef) (a' := ?_) #[false, true, true, true, true, true, true, false, false, false, false, false, false] rfl rfl (any_of HT_.out (by kernel_rfl)) (fun _ _ _ h => h) (Or.inr ⟨by rfl, rfl⟩) ?_ ?_
                  rotate_left
                  · simp only [Act.put, List.setIfInBounds_toArray, List.set_cons_zero, List.set_cons_succ, i64_w, i32_w]
                    rfl
                  refine pure_ (i := 7) (N := some 112) (v := undef) (a' := ?_) #[false, true, true, true, true, true, true, true, false, false, false, false, false] rfl rfl (any_of HT_.out (by kernel_rfl)) (fun _ _ _ h => h) (Or.inr ⟨by rfl, rfl⟩) ?_ ?_
                  rotate_left
                  · simp only [Act.put, List.setIfInBounds_toArray, List.set_cons_zero, List.set_cons_succ, i64_w, i32_w]
                    rfl
                  refine pure_ (i := 8) (N := some 113) (v := undef) (a' := ?_) #[false, true, true, true, true, true, true, true, true, false, false, false, false] rfl rfl (any_of HT_.out (by kernel_rfl)) (fun _ _ _ h => h) (Or.inr ⟨by rfl, rfl⟩) ?_ ?_
                  rotate_left
                  · simp only [Act.put, List.setIfInBounds_toArray, List.set_cons_zero, List.set_cons_succ, i64_w, i32_w]
                    rfl
                  refine pure_ (i := 9) (N := some 114) (v := undef) (a' := ?_) #[false, true, true, true, true, true, true, true, true, true, false, false, false] rfl rfl (any_of HT_.out (by kernel_rfl)) (fun _ _ _ h => h) (Or.inr ⟨by rfl, rfl⟩) ?_ ?_
                  rotate_left
                  · simp only [Act.put, List.setIfInBounds_toArray, List.set_cons_zero, List.set_cons_succ, i64_w, i32_w]
                    rfl
                  refine pure_ (i := 10) (N := some 115) (v := ?_) (a' := ?_) #[false, true, true, true, true, true, true, true, true, true, true, false, false] rfl rfl (any_of HT_.out (by kernel_rfl)) (fun _ _ _ h => h) (Or.inl ⟨by rfl, ?_⟩) ?_ ?_
                  rotate_left
                  · intro w'
                    go_simp
                    with_reducible rfl
                  rotate_left
                  · simp only [Act.put, List.setIfInBounds_toArray, List.set_cons_zero, List.set_cons_succ, i64_w, i32_w]
                    rfl
                  refine take_ (i := 0) (N := some 105) (v := ?_) (a' := ?_) #[true, true, true, true, true, true, true, true, true, true, true, false, false] rfl rfl (take_ofW HT_.out HW_.out (by kernel_rfl)) (fun _ _ _ h => h) (Or.inl ⟨by rfl, ?_⟩) hHeld ?_ ?_
                  rotate_left
                  · rintro w' ⟨s0, s1, s2, s3, s4, s5, s6, s7, s8, s9, s10, s11, s12⟩
                    go_simp
                    with_reducible rfl
                  rotate_left
                  · simp only [Act.put, List.setIfInBounds_toArray, List.set_cons_zero, List.set_cons_succ, i64_w, i32_w]
                    rfl
                  refine one_ (i := 11) (N := none) #[true, true, true, true, true, true, true, true, true, true, true, true, false] rfl rfl (one_of HT_.out (by kernel_rfl)) (by decide) (fun K hK => ?_)
                  have hs218 : w217.cell? ⟨gb648, 0, none⟩ = some (.int .i64 0) := (blk_cell BK648.out 0).trans rfl
                  have hfs218 := blk_frozen BK648.out 0
                  have hns218_0 := NB0_648.out
                  have hns218_1 := NB50_648.out
                  have hns218_2 := NB646_648.out
                  have hns218_3 := NB647_648.out
                  have hns218_5 := NB708_648.out
                  have hns218_6 := NB729_648.out
                  have hms218_0 := NB648_0.out
                  have hms218_1 := NB648_50.out
                  have hms218_2 := NB648_646.out
                  have hms218_3 := NB648_647.out
                  have hms218_5 := NB648_708.out
                  have hms218_6 := NB648_729.out
                  have hs219 : w217.cell? ⟨gb648, 1, none⟩ = some (.int .i64 0) := (blk_cell BK648.out 1).trans rfl
                  have hfs219 := blk_frozen BK648.out 1
                  have hs220 : w217.cell? ⟨gb648, 2, none⟩ = some (.int .i64 0) := (blk_cell BK648.out 2).trans rfl
                  have hfs220 := blk_frozen BK648.out 2
                  have hs221 : w217.cell? ⟨gb648, 3, none⟩ = some (.int .i64 0) := (blk_cell BK648.out 3).trans rfl
                  have hfs221 := blk_frozen BK648.out 3
                  have hs222 : w217.cell? ⟨gb648, 4, none⟩ = some (.int .i64 0) := (blk_cell BK648.out 4).trans rfl
                  have hfs222 := blk_frozen BK648.out 4
                  have hs223 : w217.cell? ⟨gb648, 5, none⟩ = some (.int .i64 0) := (blk_cell BK648.out 5).trans rfl
                  have hfs223 := blk_frozen BK648.out 5
                  have hs224 : w217.cell? ⟨gb648, 6, none⟩ = some (.int .i64 0) := (blk_cell BK648.out 6).trans rfl
                  have hfs224 := blk_frozen BK648.out 6
                  have hs225 : w217.cell? ⟨gb648, 7, none⟩ = some (.int .i64 0) := (blk_cell BK648.out 7).trans rfl
                  have hfs225 := blk_frozen BK648.out 7
                  have hs226 : w217.cell? ⟨gb648, 8, none⟩ = some (.int .i64 0) := (blk_cell BK648.out 8).trans rfl
                  have hfs226 := blk_frozen BK648.out 8
                  have hs227 : w217.cell? ⟨gb648, 9, none⟩ = some (.slice none 0 0) := (blk_cell BK648.out 9).trans rfl
                  have hfs227 := blk_frozen BK648.out 9
                  have hs228 : w217.cell? ⟨gb648, 10, none⟩ = some (.int .i64 0) := (blk_cell BK648.out 10).trans rfl
                  have hfs228 := blk_frozen BK648.out 10
                  have hs229 : w217.cell? ⟨gb648, 11, none⟩ = some (.bool false) := (blk_cell BK648.out 11).trans rfl
                  have hfs229 := blk_frozen BK648.out 11
                  have hs230 : w217.cell? ⟨gb648, 12, none⟩ = some (.int .i64 0) := (blk_cell BK648.out 12).trans rfl
                  have hfs230 := blk_frozen BK648.out 12
                  refine skip_ (w1 := ?_) (by rfl) rfl ?_ ?_
                  rotate_left
                  · go_simp
                    rfl
                  refine hK.out _ _ ⟨(cf13q8 NB729_648.out (hHeld.1)), (cf13q8 NB729_648.out (hHeld.2.1)), (cf13q8 NB729_648.out (hHeld.2.2.1)), (cf13q8 NB729_648.out (hHeld.2.2.2.1)), (cf13q8 NB729_648.out (hHeld.2.2.2.2.1)), (cf13q8 NB729_648.out (hHeld.2.2.2.2.2.1)), (cf13q8 NB729_648.out (hHeld.2.2.2.2.2.2.1)), (cf13q8 NB729_648.out (hHeld.2.2.2.2.2.2.2.1)), (cf13q8 NB729_648.out (hHeld.2.2.2.2.2.2.2.2.1)), (cf13q8 NB729_648.out (hHeld.2.2.2.2.2.2.2.2.2.1)), (cf13q8 NB729_648.out (hHeld.2.2.2.2.2.2.2.2.2.2.1)), (cf13q8 NB729_648.out (hHeld.2.2.2.2.2.2.2.2.2.2.2.1)), (cf13q8 NB729_648.out (hHeld.2.2.2.2.2.2.2.2.2.2.2.2))⟩ (fun hHeld => ?_)
                  clear hK K
                  refine pure_ (i := 12) (N := some 7) (v := ?_) (a' := ?_) #[true, true, true, true, true, true, true, true, true, true, true, true, true] rfl rfl (any_of HT_.out (by kernel_rfl)) (fun _ _ _ h => h) (Or.inl ⟨by rfl, ?_⟩) ?_ ?_
                  rotate_left
                  · intro w'
                    go_simp
                    with_reducible rfl
                  rotate_left
                  · simp only [Act.put, List.setIfInBounds_toArray, List.set_cons_zero, List.set_cons_succ, i64_w, i32_w]
                    rfl
                  refine done_ (done_of HT_.out (by kernel_rfl)) ?_
                  try go_wp2
                  refine bodyPost_ret (results_ct rfl _ _ gb648 41 #[.int .i64 t711, .int .i64 t712, .int .i64 t713, .int .i64 t714, .int .i64 t715, .int .i64 t716, .int .i64 t717, .int .i64 t718, .int .i64 t719, .slice Ao215 t720.length co215, .int .i64 t723, .bool t724, .int .i64 t725] (0, 0) _ rfl (by refine bzq8 ?_; refine btq8 (i := 12) ?_; refine btq8 (i := 11) ?_; refine btq8 (i := 10) ?_; refine btq8 (i := 9) ?_; refine btq8 (i := 8) ?_; refine btq8 (i := 7) ?_; refine btq8 (i := 6) ?_; refine btq8 (i := 5) ?_; refine btq8 (i := 4) ?_; refine btq8 (i := 3) ?_; refine btq8 (i := 2) ?_; refine btq8 (i := 1) ?_; refine btq8 (i := 0) ?_; exact ⟨_, bpq8 BK648.out, by first | (simp only [List.setIfInBounds_toArray, List.set_cons_zero, List.set_cons_succ]; done) | rfl⟩) Try.underlying41 rfl (by kernel_rfl)) rfl ?_
                  exact ⟨_, _, by first | rfl | (simp [errW_none, errW_some] <;> rfl) | (simp only [← hji54, ← hji55]; first | rfl | (simp [errW_none, errW_some] <;> rfl)) | (simp [*, errW_none, errW_some] <;> rfl), by (with_reducible repeat (first | apply Kd.R_alloc | apply Kd.R_drewN | apply Kd.R_drew)); exact Kd.R_mono (Kd.R_far (Kd.R_far (Kd.R_far (Kd.R_far (Kd.R_far (Kd.R_far (Kd.R_far (Kd.R_far (Kd.R_far (Kd.R_far (Kd.R_far (Kd.R_far (Kd.R_far (Kd.R_types HO722.out BK648.out (by decide)) (fun _ hk => hk.2) _) (fun _ hk => hk.2) _) (fun _ hk => hk.2) _) (fun _ hk => hk.2) _) (fun _ hk => hk.2) _) (fun _ hk => hk.2) _) (fun _ hk => hk.2) _) (fun _ hk => hk.2) _) (fun _ hk => hk.2) _) (fun _ hk => hk.2) _) (fun _ hk => hk.2) _) (fun _ hk => hk.2) _) (fun _ hk => hk.2) _) (fun _ hk => ⟨hk.1.1, hk.1.2⟩), by (with_reducible repeat (first | apply Kd.R_alloc | apply Kd.R_drewN | apply Kd.R_drew)); exact Kd.R_mono (Kd.R_far (Kd.R_far (Kd.R_far (Kd.R_far (Kd.R_far (Kd.R_far (Kd.R_far (Kd.R_far (Kd.R_far (Kd.R_far (Kd.R_far (Kd.R_far (Kd.R_far (Kd.R_types HO_51001.out BK648.out (by decide)) (fun _ hk => hk.2) _) (fun _ hk => hk.2) _) (fun _ hk => hk.2) _) (fun _ hk => hk.2) _) (fun _ hk => hk.2) _) (fun _ hk => hk.2) _) (fun _ hk => hk.2) _) (fun _ hk => hk.2) _) (fun _ hk => hk.2) _) (fun _ hk => hk.2) _) (fun _ hk => hk.2) _) (fun _ hk => hk.2) _) (fun _ hk => hk.2) _) (fun _ hk => ⟨hk.1.1, hk.1.2⟩), (by refine bfq8 NB0_648.out ?_; refine bfq8 NB0_648.out ?_; refine bfq8 NB0_648.out ?_; refine bfq8 NB0_648.out ?_; refine bfq8 NB0_648.out ?_; refine bfq8 NB0_648.out ?_; refine bfq8 NB0_648.out ?_; refine bfq8 NB0_648.out ?_; refine bfq8 NB0_648.out ?_; refine bfq8 NB0_648.out ?_; refine bfq8 NB0_648.out ?_; refine bfq8 NB0_648.out ?_; refine bfq8 NB0_648.out ?_; exact bpq8 BK0.out), (by refine bfq8 NB50_648.out ?_; refine bfq8 NB50_648.out ?_; refine bfq8 NB50_648.out ?_; refine bfq8 NB50_648.out ?_; refine bfq8 NB50_648.out ?_; refine bfq8 NB50_648.out ?_; refine bfq8 NB50_648.out ?_; refine bfq8 NB50_648.out ?_; refine bfq8 NB50_648.out ?_; refine bfq8 NB50_648.out ?_; refine bfq8 NB50_648.out ?_; refine bfq8 NB50_648.out ?_; refine bfq8 NB50_648.out ?_; exact bpq8 BK50.out), (bbq8 HB.out), (kkq8 HK.out)⟩

end Go.Proofs.Ytobipigioaoaiaa.PDetectCopies
