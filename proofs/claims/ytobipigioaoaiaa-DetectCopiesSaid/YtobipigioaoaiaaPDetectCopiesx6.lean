-- Written by ext.sh (the session's own program, over the kit's printer) out of the translation. Lean checks it.
import Derived.Test.YtobipigioaoaiaaPDetectCopiesx0
import Derived.Test.YtobipigioaoaiaaPDetectCopiesx1
import Derived.Test.YtobipigioaoaiaaPDetectCopiesx2
import Derived.Test.YtobipigioaoaiaaPDetectCopiesx5
namespace Go.Proofs.Ytobipigioaoaiaa.PDetectCopies
open Go.RowKit Go.Proofs.YtobipigioaoaiaaW.PrintWords Go.Proofs.YtobipigioaoaiaaW.PrintLast Go.Proofs.YtobipigioaoaiaaW.PrintMore
attribute [local go_sem] max2_int min2_int max_two min_two max_three min_three max_four min_four   -- for this text's walks alone
set_option linter.unusedVariables false
set_option linter.unusedSimpArgs false
theorem bpq6 {W V : World} {g : Nat} {o : Obj} (h : V.heap[g]? = some o) (e : V.heap[g]? = some o → W.heap[g]? = some o := by (intro h_; (with_reducible repeat (first | exact h_ | refine blk_drewN ?_ _ | refine blk_drew ?_ | refine blk_alloc ?_ _)); first | done | exact h_)) : W.heap[g]? = some o := e h
theorem bfq6 {W V : World} {g b : Nat} {t : TypeId} {cs : Array Value} {i : Nat} {u : Value} (hn : g ≠ b) (h : V.heap[g]? = some (.cells cs t (0, 0))) (e : (V.setCell ⟨b, i, none⟩ u).heap[g]? = some (.cells cs t (0, 0)) → W.heap[g]? = some (.cells cs t (0, 0)) := by (intro h_; (with_reducible repeat (first | exact h_ | refine blk_drewN ?_ _ | refine blk_drew ?_ | refine blk_alloc ?_ _)); first | done | exact h_)) : W.heap[g]? = some (.cells cs t (0, 0)) := e (blk_far h hn u)
theorem bzq6 {W : World} {g : Nat} {t : TypeId} {c : Array Value} (h : ∃ cs, W.heap[g]? = some (.cells cs t (0, 0)) ∧ cs = c) : W.heap[g]? = some (.cells c t (0, 0)) := by obtain ⟨_, h, rfl⟩ := h; exact h
theorem bgq6 {W V : World} {g b : Nat} {t : TypeId} {i : Nat} {u : Value} {P : Array Value → Prop} (hn : g ≠ b) (h : ∃ cs, V.heap[g]? = some (.cells cs t (0, 0)) ∧ P cs) (e : ∀ cs, (V.setCell ⟨b, i, none⟩ u).heap[g]? = some (.cells cs t (0, 0)) → W.heap[g]? = some (.cells cs t (0, 0)) := by (intro cs_ h_; (with_reducible repeat (first | exact h_ | refine blk_drewN ?_ _ | refine blk_drew ?_ | refine blk_alloc ?_ _)); first | done | exact h_)) : ∃ cs, W.heap[g]? = some (.cells cs t (0, 0)) ∧ P cs := by obtain ⟨cs, h, hp⟩ := h; exact ⟨cs, e _ (blk_far h hn u), hp⟩
theorem btq6 {W V : World} {g : Nat} {t : TypeId} {i : Nat} {u : Value} {P : Array Value → Prop} (h : ∃ cs, V.heap[g]? = some (.cells cs t (0, 0)) ∧ P (cs.setIfInBounds i u)) (e : ∀ cs, (V.setCell ⟨g, i, none⟩ u).heap[g]? = some (.cells cs t (0, 0)) → W.heap[g]? = some (.cells cs t (0, 0)) := by (intro cs_ h_; (with_reducible repeat (first | exact h_ | refine blk_drewN ?_ _ | refine blk_drew ?_ | refine blk_alloc ?_ _)); first | done | exact h_)) : ∃ cs, W.heap[g]? = some (.cells cs t (0, 0)) ∧ P cs := by obtain ⟨cs, h, hp⟩ := h; exact ⟨_, e _ (blk_put h i u rfl), hp⟩
theorem kkq6 {w W V : World} {S : Nat → Prop} (h : Kept w V S) (e : Kept w V S → Kept w W S := by (intro h_; (with_reducible repeat (first | exact h_ | apply Kept.alloc | apply Kept.drewN | apply Kept.drew | refine Kept.setCell ?_ (by first | exact .inl (.inr rfl) | exact .inl (.inl (.inr rfl)) | exact .inr (Aside0.out (by assumption))) _)); first | done | exact h_)) : Kept w W S := e h
theorem bbq6 {n : Nat} {w W V : World} (h : Below n w V) (e : Below n w V → Below n w W := by (intro h_; (with_reducible repeat (first | exact h_ | apply below_alloc | apply pw_below_drewN | apply below_drew1 | refine below_set ?_ (Aside0.out (by assumption)))); first | done | exact h_)) : Below n w W := e h
theorem bc3q6 {w : World} {g : Nat} {t : TypeId} {v0 v1 v2 : Value} (h : w.heap[g]? = some (.cells #[v0, v1, v2] t (0, 0))) : w.cell? ⟨g, 0, none⟩ = some v0 ∧ w.cell? ⟨g, 1, none⟩ = some v1 ∧ w.cell? ⟨g, 2, none⟩ = some v2 := ⟨(blk_cell h 0).trans rfl, (blk_cell h 1).trans rfl, (blk_cell h 2).trans rfl⟩
theorem bc13q6 {w : World} {g : Nat} {t : TypeId} {v0 v1 v2 v3 v4 v5 v6 v7 v8 v9 v10 v11 v12 : Value} (h : w.heap[g]? = some (.cells #[v0, v1, v2, v3, v4, v5, v6, v7, v8, v9, v10, v11, v12] t (0, 0))) : w.cell? ⟨g, 0, none⟩ = some v0 ∧ w.cell? ⟨g, 1, none⟩ = some v1 ∧ w.cell? ⟨g, 2, none⟩ = some v2 ∧ w.cell? ⟨g, 3, none⟩ = some v3 ∧ w.cell? ⟨g, 4, none⟩ = some v4 ∧ w.cell? ⟨g, 5, none⟩ = some v5 ∧ w.cell? ⟨g, 6, none⟩ = some v6 ∧ w.cell? ⟨g, 7, none⟩ = some v7 ∧ w.cell? ⟨g, 8, none⟩ = some v8 ∧ w.cell? ⟨g, 9, none⟩ = some v9 ∧ w.cell? ⟨g, 10, none⟩ = some v10 ∧ w.cell? ⟨g, 11, none⟩ = some v11 ∧ w.cell? ⟨g, 12, none⟩ = some v12 := ⟨(blk_cell h 0).trans rfl, (blk_cell h 1).trans rfl, (blk_cell h 2).trans rfl, (blk_cell h 3).trans rfl, (blk_cell h 4).trans rfl, (blk_cell h 5).trans rfl, (blk_cell h 6).trans rfl, (blk_cell h 7).trans rfl, (blk_cell h 8).trans rfl, (blk_cell h 9).trans rfl, (blk_cell h 10).trans rfl, (blk_cell h 11).trans rfl, (blk_cell h 12).trans rfl⟩
theorem bc20q6 {w : World} {g : Nat} {t : TypeId} {v0 v1 v2 v3 v4 v5 v6 v7 v8 v9 v10 v11 v12 v13 v14 v15 v16 v17 v18 v19 : Value} (h : w.heap[g]? = some (.cells #[v0, v1, v2, v3, v4, v5, v6, v7, v8, v9, v10, v11, v12, v13, v14, v15, v16, v17, v18, v19] t (0, 0))) : w.cell? ⟨g, 0, none⟩ = some v0 ∧ w.cell? ⟨g, 1, none⟩ = some v1 ∧ w.cell? ⟨g, 2, none⟩ = some v2 ∧ w.cell? ⟨g, 3, none⟩ = some v3 ∧ w.cell? ⟨g, 4, none⟩ = some v4 ∧ w.cell? ⟨g, 5, none⟩ = some v5 ∧ w.cell? ⟨g, 6, none⟩ = some v6 ∧ w.cell? ⟨g, 7, none⟩ = some v7 ∧ w.cell? ⟨g, 8, none⟩ = some v8 ∧ w.cell? ⟨g, 9, none⟩ = some v9 ∧ w.cell? ⟨g, 10, none⟩ = some v10 ∧ w.cell? ⟨g, 11, none⟩ = some v11 ∧ w.cell? ⟨g, 12, none⟩ = some v12 ∧ w.cell? ⟨g, 13, none⟩ = some v13 ∧ w.cell? ⟨g, 14, none⟩ = some v14 ∧ w.cell? ⟨g, 15, none⟩ = some v15 ∧ w.cell? ⟨g, 16, none⟩ = some v16 ∧ w.cell? ⟨g, 17, none⟩ = some v17 ∧ w.cell? ⟨g, 18, none⟩ = some v18 ∧ w.cell? ⟨g, 19, none⟩ = some v19 := ⟨(blk_cell h 0).trans rfl, (blk_cell h 1).trans rfl, (blk_cell h 2).trans rfl, (blk_cell h 3).trans rfl, (blk_cell h 4).trans rfl, (blk_cell h 5).trans rfl, (blk_cell h 6).trans rfl, (blk_cell h 7).trans rfl, (blk_cell h 8).trans rfl, (blk_cell h 9).trans rfl, (blk_cell h 10).trans rfl, (blk_cell h 11).trans rfl, (blk_cell h 12).trans rfl, (blk_cell h 13).trans rfl, (blk_cell h 14).trans rfl, (blk_cell h 15).trans rfl, (blk_cell h 16).trans rfl, (blk_cell h 17).trans rfl, (blk_cell h 18).trans rfl, (blk_cell h 19).trans rfl⟩

attribute [local go_sem high] eqA31
/-! ### terracelaw15_awake: function 9 -/
def terracelaw15_awake.j0 : Nat → Int → Int → Int → Bool → Int → Bool → Int → Bool → Int → Bool → Int → Bool → Int → Bool → Int → Bool → Int → Bool → Int → Bool → Int → Int → Bool → Int → List Int → Int → Bool → Bool → Option (Bool)
  | 0, _, _, _, _, _, _, _, _, _, _, _, _, _, _, _, _, _, _, _, _, _, _, _, _, _, _, _, _ => none
  | k + 1, x3, x5, x6, x7, x331000, x331001, x331002, x331003, x331004, x331005, x331006, x331007, x331008, x331009, x331010, x331011, x331012, x331013, x331014, x331015, x331017, x331018, x331019, x332000, x332001, x418000, x418001, x418002 => if x3 = 0 then (if (x418000 == 2 && (x418001 && (x418002))) = true then (if x5 = 11 then (if x6 = 10 then (if x7 = true then ((detect_Detect_History.f x331000 x331001 x331002 x331003 x331004 x331005 x331006 x331007 x331008 x331009 x331010 x331011 x331012 x331013 x331014 x331015 x332000 x332001 x331017 x331018 x331019).bind fun _ => ((detect_Detect_History.f x331000 x331001 x331002 x331003 x331004 x331005 x331006 x331007 x331008 x331009 x331010 x331011 x331012 x331013 x331014 x331015 x332000 x332001 x331017 x331018 x331019).bind fun _ => ((history_History_Open.f x332000 x332001).bind fun t448 => (some (t448 == 3))))) else (some false)) else (some false)) else (some false)) else (some false)) else (some false)
def terracelaw15_awake.f (k : Nat)  : Option (Bool) := (detect_New.f).bind fun bt310 => ((detect_Detect_On.f k bt310.1 bt310.2.1 bt310.2.2.1 bt310.2.2.2.1 bt310.2.2.2.2.1 bt310.2.2.2.2.2.1 bt310.2.2.2.2.2.2.1 bt310.2.2.2.2.2.2.2.1 bt310.2.2.2.2.2.2.2.2.1 bt310.2.2.2.2.2.2.2.2.2.1 bt310.2.2.2.2.2.2.2.2.2.2.1 bt310.2.2.2.2.2.2.2.2.2.2.2.1 bt310.2.2.2.2.2.2.2.2.2.2.2.2.1 bt310.2.2.2.2.2.2.2.2.2.2.2.2.2.1 bt310.2.2.2.2.2.2.2.2.2.2.2.2.2.2.1 bt310.2.2.2.2.2.2.2.2.2.2.2.2.2.2.2.1 bt310.2.2.2.2.2.2.2.2.2.2.2.2.2.2.2.2.1 bt310.2.2.2.2.2.2.2.2.2.2.2.2.2.2.2.2.2.1 bt310.2.2.2.2.2.2.2.2.2.2.2.2.2.2.2.2.2.2.1 bt310.2.2.2.2.2.2.2.2.2.2.2.2.2.2.2.2.2.2.2.1 bt310.2.2.2.2.2.2.2.2.2.2.2.2.2.2.2.2.2.2.2.2 0 5 1 10).bind fun bt336 => ((detect_Detect_On.f k bt336.2.2.2.2.1 bt336.2.2.2.2.2.1 bt336.2.2.2.2.2.2.1 bt336.2.2.2.2.2.2.2.1 bt336.2.2.2.2.2.2.2.2.1 bt336.2.2.2.2.2.2.2.2.2.1 bt336.2.2.2.2.2.2.2.2.2.2.1 bt336.2.2.2.2.2.2.2.2.2.2.2.1 bt336.2.2.2.2.2.2.2.2.2.2.2.2.1 bt336.2.2.2.2.2.2.2.2.2.2.2.2.2.1 bt336.2.2.2.2.2.2.2.2.2.2.2.2.2.2.1 bt336.2.2.2.2.2.2.2.2.2.2.2.2.2.2.2.1 bt336.2.2.2.2.2.2.2.2.2.2.2.2.2.2.2.2.1 bt336.2.2.2.2.2.2.2.2.2.2.2.2.2.2.2.2.2.1 bt336.2.2.2.2.2.2.2.2.2.2.2.2.2.2.2.2.2.2.1 bt336.2.2.2.2.2.2.2.2.2.2.2.2.2.2.2.2.2.2.2.1 bt336.2.2.2.2.2.2.2.2.2.2.2.2.2.2.2.2.2.2.2.2.1 bt336.2.2.2.2.2.2.2.2.2.2.2.2.2.2.2.2.2.2.2.2.2.1 bt336.2.2.2.2.2.2.2.2.2.2.2.2.2.2.2.2.2.2.2.2.2.2.1 bt336.2.2.2.2.2.2.2.2.2.2.2.2.2.2.2.2.2.2.2.2.2.2.2.1 bt336.2.2.2.2.2.2.2.2.2.2.2.2.2.2.2.2.2.2.2.2.2.2.2.2 0 6 2 10).bind fun bt363 => ((detect_Detect_On.f k bt363.2.2.2.2.1 bt363.2.2.2.2.2.1 bt363.2.2.2.2.2.2.1 bt363.2.2.2.2.2.2.2.1 bt363.2.2.2.2.2.2.2.2.1 bt363.2.2.2.2.2.2.2.2.2.1 bt363.2.2.2.2.2.2.2.2.2.2.1 bt363.2.2.2.2.2.2.2.2.2.2.2.1 bt363.2.2.2.2.2.2.2.2.2.2.2.2.1 bt363.2.2.2.2.2.2.2.2.2.2.2.2.2.1 bt363.2.2.2.2.2.2.2.2.2.2.2.2.2.2.1 bt363.2.2.2.2.2.2.2.2.2.2.2.2.2.2.2.1 bt363.2.2.2.2.2.2.2.2.2.2.2.2.2.2.2.2.1 bt363.2.2.2.2.2.2.2.2.2.2.2.2.2.2.2.2.2.1 bt363.2.2.2.2.2.2.2.2.2.2.2.2.2.2.2.2.2.2.1 bt363.2.2.2.2.2.2.2.2.2.2.2.2.2.2.2.2.2.2.2.1 bt363.2.2.2.2.2.2.2.2.2.2.2.2.2.2.2.2.2.2.2.2.1 bt363.2.2.2.2.2.2.2.2.2.2.2.2.2.2.2.2.2.2.2.2.2.1 bt363.2.2.2.2.2.2.2.2.2.2.2.2.2.2.2.2.2.2.2.2.2.2.1 bt363.2.2.2.2.2.2.2.2.2.2.2.2.2.2.2.2.2.2.2.2.2.2.2.1 bt363.2.2.2.2.2.2.2.2.2.2.2.2.2.2.2.2.2.2.2.2.2.2.2.2 0 9 3 10).bind fun bt390 => ((detect_Detect_On.f k bt390.2.2.2.2.1 bt390.2.2.2.2.2.1 bt390.2.2.2.2.2.2.1 bt390.2.2.2.2.2.2.2.1 bt390.2.2.2.2.2.2.2.2.1 bt390.2.2.2.2.2.2.2.2.2.1 bt390.2.2.2.2.2.2.2.2.2.2.1 bt390.2.2.2.2.2.2.2.2.2.2.2.1 bt390.2.2.2.2.2.2.2.2.2.2.2.2.1 bt390.2.2.2.2.2.2.2.2.2.2.2.2.2.1 bt390.2.2.2.2.2.2.2.2.2.2.2.2.2.2.1 bt390.2.2.2.2.2.2.2.2.2.2.2.2.2.2.2.1 bt390.2.2.2.2.2.2.2.2.2.2.2.2.2.2.2.2.1 bt390.2.2.2.2.2.2.2.2.2.2.2.2.2.2.2.2.2.1 bt390.2.2.2.2.2.2.2.2.2.2.2.2.2.2.2.2.2.2.1 bt390.2.2.2.2.2.2.2.2.2.2.2.2.2.2.2.2.2.2.2.1 bt390.2.2.2.2.2.2.2.2.2.2.2.2.2.2.2.2.2.2.2.2.1 bt390.2.2.2.2.2.2.2.2.2.2.2.2.2.2.2.2.2.2.2.2.2.1 bt390.2.2.2.2.2.2.2.2.2.2.2.2.2.2.2.2.2.2.2.2.2.2.1 bt390.2.2.2.2.2.2.2.2.2.2.2.2.2.2.2.2.2.2.2.2.2.2.2.1 bt390.2.2.2.2.2.2.2.2.2.2.2.2.2.2.2.2.2.2.2.2.2.2.2.2 8 1 3 10).bind fun bt418 => ((detect_Detect_Expects.f bt418.2.2.2.2.1 bt418.2.2.2.2.2.1 bt418.2.2.2.2.2.2.1 bt418.2.2.2.2.2.2.2.1 bt418.2.2.2.2.2.2.2.2.1 bt418.2.2.2.2.2.2.2.2.2.1 bt418.2.2.2.2.2.2.2.2.2.2.1 bt418.2.2.2.2.2.2.2.2.2.2.2.1 bt418.2.2.2.2.2.2.2.2.2.2.2.2.1 bt418.2.2.2.2.2.2.2.2.2.2.2.2.2.1 bt418.2.2.2.2.2.2.2.2.2.2.2.2.2.2.1 bt418.2.2.2.2.2.2.2.2.2.2.2.2.2.2.2.1 bt418.2.2.2.2.2.2.2.2.2.2.2.2.2.2.2.2.1 bt418.2.2.2.2.2.2.2.2.2.2.2.2.2.2.2.2.2.1 bt418.2.2.2.2.2.2.2.2.2.2.2.2.2.2.2.2.2.2.1 bt418.2.2.2.2.2.2.2.2.2.2.2.2.2.2.2.2.2.2.2.1 bt418.2.2.2.2.2.2.2.2.2.2.2.2.2.2.2.2.2.2.2.2.1 bt418.2.2.2.2.2.2.2.2.2.2.2.2.2.2.2.2.2.2.2.2.2.1 bt418.2.2.2.2.2.2.2.2.2.2.2.2.2.2.2.2.2.2.2.2.2.2.1 bt418.2.2.2.2.2.2.2.2.2.2.2.2.2.2.2.2.2.2.2.2.2.2.2.1 bt418.2.2.2.2.2.2.2.2.2.2.2.2.2.2.2.2.2.2.2.2.2.2.2.2 0).bind fun bt446 => (terracelaw15_awake.j0 k bt390.2.2.2.1 bt418.2.2.2.1 bt446.1 bt446.2 bt418.2.2.2.2.1 bt418.2.2.2.2.2.1 bt418.2.2.2.2.2.2.1 bt418.2.2.2.2.2.2.2.1 bt418.2.2.2.2.2.2.2.2.1 bt418.2.2.2.2.2.2.2.2.2.1 bt418.2.2.2.2.2.2.2.2.2.2.1 bt418.2.2.2.2.2.2.2.2.2.2.2.1 bt418.2.2.2.2.2.2.2.2.2.2.2.2.1 bt418.2.2.2.2.2.2.2.2.2.2.2.2.2.1 bt418.2.2.2.2.2.2.2.2.2.2.2.2.2.2.1 bt418.2.2.2.2.2.2.2.2.2.2.2.2.2.2.2.1 bt418.2.2.2.2.2.2.2.2.2.2.2.2.2.2.2.2.1 bt418.2.2.2.2.2.2.2.2.2.2.2.2.2.2.2.2.2.1 bt418.2.2.2.2.2.2.2.2.2.2.2.2.2.2.2.2.2.2.1 bt418.2.2.2.2.2.2.2.2.2.2.2.2.2.2.2.2.2.2.2.1 bt418.2.2.2.2.2.2.2.2.2.2.2.2.2.2.2.2.2.2.2.2.2.2.1 bt418.2.2.2.2.2.2.2.2.2.2.2.2.2.2.2.2.2.2.2.2.2.2.2.1 bt418.2.2.2.2.2.2.2.2.2.2.2.2.2.2.2.2.2.2.2.2.2.2.2.2 bt418.2.2.2.2.2.2.2.2.2.2.2.2.2.2.2.2.2.2.2.2.1 bt418.2.2.2.2.2.2.2.2.2.2.2.2.2.2.2.2.2.2.2.2.2.1 bt390.1 bt390.2.1 bt390.2.2.1))))))
theorem terracelaw15_awake.mono_l : ∀ k, (∀ y0 y1 y2 y3 y4 y5 y6 y7 y8 y9 y10 y11 y12 y13 y14 y15 y16 y17 y18 y19 y20 y21 y22 y23 y24 y25 y26 y27, LeO (terracelaw15_awake.j0 k y0 y1 y2 y3 y4 y5 y6 y7 y8 y9 y10 y11 y12 y13 y14 y15 y16 y17 y18 y19 y20 y21 y22 y23 y24 y25 y26 y27) (terracelaw15_awake.j0 (k + 1) y0 y1 y2 y3 y4 y5 y6 y7 y8 y9 y10 y11 y12 y13 y14 y15 y16 y17 y18 y19 y20 y21 y22 y23 y24 y25 y26 y27))
  | 0 => fun _ _ _ _ _ _ _ _ _ _ _ _ _ _ _ _ _ _ _ _ _ _ _ _ _ _ _ _ r h => by simp [terracelaw15_awake.j0] at h
  | k + 1 => by
    have ih0 := terracelaw15_awake.mono_l k
    · intro y0 y1 y2 y3 y4 y5 y6 y7 y8 y9 y10 y11 y12 y13 y14 y15 y16 y17 y18 y19 y20 y21 y22 y23 y24 y25 y26 y27
      unfold terracelaw15_awake.j0
      repeat' first
      | (with_reducible exact ih0 _ _ _ _ _ _ _ _ _ _ _ _ _ _ _ _ _ _ _ _ _ _ _ _ _ _ _ _)
      | (with_reducible exact detect_Detect_On.mono _ _ _ _ _ _ _ _ _ _ _ _ _ _ _ _ _ _ _ _ _ _ _ _ _ _)
      | (with_reducible exact LeO.refl _)
      | (with_reducible exact LeO.none _)
      | (with_reducible refine LeO.ite ?_ ?_)
      | (with_reducible refine LeO.bind ?_ (fun _ => ?_))
      | exact ih0 _ _ _ _ _ _ _ _ _ _ _ _ _ _ _ _ _ _ _ _ _ _ _ _ _ _ _ _
      | exact detect_Detect_On.mono _ _ _ _ _ _ _ _ _ _ _ _ _ _ _ _ _ _ _ _ _ _ _ _ _ _
      | exact LeO.none _
      | refine LeO.ite ?_ ?_
      | refine LeO.bind ?_ (fun _ => ?_)
theorem terracelaw15_awake.mono : ∀ k, LeO (terracelaw15_awake.f k ) (terracelaw15_awake.f (k + 1) ) := by
  intro  k
  have ih0 := terracelaw15_awake.mono_l k
  unfold terracelaw15_awake.f
  repeat' first
      | (with_reducible exact ih0 _ _ _ _ _ _ _ _ _ _ _ _ _ _ _ _ _ _ _ _ _ _ _ _ _ _ _ _)
      | (with_reducible exact detect_Detect_On.mono _ _ _ _ _ _ _ _ _ _ _ _ _ _ _ _ _ _ _ _ _ _ _ _ _ _)
      | (with_reducible exact LeO.refl _)
      | (with_reducible exact LeO.none _)
      | (with_reducible refine LeO.ite ?_ ?_)
      | (with_reducible refine LeO.bind ?_ (fun _ => ?_))
      | exact ih0 _ _ _ _ _ _ _ _ _ _ _ _ _ _ _ _ _ _ _ _ _ _ _ _ _ _ _ _
      | exact detect_Detect_On.mono _ _ _ _ _ _ _ _ _ _ _ _ _ _ _ _ _ _ _ _ _ _ _ _ _ _
      | exact LeO.none _
      | refine LeO.ite ?_ ?_
      | refine LeO.bind ?_ (fun _ => ?_)
set_option maxHeartbeats 8000000 in
set_option maxRecDepth 100000 in
theorem terracelaw15_awake.calls (k : Nat)  (r : Bool) (w : World) (h : terracelaw15_awake.f k  = some r) :
    Calls Try.prog 9 #[] w fun e w' => e = .returned (.bool r) ∧ Below w.heap.size w w' := by
  have hu31 := Try.underlying31
  have hup23 := Try.underlying23
  have hup48 := Try.underlying48
  have HB := Aside0.mk (Below.refl w.heap.size w)
  have H : ((detect_New.f).bind fun bt310 => ((detect_Detect_On.f k bt310.1 bt310.2.1 bt310.2.2.1 bt310.2.2.2.1 bt310.2.2.2.2.1 bt310.2.2.2.2.2.1 bt310.2.2.2.2.2.2.1 bt310.2.2.2.2.2.2.2.1 bt310.2.2.2.2.2.2.2.2.1 bt310.2.2.2.2.2.2.2.2.2.1 bt310.2.2.2.2.2.2.2.2.2.2.1 bt310.2.2.2.2.2.2.2.2.2.2.2.1 bt310.2.2.2.2.2.2.2.2.2.2.2.2.1 bt310.2.2.2.2.2.2.2.2.2.2.2.2.2.1 bt310.2.2.2.2.2.2.2.2.2.2.2.2.2.2.1 bt310.2.2.2.2.2.2.2.2.2.2.2.2.2.2.2.1 bt310.2.2.2.2.2.2.2.2.2.2.2.2.2.2.2.2.1 bt310.2.2.2.2.2.2.2.2.2.2.2.2.2.2.2.2.2.1 bt310.2.2.2.2.2.2.2.2.2.2.2.2.2.2.2.2.2.2.1 bt310.2.2.2.2.2.2.2.2.2.2.2.2.2.2.2.2.2.2.2.1 bt310.2.2.2.2.2.2.2.2.2.2.2.2.2.2.2.2.2.2.2.2 0 5 1 10).bind fun bt336 => ((detect_Detect_On.f k bt336.2.2.2.2.1 bt336.2.2.2.2.2.1 bt336.2.2.2.2.2.2.1 bt336.2.2.2.2.2.2.2.1 bt336.2.2.2.2.2.2.2.2.1 bt336.2.2.2.2.2.2.2.2.2.1 bt336.2.2.2.2.2.2.2.2.2.2.1 bt336.2.2.2.2.2.2.2.2.2.2.2.1 bt336.2.2.2.2.2.2.2.2.2.2.2.2.1 bt336.2.2.2.2.2.2.2.2.2.2.2.2.2.1 bt336.2.2.2.2.2.2.2.2.2.2.2.2.2.2.1 bt336.2.2.2.2.2.2.2.2.2.2.2.2.2.2.2.1 bt336.2.2.2.2.2.2.2.2.2.2.2.2.2.2.2.2.1 bt336.2.2.2.2.2.2.2.2.2.2.2.2.2.2.2.2.2.1 bt336.2.2.2.2.2.2.2.2.2.2.2.2.2.2.2.2.2.2.1 bt336.2.2.2.2.2.2.2.2.2.2.2.2.2.2.2.2.2.2.2.1 bt336.2.2.2.2.2.2.2.2.2.2.2.2.2.2.2.2.2.2.2.2.1 bt336.2.2.2.2.2.2.2.2.2.2.2.2.2.2.2.2.2.2.2.2.2.1 bt336.2.2.2.2.2.2.2.2.2.2.2.2.2.2.2.2.2.2.2.2.2.2.1 bt336.2.2.2.2.2.2.2.2.2.2.2.2.2.2.2.2.2.2.2.2.2.2.2.1 bt336.2.2.2.2.2.2.2.2.2.2.2.2.2.2.2.2.2.2.2.2.2.2.2.2 0 6 2 10).bind fun bt363 => ((detect_Detect_On.f k bt363.2.2.2.2.1 bt363.2.2.2.2.2.1 bt363.2.2.2.2.2.2.1 bt363.2.2.2.2.2.2.2.1 bt363.2.2.2.2.2.2.2.2.1 bt363.2.2.2.2.2.2.2.2.2.1 bt363.2.2.2.2.2.2.2.2.2.2.1 bt363.2.2.2.2.2.2.2.2.2.2.2.1 bt363.2.2.2.2.2.2.2.2.2.2.2.2.1 bt363.2.2.2.2.2.2.2.2.2.2.2.2.2.1 bt363.2.2.2.2.2.2.2.2.2.2.2.2.2.2.1 bt363.2.2.2.2.2.2.2.2.2.2.2.2.2.2.2.1 bt363.2.2.2.2.2.2.2.2.2.2.2.2.2.2.2.2.1 bt363.2.2.2.2.2.2.2.2.2.2.2.2.2.2.2.2.2.1 bt363.2.2.2.2.2.2.2.2.2.2.2.2.2.2.2.2.2.2.1 bt363.2.2.2.2.2.2.2.2.2.2.2.2.2.2.2.2.2.2.2.1 bt363.2.2.2.2.2.2.2.2.2.2.2.2.2.2.2.2.2.2.2.2.1 bt363.2.2.2.2.2.2.2.2.2.2.2.2.2.2.2.2.2.2.2.2.2.1 bt363.2.2.2.2.2.2.2.2.2.2.2.2.2.2.2.2.2.2.2.2.2.2.1 bt363.2.2.2.2.2.2.2.2.2.2.2.2.2.2.2.2.2.2.2.2.2.2.2.1 bt363.2.2.2.2.2.2.2.2.2.2.2.2.2.2.2.2.2.2.2.2.2.2.2.2 0 9 3 10).bind fun bt390 => ((detect_Detect_On.f k bt390.2.2.2.2.1 bt390.2.2.2.2.2.1 bt390.2.2.2.2.2.2.1 bt390.2.2.2.2.2.2.2.1 bt390.2.2.2.2.2.2.2.2.1 bt390.2.2.2.2.2.2.2.2.2.1 bt390.2.2.2.2.2.2.2.2.2.2.1 bt390.2.2.2.2.2.2.2.2.2.2.2.1 bt390.2.2.2.2.2.2.2.2.2.2.2.2.1 bt390.2.2.2.2.2.2.2.2.2.2.2.2.2.1 bt390.2.2.2.2.2.2.2.2.2.2.2.2.2.2.1 bt390.2.2.2.2.2.2.2.2.2.2.2.2.2.2.2.1 bt390.2.2.2.2.2.2.2.2.2.2.2.2.2.2.2.2.1 bt390.2.2.2.2.2.2.2.2.2.2.2.2.2.2.2.2.2.1 bt390.2.2.2.2.2.2.2.2.2.2.2.2.2.2.2.2.2.2.1 bt390.2.2.2.2.2.2.2.2.2.2.2.2.2.2.2.2.2.2.2.1 bt390.2.2.2.2.2.2.2.2.2.2.2.2.2.2.2.2.2.2.2.2.1 bt390.2.2.2.2.2.2.2.2.2.2.2.2.2.2.2.2.2.2.2.2.2.1 bt390.2.2.2.2.2.2.2.2.2.2.2.2.2.2.2.2.2.2.2.2.2.2.1 bt390.2.2.2.2.2.2.2.2.2.2.2.2.2.2.2.2.2.2.2.2.2.2.2.1 bt390.2.2.2.2.2.2.2.2.2.2.2.2.2.2.2.2.2.2.2.2.2.2.2.2 8 1 3 10).bind fun bt418 => ((detect_Detect_Expects.f bt418.2.2.2.2.1 bt418.2.2.2.2.2.1 bt418.2.2.2.2.2.2.1 bt418.2.2.2.2.2.2.2.1 bt418.2.2.2.2.2.2.2.2.1 bt418.2.2.2.2.2.2.2.2.2.1 bt418.2.2.2.2.2.2.2.2.2.2.1 bt418.2.2.2.2.2.2.2.2.2.2.2.1 bt418.2.2.2.2.2.2.2.2.2.2.2.2.1 bt418.2.2.2.2.2.2.2.2.2.2.2.2.2.1 bt418.2.2.2.2.2.2.2.2.2.2.2.2.2.2.1 bt418.2.2.2.2.2.2.2.2.2.2.2.2.2.2.2.1 bt418.2.2.2.2.2.2.2.2.2.2.2.2.2.2.2.2.1 bt418.2.2.2.2.2.2.2.2.2.2.2.2.2.2.2.2.2.1 bt418.2.2.2.2.2.2.2.2.2.2.2.2.2.2.2.2.2.2.1 bt418.2.2.2.2.2.2.2.2.2.2.2.2.2.2.2.2.2.2.2.1 bt418.2.2.2.2.2.2.2.2.2.2.2.2.2.2.2.2.2.2.2.2.1 bt418.2.2.2.2.2.2.2.2.2.2.2.2.2.2.2.2.2.2.2.2.2.1 bt418.2.2.2.2.2.2.2.2.2.2.2.2.2.2.2.2.2.2.2.2.2.2.1 bt418.2.2.2.2.2.2.2.2.2.2.2.2.2.2.2.2.2.2.2.2.2.2.2.1 bt418.2.2.2.2.2.2.2.2.2.2.2.2.2.2.2.2.2.2.2.2.2.2.2.2 0).bind fun bt446 => (terracelaw15_awake.j0 k bt390.2.2.2.1 bt418.2.2.2.1 bt446.1 bt446.2 bt418.2.2.2.2.1 bt418.2.2.2.2.2.1 bt418.2.2.2.2.2.2.1 bt418.2.2.2.2.2.2.2.1 bt418.2.2.2.2.2.2.2.2.1 bt418.2.2.2.2.2.2.2.2.2.1 bt418.2.2.2.2.2.2.2.2.2.2.1 bt418.2.2.2.2.2.2.2.2.2.2.2.1 bt418.2.2.2.2.2.2.2.2.2.2.2.2.1 bt418.2.2.2.2.2.2.2.2.2.2.2.2.2.1 bt418.2.2.2.2.2.2.2.2.2.2.2.2.2.2.1 bt418.2.2.2.2.2.2.2.2.2.2.2.2.2.2.2.1 bt418.2.2.2.2.2.2.2.2.2.2.2.2.2.2.2.2.1 bt418.2.2.2.2.2.2.2.2.2.2.2.2.2.2.2.2.2.1 bt418.2.2.2.2.2.2.2.2.2.2.2.2.2.2.2.2.2.2.1 bt418.2.2.2.2.2.2.2.2.2.2.2.2.2.2.2.2.2.2.2.1 bt418.2.2.2.2.2.2.2.2.2.2.2.2.2.2.2.2.2.2.2.2.2.2.1 bt418.2.2.2.2.2.2.2.2.2.2.2.2.2.2.2.2.2.2.2.2.2.2.2.1 bt418.2.2.2.2.2.2.2.2.2.2.2.2.2.2.2.2.2.2.2.2.2.2.2.2 bt418.2.2.2.2.2.2.2.2.2.2.2.2.2.2.2.2.2.2.2.2.1 bt418.2.2.2.2.2.2.2.2.2.2.2.2.2.2.2.2.2.2.2.2.2.1 bt390.1 bt390.2.1 bt390.2.2.1))))))) = some r := h
  clear h
  replace H := Option.bind_eq_some_iff.mp H
  obtain ⟨⟨t310, t311, t312, t313, t314, t315, t316, t317, t318, t319, t320, t321, t322, t323, t324, t325, t332, t333, t327, t328, t329⟩, A10, H⟩ := H
  replace H : ((detect_Detect_On.f k t310 t311 t312 t313 t314 t315 t316 t317 t318 t319 t320 t321 t322 t323 t324 t325 t332 t333 t327 t328 t329 0 5 1 10).bind fun bt336 => ((detect_Detect_On.f k bt336.2.2.2.2.1 bt336.2.2.2.2.2.1 bt336.2.2.2.2.2.2.1 bt336.2.2.2.2.2.2.2.1 bt336.2.2.2.2.2.2.2.2.1 bt336.2.2.2.2.2.2.2.2.2.1 bt336.2.2.2.2.2.2.2.2.2.2.1 bt336.2.2.2.2.2.2.2.2.2.2.2.1 bt336.2.2.2.2.2.2.2.2.2.2.2.2.1 bt336.2.2.2.2.2.2.2.2.2.2.2.2.2.1 bt336.2.2.2.2.2.2.2.2.2.2.2.2.2.2.1 bt336.2.2.2.2.2.2.2.2.2.2.2.2.2.2.2.1 bt336.2.2.2.2.2.2.2.2.2.2.2.2.2.2.2.2.1 bt336.2.2.2.2.2.2.2.2.2.2.2.2.2.2.2.2.2.1 bt336.2.2.2.2.2.2.2.2.2.2.2.2.2.2.2.2.2.2.1 bt336.2.2.2.2.2.2.2.2.2.2.2.2.2.2.2.2.2.2.2.1 bt336.2.2.2.2.2.2.2.2.2.2.2.2.2.2.2.2.2.2.2.2.1 bt336.2.2.2.2.2.2.2.2.2.2.2.2.2.2.2.2.2.2.2.2.2.1 bt336.2.2.2.2.2.2.2.2.2.2.2.2.2.2.2.2.2.2.2.2.2.2.1 bt336.2.2.2.2.2.2.2.2.2.2.2.2.2.2.2.2.2.2.2.2.2.2.2.1 bt336.2.2.2.2.2.2.2.2.2.2.2.2.2.2.2.2.2.2.2.2.2.2.2.2 0 6 2 10).bind fun bt363 => ((detect_Detect_On.f k bt363.2.2.2.2.1 bt363.2.2.2.2.2.1 bt363.2.2.2.2.2.2.1 bt363.2.2.2.2.2.2.2.1 bt363.2.2.2.2.2.2.2.2.1 bt363.2.2.2.2.2.2.2.2.2.1 bt363.2.2.2.2.2.2.2.2.2.2.1 bt363.2.2.2.2.2.2.2.2.2.2.2.1 bt363.2.2.2.2.2.2.2.2.2.2.2.2.1 bt363.2.2.2.2.2.2.2.2.2.2.2.2.2.1 bt363.2.2.2.2.2.2.2.2.2.2.2.2.2.2.1 bt363.2.2.2.2.2.2.2.2.2.2.2.2.2.2.2.1 bt363.2.2.2.2.2.2.2.2.2.2.2.2.2.2.2.2.1 bt363.2.2.2.2.2.2.2.2.2.2.2.2.2.2.2.2.2.1 bt363.2.2.2.2.2.2.2.2.2.2.2.2.2.2.2.2.2.2.1 bt363.2.2.2.2.2.2.2.2.2.2.2.2.2.2.2.2.2.2.2.1 bt363.2.2.2.2.2.2.2.2.2.2.2.2.2.2.2.2.2.2.2.2.1 bt363.2.2.2.2.2.2.2.2.2.2.2.2.2.2.2.2.2.2.2.2.2.1 bt363.2.2.2.2.2.2.2.2.2.2.2.2.2.2.2.2.2.2.2.2.2.2.1 bt363.2.2.2.2.2.2.2.2.2.2.2.2.2.2.2.2.2.2.2.2.2.2.2.1 bt363.2.2.2.2.2.2.2.2.2.2.2.2.2.2.2.2.2.2.2.2.2.2.2.2 0 9 3 10).bind fun bt390 => ((detect_Detect_On.f k bt390.2.2.2.2.1 bt390.2.2.2.2.2.1 bt390.2.2.2.2.2.2.1 bt390.2.2.2.2.2.2.2.1 bt390.2.2.2.2.2.2.2.2.1 bt390.2.2.2.2.2.2.2.2.2.1 bt390.2.2.2.2.2.2.2.2.2.2.1 bt390.2.2.2.2.2.2.2.2.2.2.2.1 bt390.2.2.2.2.2.2.2.2.2.2.2.2.1 bt390.2.2.2.2.2.2.2.2.2.2.2.2.2.1 bt390.2.2.2.2.2.2.2.2.2.2.2.2.2.2.1 bt390.2.2.2.2.2.2.2.2.2.2.2.2.2.2.2.1 bt390.2.2.2.2.2.2.2.2.2.2.2.2.2.2.2.2.1 bt390.2.2.2.2.2.2.2.2.2.2.2.2.2.2.2.2.2.1 bt390.2.2.2.2.2.2.2.2.2.2.2.2.2.2.2.2.2.2.1 bt390.2.2.2.2.2.2.2.2.2.2.2.2.2.2.2.2.2.2.2.1 bt390.2.2.2.2.2.2.2.2.2.2.2.2.2.2.2.2.2.2.2.2.1 bt390.2.2.2.2.2.2.2.2.2.2.2.2.2.2.2.2.2.2.2.2.2.1 bt390.2.2.2.2.2.2.2.2.2.2.2.2.2.2.2.2.2.2.2.2.2.2.1 bt390.2.2.2.2.2.2.2.2.2.2.2.2.2.2.2.2.2.2.2.2.2.2.2.1 bt390.2.2.2.2.2.2.2.2.2.2.2.2.2.2.2.2.2.2.2.2.2.2.2.2 8 1 3 10).bind fun bt418 => ((detect_Detect_Expects.f bt418.2.2.2.2.1 bt418.2.2.2.2.2.1 bt418.2.2.2.2.2.2.1 bt418.2.2.2.2.2.2.2.1 bt418.2.2.2.2.2.2.2.2.1 bt418.2.2.2.2.2.2.2.2.2.1 bt418.2.2.2.2.2.2.2.2.2.2.1 bt418.2.2.2.2.2.2.2.2.2.2.2.1 bt418.2.2.2.2.2.2.2.2.2.2.2.2.1 bt418.2.2.2.2.2.2.2.2.2.2.2.2.2.1 bt418.2.2.2.2.2.2.2.2.2.2.2.2.2.2.1 bt418.2.2.2.2.2.2.2.2.2.2.2.2.2.2.2.1 bt418.2.2.2.2.2.2.2.2.2.2.2.2.2.2.2.2.1 bt418.2.2.2.2.2.2.2.2.2.2.2.2.2.2.2.2.2.1 bt418.2.2.2.2.2.2.2.2.2.2.2.2.2.2.2.2.2.2.1 bt418.2.2.2.2.2.2.2.2.2.2.2.2.2.2.2.2.2.2.2.1 bt418.2.2.2.2.2.2.2.2.2.2.2.2.2.2.2.2.2.2.2.2.1 bt418.2.2.2.2.2.2.2.2.2.2.2.2.2.2.2.2.2.2.2.2.2.1 bt418.2.2.2.2.2.2.2.2.2.2.2.2.2.2.2.2.2.2.2.2.2.2.1 bt418.2.2.2.2.2.2.2.2.2.2.2.2.2.2.2.2.2.2.2.2.2.2.2.1 bt418.2.2.2.2.2.2.2.2.2.2.2.2.2.2.2.2.2.2.2.2.2.2.2.2 0).bind fun bt446 => (terracelaw15_awake.j0 k bt390.2.2.2.1 bt418.2.2.2.1 bt446.1 bt446.2 bt418.2.2.2.2.1 bt418.2.2.2.2.2.1 bt418.2.2.2.2.2.2.1 bt418.2.2.2.2.2.2.2.1 bt418.2.2.2.2.2.2.2.2.1 bt418.2.2.2.2.2.2.2.2.2.1 bt418.2.2.2.2.2.2.2.2.2.2.1 bt418.2.2.2.2.2.2.2.2.2.2.2.1 bt418.2.2.2.2.2.2.2.2.2.2.2.2.1 bt418.2.2.2.2.2.2.2.2.2.2.2.2.2.1 bt418.2.2.2.2.2.2.2.2.2.2.2.2.2.2.1 bt418.2.2.2.2.2.2.2.2.2.2.2.2.2.2.2.1 bt418.2.2.2.2.2.2.2.2.2.2.2.2.2.2.2.2.1 bt418.2.2.2.2.2.2.2.2.2.2.2.2.2.2.2.2.2.1 bt418.2.2.2.2.2.2.2.2.2.2.2.2.2.2.2.2.2.2.1 bt418.2.2.2.2.2.2.2.2.2.2.2.2.2.2.2.2.2.2.2.1 bt418.2.2.2.2.2.2.2.2.2.2.2.2.2.2.2.2.2.2.2.2.2.2.1 bt418.2.2.2.2.2.2.2.2.2.2.2.2.2.2.2.2.2.2.2.2.2.2.2.1 bt418.2.2.2.2.2.2.2.2.2.2.2.2.2.2.2.2.2.2.2.2.2.2.2.2 bt418.2.2.2.2.2.2.2.2.2.2.2.2.2.2.2.2.2.2.2.2.1 bt418.2.2.2.2.2.2.2.2.2.2.2.2.2.2.2.2.2.2.2.2.2.1 bt390.1 bt390.2.1 bt390.2.2.1)))))) = some r := H
  have A1 := Aside0.mk A10
  clear A10
  replace H := Option.bind_eq_some_iff.mp H
  obtain ⟨⟨t336, t337, t338, t339, t340, t341, t342, t343, t344, t345, t346, t347, t348, t349, t350, t351, t352, t353, t354, t355, t356, t357, t360, t361, t362⟩, A20, H⟩ := H
  replace H : ((detect_Detect_On.f k t340 t341 t342 t343 t344 t345 t346 t347 t348 t349 t350 t351 t352 t353 t354 t355 t356 t357 t360 t361 t362 0 6 2 10).bind fun bt363 => ((detect_Detect_On.f k bt363.2.2.2.2.1 bt363.2.2.2.2.2.1 bt363.2.2.2.2.2.2.1 bt363.2.2.2.2.2.2.2.1 bt363.2.2.2.2.2.2.2.2.1 bt363.2.2.2.2.2.2.2.2.2.1 bt363.2.2.2.2.2.2.2.2.2.2.1 bt363.2.2.2.2.2.2.2.2.2.2.2.1 bt363.2.2.2.2.2.2.2.2.2.2.2.2.1 bt363.2.2.2.2.2.2.2.2.2.2.2.2.2.1 bt363.2.2.2.2.2.2.2.2.2.2.2.2.2.2.1 bt363.2.2.2.2.2.2.2.2.2.2.2.2.2.2.2.1 bt363.2.2.2.2.2.2.2.2.2.2.2.2.2.2.2.2.1 bt363.2.2.2.2.2.2.2.2.2.2.2.2.2.2.2.2.2.1 bt363.2.2.2.2.2.2.2.2.2.2.2.2.2.2.2.2.2.2.1 bt363.2.2.2.2.2.2.2.2.2.2.2.2.2.2.2.2.2.2.2.1 bt363.2.2.2.2.2.2.2.2.2.2.2.2.2.2.2.2.2.2.2.2.1 bt363.2.2.2.2.2.2.2.2.2.2.2.2.2.2.2.2.2.2.2.2.2.1 bt363.2.2.2.2.2.2.2.2.2.2.2.2.2.2.2.2.2.2.2.2.2.2.1 bt363.2.2.2.2.2.2.2.2.2.2.2.2.2.2.2.2.2.2.2.2.2.2.2.1 bt363.2.2.2.2.2.2.2.2.2.2.2.2.2.2.2.2.2.2.2.2.2.2.2.2 0 9 3 10).bind fun bt390 => ((detect_Detect_On.f k bt390.2.2.2.2.1 bt390.2.2.2.2.2.1 bt390.2.2.2.2.2.2.1 bt390.2.2.2.2.2.2.2.1 bt390.2.2.2.2.2.2.2.2.1 bt390.2.2.2.2.2.2.2.2.2.1 bt390.2.2.2.2.2.2.2.2.2.2.1 bt390.2.2.2.2.2.2.2.2.2.2.2.1 bt390.2.2.2.2.2.2.2.2.2.2.2.2.1 bt390.2.2.2.2.2.2.2.2.2.2.2.2.2.1 bt390.2.2.2.2.2.2.2.2.2.2.2.2.2.2.1 bt390.2.2.2.2.2.2.2.2.2.2.2.2.2.2.2.1 bt390.2.2.2.2.2.2.2.2.2.2.2.2.2.2.2.2.1 bt390.2.2.2.2.2.2.2.2.2.2.2.2.2.2.2.2.2.1 bt390.2.2.2.2.2.2.2.2.2.2.2.2.2.2.2.2.2.2.1 bt390.2.2.2.2.2.2.2.2.2.2.2.2.2.2.2.2.2.2.2.1 bt390.2.2.2.2.2.2.2.2.2.2.2.2.2.2.2.2.2.2.2.2.1 bt390.2.2.2.2.2.2.2.2.2.2.2.2.2.2.2.2.2.2.2.2.2.1 bt390.2.2.2.2.2.2.2.2.2.2.2.2.2.2.2.2.2.2.2.2.2.2.1 bt390.2.2.2.2.2.2.2.2.2.2.2.2.2.2.2.2.2.2.2.2.2.2.2.1 bt390.2.2.2.2.2.2.2.2.2.2.2.2.2.2.2.2.2.2.2.2.2.2.2.2 8 1 3 10).bind fun bt418 => ((detect_Detect_Expects.f bt418.2.2.2.2.1 bt418.2.2.2.2.2.1 bt418.2.2.2.2.2.2.1 bt418.2.2.2.2.2.2.2.1 bt418.2.2.2.2.2.2.2.2.1 bt418.2.2.2.2.2.2.2.2.2.1 bt418.2.2.2.2.2.2.2.2.2.2.1 bt418.2.2.2.2.2.2.2.2.2.2.2.1 bt418.2.2.2.2.2.2.2.2.2.2.2.2.1 bt418.2.2.2.2.2.2.2.2.2.2.2.2.2.1 bt418.2.2.2.2.2.2.2.2.2.2.2.2.2.2.1 bt418.2.2.2.2.2.2.2.2.2.2.2.2.2.2.2.1 bt418.2.2.2.2.2.2.2.2.2.2.2.2.2.2.2.2.1 bt418.2.2.2.2.2.2.2.2.2.2.2.2.2.2.2.2.2.1 bt418.2.2.2.2.2.2.2.2.2.2.2.2.2.2.2.2.2.2.1 bt418.2.2.2.2.2.2.2.2.2.2.2.2.2.2.2.2.2.2.2.1 bt418.2.2.2.2.2.2.2.2.2.2.2.2.2.2.2.2.2.2.2.2.1 bt418.2.2.2.2.2.2.2.2.2.2.2.2.2.2.2.2.2.2.2.2.2.1 bt418.2.2.2.2.2.2.2.2.2.2.2.2.2.2.2.2.2.2.2.2.2.2.1 bt418.2.2.2.2.2.2.2.2.2.2.2.2.2.2.2.2.2.2.2.2.2.2.2.1 bt418.2.2.2.2.2.2.2.2.2.2.2.2.2.2.2.2.2.2.2.2.2.2.2.2 0).bind fun bt446 => (terracelaw15_awake.j0 k bt390.2.2.2.1 bt418.2.2.2.1 bt446.1 bt446.2 bt418.2.2.2.2.1 bt418.2.2.2.2.2.1 bt418.2.2.2.2.2.2.1 bt418.2.2.2.2.2.2.2.1 bt418.2.2.2.2.2.2.2.2.1 bt418.2.2.2.2.2.2.2.2.2.1 bt418.2.2.2.2.2.2.2.2.2.2.1 bt418.2.2.2.2.2.2.2.2.2.2.2.1 bt418.2.2.2.2.2.2.2.2.2.2.2.2.1 bt418.2.2.2.2.2.2.2.2.2.2.2.2.2.1 bt418.2.2.2.2.2.2.2.2.2.2.2.2.2.2.1 bt418.2.2.2.2.2.2.2.2.2.2.2.2.2.2.2.1 bt418.2.2.2.2.2.2.2.2.2.2.2.2.2.2.2.2.1 bt418.2.2.2.2.2.2.2.2.2.2.2.2.2.2.2.2.2.1 bt418.2.2.2.2.2.2.2.2.2.2.2.2.2.2.2.2.2.2.1 bt418.2.2.2.2.2.2.2.2.2.2.2.2.2.2.2.2.2.2.2.1 bt418.2.2.2.2.2.2.2.2.2.2.2.2.2.2.2.2.2.2.2.2.2.2.1 bt418.2.2.2.2.2.2.2.2.2.2.2.2.2.2.2.2.2.2.2.2.2.2.2.1 bt418.2.2.2.2.2.2.2.2.2.2.2.2.2.2.2.2.2.2.2.2.2.2.2.2 bt418.2.2.2.2.2.2.2.2.2.2.2.2.2.2.2.2.2.2.2.2.1 bt418.2.2.2.2.2.2.2.2.2.2.2.2.2.2.2.2.2.2.2.2.2.1 bt390.1 bt390.2.1 bt390.2.2.1))))) = some r := H
  have A2 := Aside0.mk A20
  clear A20
  replace H := Option.bind_eq_some_iff.mp H
  obtain ⟨⟨t363, t364, t365, t366, t367, t368, t369, t370, t371, t372, t373, t374, t375, t376, t377, t378, t379, t380, t381, t382, t383, t384, t387, t388, t389⟩, A30, H⟩ := H
  replace H : ((detect_Detect_On.f k t367 t368 t369 t370 t371 t372 t373 t374 t375 t376 t377 t378 t379 t380 t381 t382 t383 t384 t387 t388 t389 0 9 3 10).bind fun bt390 => ((detect_Detect_On.f k bt390.2.2.2.2.1 bt390.2.2.2.2.2.1 bt390.2.2.2.2.2.2.1 bt390.2.2.2.2.2.2.2.1 bt390.2.2.2.2.2.2.2.2.1 bt390.2.2.2.2.2.2.2.2.2.1 bt390.2.2.2.2.2.2.2.2.2.2.1 bt390.2.2.2.2.2.2.2.2.2.2.2.1 bt390.2.2.2.2.2.2.2.2.2.2.2.2.1 bt390.2.2.2.2.2.2.2.2.2.2.2.2.2.1 bt390.2.2.2.2.2.2.2.2.2.2.2.2.2.2.1 bt390.2.2.2.2.2.2.2.2.2.2.2.2.2.2.2.1 bt390.2.2.2.2.2.2.2.2.2.2.2.2.2.2.2.2.1 bt390.2.2.2.2.2.2.2.2.2.2.2.2.2.2.2.2.2.1 bt390.2.2.2.2.2.2.2.2.2.2.2.2.2.2.2.2.2.2.1 bt390.2.2.2.2.2.2.2.2.2.2.2.2.2.2.2.2.2.2.2.1 bt390.2.2.2.2.2.2.2.2.2.2.2.2.2.2.2.2.2.2.2.2.1 bt390.2.2.2.2.2.2.2.2.2.2.2.2.2.2.2.2.2.2.2.2.2.1 bt390.2.2.2.2.2.2.2.2.2.2.2.2.2.2.2.2.2.2.2.2.2.2.1 bt390.2.2.2.2.2.2.2.2.2.2.2.2.2.2.2.2.2.2.2.2.2.2.2.1 bt390.2.2.2.2.2.2.2.2.2.2.2.2.2.2.2.2.2.2.2.2.2.2.2.2 8 1 3 10).bind fun bt418 => ((detect_Detect_Expects.f bt418.2.2.2.2.1 bt418.2.2.2.2.2.1 bt418.2.2.2.2.2.2.1 bt418.2.2.2.2.2.2.2.1 bt418.2.2.2.2.2.2.2.2.1 bt418.2.2.2.2.2.2.2.2.2.1 bt418.2.2.2.2.2.2.2.2.2.2.1 bt418.2.2.2.2.2.2.2.2.2.2.2.1 bt418.2.2.2.2.2.2.2.2.2.2.2.2.1 bt418.2.2.2.2.2.2.2.2.2.2.2.2.2.1 bt418.2.2.2.2.2.2.2.2.2.2.2.2.2.2.1 bt418.2.2.2.2.2.2.2.2.2.2.2.2.2.2.2.1 bt418.2.2.2.2.2.2.2.2.2.2.2.2.2.2.2.2.1 bt418.2.2.2.2.2.2.2.2.2.2.2.2.2.2.2.2.2.1 bt418.2.2.2.2.2.2.2.2.2.2.2.2.2.2.2.2.2.2.1 bt418.2.2.2.2.2.2.2.2.2.2.2.2.2.2.2.2.2.2.2.1 bt418.2.2.2.2.2.2.2.2.2.2.2.2.2.2.2.2.2.2.2.2.1 bt418.2.2.2.2.2.2.2.2.2.2.2.2.2.2.2.2.2.2.2.2.2.1 bt418.2.2.2.2.2.2.2.2.2.2.2.2.2.2.2.2.2.2.2.2.2.2.1 bt418.2.2.2.2.2.2.2.2.2.2.2.2.2.2.2.2.2.2.2.2.2.2.2.1 bt418.2.2.2.2.2.2.2.2.2.2.2.2.2.2.2.2.2.2.2.2.2.2.2.2 0).bind fun bt446 => (terracelaw15_awake.j0 k bt390.2.2.2.1 bt418.2.2.2.1 bt446.1 bt446.2 bt418.2.2.2.2.1 bt418.2.2.2.2.2.1 bt418.2.2.2.2.2.2.1 bt418.2.2.2.2.2.2.2.1 bt418.2.2.2.2.2.2.2.2.1 bt418.2.2.2.2.2.2.2.2.2.1 bt418.2.2.2.2.2.2.2.2.2.2.1 bt418.2.2.2.2.2.2.2.2.2.2.2.1 bt418.2.2.2.2.2.2.2.2.2.2.2.2.1 bt418.2.2.2.2.2.2.2.2.2.2.2.2.2.1 bt418.2.2.2.2.2.2.2.2.2.2.2.2.2.2.1 bt418.2.2.2.2.2.2.2.2.2.2.2.2.2.2.2.1 bt418.2.2.2.2.2.2.2.2.2.2.2.2.2.2.2.2.1 bt418.2.2.2.2.2.2.2.2.2.2.2.2.2.2.2.2.2.1 bt418.2.2.2.2.2.2.2.2.2.2.2.2.2.2.2.2.2.2.1 bt418.2.2.2.2.2.2.2.2.2.2.2.2.2.2.2.2.2.2.2.1 bt418.2.2.2.2.2.2.2.2.2.2.2.2.2.2.2.2.2.2.2.2.2.2.1 bt418.2.2.2.2.2.2.2.2.2.2.2.2.2.2.2.2.2.2.2.2.2.2.2.1 bt418.2.2.2.2.2.2.2.2.2.2.2.2.2.2.2.2.2.2.2.2.2.2.2.2 bt418.2.2.2.2.2.2.2.2.2.2.2.2.2.2.2.2.2.2.2.2.1 bt418.2.2.2.2.2.2.2.2.2.2.2.2.2.2.2.2.2.2.2.2.2.1 bt390.1 bt390.2.1 bt390.2.2.1)))) = some r := H
  have A3 := Aside0.mk A30
  clear A30
  replace H := Option.bind_eq_some_iff.mp H
  obtain ⟨⟨t390, t391, t392, t393, t394, t395, t396, t397, t398, t399, t400, t401, t402, t403, t404, t405, t406, t407, t408, t409, t410, t411, t414, t415, t416⟩, A40, H⟩ := H
  replace H : ((detect_Detect_On.f k t394 t395 t396 t397 t398 t399 t400 t401 t402 t403 t404 t405 t406 t407 t408 t409 t410 t411 t414 t415 t416 8 1 3 10).bind fun bt418 => ((detect_Detect_Expects.f bt418.2.2.2.2.1 bt418.2.2.2.2.2.1 bt418.2.2.2.2.2.2.1 bt418.2.2.2.2.2.2.2.1 bt418.2.2.2.2.2.2.2.2.1 bt418.2.2.2.2.2.2.2.2.2.1 bt418.2.2.2.2.2.2.2.2.2.2.1 bt418.2.2.2.2.2.2.2.2.2.2.2.1 bt418.2.2.2.2.2.2.2.2.2.2.2.2.1 bt418.2.2.2.2.2.2.2.2.2.2.2.2.2.1 bt418.2.2.2.2.2.2.2.2.2.2.2.2.2.2.1 bt418.2.2.2.2.2.2.2.2.2.2.2.2.2.2.2.1 bt418.2.2.2.2.2.2.2.2.2.2.2.2.2.2.2.2.1 bt418.2.2.2.2.2.2.2.2.2.2.2.2.2.2.2.2.2.1 bt418.2.2.2.2.2.2.2.2.2.2.2.2.2.2.2.2.2.2.1 bt418.2.2.2.2.2.2.2.2.2.2.2.2.2.2.2.2.2.2.2.1 bt418.2.2.2.2.2.2.2.2.2.2.2.2.2.2.2.2.2.2.2.2.1 bt418.2.2.2.2.2.2.2.2.2.2.2.2.2.2.2.2.2.2.2.2.2.1 bt418.2.2.2.2.2.2.2.2.2.2.2.2.2.2.2.2.2.2.2.2.2.2.1 bt418.2.2.2.2.2.2.2.2.2.2.2.2.2.2.2.2.2.2.2.2.2.2.2.1 bt418.2.2.2.2.2.2.2.2.2.2.2.2.2.2.2.2.2.2.2.2.2.2.2.2 0).bind fun bt446 => (terracelaw15_awake.j0 k t393 bt418.2.2.2.1 bt446.1 bt446.2 bt418.2.2.2.2.1 bt418.2.2.2.2.2.1 bt418.2.2.2.2.2.2.1 bt418.2.2.2.2.2.2.2.1 bt418.2.2.2.2.2.2.2.2.1 bt418.2.2.2.2.2.2.2.2.2.1 bt418.2.2.2.2.2.2.2.2.2.2.1 bt418.2.2.2.2.2.2.2.2.2.2.2.1 bt418.2.2.2.2.2.2.2.2.2.2.2.2.1 bt418.2.2.2.2.2.2.2.2.2.2.2.2.2.1 bt418.2.2.2.2.2.2.2.2.2.2.2.2.2.2.1 bt418.2.2.2.2.2.2.2.2.2.2.2.2.2.2.2.1 bt418.2.2.2.2.2.2.2.2.2.2.2.2.2.2.2.2.1 bt418.2.2.2.2.2.2.2.2.2.2.2.2.2.2.2.2.2.1 bt418.2.2.2.2.2.2.2.2.2.2.2.2.2.2.2.2.2.2.1 bt418.2.2.2.2.2.2.2.2.2.2.2.2.2.2.2.2.2.2.2.1 bt418.2.2.2.2.2.2.2.2.2.2.2.2.2.2.2.2.2.2.2.2.2.2.1 bt418.2.2.2.2.2.2.2.2.2.2.2.2.2.2.2.2.2.2.2.2.2.2.2.1 bt418.2.2.2.2.2.2.2.2.2.2.2.2.2.2.2.2.2.2.2.2.2.2.2.2 bt418.2.2.2.2.2.2.2.2.2.2.2.2.2.2.2.2.2.2.2.2.1 bt418.2.2.2.2.2.2.2.2.2.2.2.2.2.2.2.2.2.2.2.2.2.1 t390 t391 t392))) = some r := H
  have A4 := Aside0.mk A40
  clear A40
  replace H := Option.bind_eq_some_iff.mp H
  obtain ⟨⟨t418, t419, t420, t421, t422, t423, t424, t425, t426, t427, t428, t429, t430, t431, t432, t433, t434, t435, t436, t437, t438, t439, t442, t443, t444⟩, A50, H⟩ := H
  replace H : ((detect_Detect_Expects.f t422 t423 t424 t425 t426 t427 t428 t429 t430 t431 t432 t433 t434 t435 t436 t437 t438 t439 t442 t443 t444 0).bind fun bt446 => (terracelaw15_awake.j0 k t393 t421 bt446.1 bt446.2 t422 t423 t424 t425 t426 t427 t428 t429 t430 t431 t432 t433 t434 t435 t436 t437 t442 t443 t444 t438 t439 t390 t391 t392)) = some r := H
  have A5 := Aside0.mk A50
  clear A50
  have HC6 := Aside0.mk H
  clear H
  go_enter Try.func9, Try.ntmps9
  go_upto_region 8 with (first | ((with_reducible refine gate_callee (f := 7) rfl ?_); refine goesL_ (some 8) rfl rfl Try.func7 (by kernel_rfl) rfl #[] rfl (by (try simp only [List.map_toArray, List.map_cons, List.map_nil]); first | done | rfl | (simp only [List.length_drop, List.length_take]; rfl)) ?_; (with_reducible refine (detect_New.calls  t310 t311 t312 t313 t314 t315 t316 t317 t318 t319 t320 t321 t322 t323 t324 t325 t332 t333 t327 t328 t329 _ A1.out).mono ?_); rintro e w7 ⟨v334, g330, g331, rfl, ho0, hi0, hi0_1, hb2⟩; refine ⟨_, rfl, ?_⟩; have hge_ := Nat.le_trans (below_size ((bbq6 HB.out))) hi0.2; have hgw_ := Nat.le_trans (below_size ((bbq6 HB.out))) hi0.2; have hge_1 := Nat.le_trans (below_size ((bbq6 HB.out))) hi0_1.2; have hgw_1 := Nat.le_trans (below_size ((bbq6 HB.out))) hi0_1.2; have hb := below_step ((bbq6 HB.out)) hb2; have n0_ := Aside0.mk (Kd.R_lower ho0 (below_size ((bbq6 HB.out)))); have n1_ := Aside0.mk (hb); have n2_ := Aside0.mk (hi0.1); have n3_ := Aside0.mk (hge_); have n4_ := Aside0.mk (hgw_); have n5_ := Aside0.mk (hi0_1.1); have n6_ := Aside0.mk (hge_1); have n7_ := Aside0.mk (hgw_1); have n8_ := Aside0.mk ((show g330 ≠ g331 from fun e_ => by have h1_ := hi0.1; have h2_ := hi0_1.1; rw [e_] at h1_; have h_ := h1_.symm.trans h2_; simp at h_)); have n9_ := Aside0.mk ((show g331 ≠ g330 from fun e_ => by have h1_ := hi0_1.1; have h2_ := hi0.1; rw [e_] at h1_; have h_ := h1_.symm.trans h2_; simp at h_)); clear HB; have HO335 := n0_; have HB := n1_; have BK330 := n2_; have GE330 := n3_; have GW330 := n4_; have BK331 := n5_; have GE331 := n6_; have GW331 := n7_; have NB330_331 := n8_; have NB331_330 := n9_; clear n0_ n1_ n2_ n3_ n4_ n5_ n6_ n7_ n8_ n9_; (try clear hb); (try clear hb2); (try clear hge_); (try clear hgw_); (try clear hi0); (try clear hge_1); (try clear hgw_1); (try clear hi0_1); (try clear ho0)) | ((with_reducible refine gate_callee (f := 10) rfl ?_); refine goesL_ (some 12) rfl rfl Try.func10 (by kernel_rfl) rfl #[.pointer (some ⟨g330, 0, none⟩), .int .i64 0, .int .u32 5, .int .i64 1, .int .i64 10] rfl (by (try simp only [List.map_toArray, List.map_cons, List.map_nil]); first | done | rfl | (simp only [List.length_drop, List.length_take]; rfl)) ?_; (with_reducible refine (detect_Detect_On.calls k g330 g331 t310 t311 t312 t313 t314 t315 t316 t317 t318 t319 t320 t321 t322 t323 t324 t325 t332 (fun k_ => some k_ = (v334 : Value).ownBlock) v334 t333 t327 t328 t329 0 5 1 10 t336 t337 t338 t339 t340 t341 t342 t343 t344 t345 t346 t347 t348 t349 t350 t351 t352 t353 t354 t355 t356 t357 t360 t361 t362 w _ ?side1 ?side2 ?side3 ?side4 ?side5 ?side6 A2.out).mono ?_); (case side1 => exact bpq6 BK330.out); (case side2 => exact GE330.out); (case side3 => exact bpq6 BK331.out); (case side4 => exact GE331.out); (case side5 => repeat (first | (with_reducible first | exact HB.out | apply below_alloc | apply pw_below_drewN | apply below_drew1 | refine below_set ?_ GE330.out | refine below_set ?_ GE331.out) | exact HB.out)); (case side6 => exact Kd.R_tight rfl HO335.out); rintro e w8 ⟨v358, rfl, ho0, hi, hi1, hb, hkp⟩; refine ⟨_, rfl, ?_⟩; have n0_ := Aside0.mk (hi); have n1_ := Aside0.mk (hi1); have n2_ := Aside0.mk (Kd.R_mono (ok' := fun k_ => True) ho0 (fun k_ hk_ => trivial)); have n3_ := Aside0.mk (hb); clear BK330; clear BK331; clear HB; clear HO335; have BK330 := n0_; have BK331 := n1_; have HO359 := n2_; have HB := n3_; clear n0_ n1_ n2_ n3_; (try clear hb); (try clear hkp); (try clear ho0)) | ((with_reducible refine gate_callee (f := 10) rfl ?_); refine goesL_ (some 14) rfl rfl Try.func10 (by kernel_rfl) rfl #[.pointer (some ⟨g330, 0, none⟩), .int .i64 0, .int .u32 6, .int .i64 2, .int .i64 10] rfl (by (try simp only [List.map_toArray, List.map_cons, List.map_nil]); first | done | rfl | (simp only [List.length_drop, List.length_take]; rfl)) ?_; (with_reducible refine (detect_Detect_On.calls k g330 g331 t340 t341 t342 t343 t344 t345 t346 t347 t348 t349 t350 t351 t352 t353 t354 t355 t356 (fun k_ => some k_ = (v358 : Value).ownBlock) v358 t357 t360 t361 t362 0 6 2 10 t363 t364 t365 t366 t367 t368 t369 t370 t371 t372 t373 t374 t375 t376 t377 t378 t379 t380 t381 t382 t383 t384 t387 t388 t389 w _ ?side1 ?side2 ?side3 ?side4 ?side5 ?side6 A3.out).mono ?_); (case side1 => exact bpq6 BK330.out); (case side2 => exact GE330.out); (case side3 => exact bpq6 BK331.out); (case side4 => exact GE331.out); (case side5 => repeat (first | (with_reducible first | exact HB.out | apply below_alloc | apply pw_below_drewN | apply below_drew1 | refine below_set ?_ GE330.out | refine below_set ?_ GE331.out) | exact HB.out)); (case side6 => exact Kd.R_tight rfl HO359.out); rintro e w9 ⟨v385, rfl, ho0, hi, hi1, hb, hkp⟩; refine ⟨_, rfl, ?_⟩; have n0_ := Aside0.mk (hi); have n1_ := Aside0.mk (hi1); have n2_ := Aside0.mk (Kd.R_mono (ok' := fun k_ => True) ho0 (fun k_ hk_ => trivial)); have n3_ := Aside0.mk (hb); clear BK330; clear BK331; clear HB; clear HO359; have BK330 := n0_; have BK331 := n1_; have HO386 := n2_; have HB := n3_; clear n0_ n1_ n2_ n3_; (try clear hb); (try clear hkp); (try clear ho0)) | ((with_reducible refine gate_callee (f := 10) rfl ?_); refine goesL_ (some 17) rfl rfl Try.func10 (by kernel_rfl) rfl #[.pointer (some ⟨g330, 0, none⟩), .int .i64 0, .int .u32 9, .int .i64 3, .int .i64 10] rfl (by (try simp only [List.map_toArray, List.map_cons, List.map_nil]); first | done | rfl | (simp only [List.length_drop, List.length_take]; rfl)) ?_; (with_reducible refine (detect_Detect_On.calls k g330 g331 t367 t368 t369 t370 t371 t372 t373 t374 t375 t376 t377 t378 t379 t380 t381 t382 t383 (fun k_ => some k_ = (v385 : Value).ownBlock) v385 t384 t387 t388 t389 0 9 3 10 t390 t391 t392 t393 t394 t395 t396 t397 t398 t399 t400 t401 t402 t403 t404 t405 t406 t407 t408 t409 t410 t411 t414 t415 t416 w _ ?side1 ?side2 ?side3 ?side4 ?side5 ?side6 A4.out).mono ?_); (case side1 => exact bpq6 BK330.out); (case side2 => exact GE330.out); (case side3 => exact bpq6 BK331.out); (case side4 => exact GE331.out); (case side5 => repeat (first | (with_reducible first | exact HB.out | apply below_alloc | apply pw_below_drewN | apply below_drew1 | refine below_set ?_ GE330.out | refine below_set ?_ GE331.out) | exact HB.out)); (case side6 => exact Kd.R_tight rfl HO386.out); rintro e w10 ⟨v412, rfl, ho0, hi, hi1, hb, hkp⟩; refine ⟨_, rfl, ?_⟩; have n0_ := Aside0.mk (hi); have n1_ := Aside0.mk (hi1); have n2_ := Aside0.mk (Kd.R_mono (ok' := fun k_ => True) ho0 (fun k_ hk_ => trivial)); have n3_ := Aside0.mk (hb); clear BK330; clear BK331; clear HB; clear HO386; have BK330 := n0_; have BK331 := n1_; have HO413 := n2_; have HB := n3_; clear n0_ n1_ n2_ n3_; (try clear hb); (try clear hkp); (try clear ho0)) | ((with_reducible refine gate_dst (N := 2) rfl ?_); refine box_event ?hg (N := 2) ?hd (cs := #[.int .i64 0, .bool false, .bool false]) (t := 31) ?hr ?_; (case hd => rfl); (case hg => rfl); (case hr => first | (go_simp; done) | (go_simp; rfl)); intro gb417 hg w11 hbox hb; have n0_ := Aside0.mk (Kd.R_below (by (with_reducible repeat (first | apply Kd.R_alloc | apply Kd.R_drewN | apply Kd.R_drew)); exact HO413.out) hb); have n1_ := Aside0.mk (blk_below (bpq6 BK330.out) hb); have n2_ := Aside0.mk (blk_below (bpq6 BK331.out) hb); have n3_ := Aside0.mk (below_step ((bbq6 HB.out)) hb); have n4_ := Aside0.mk (hbox); have n5_ := Aside0.mk ((by rw [hg]; exact (below_size ((bbq6 HB.out))) : w.heap.size ≤ gb417)); have n6_ := Aside0.mk ((by rw [hg]; exact (below_size ((bbq6 HB.out))) : w.heap.size ≤ gb417)); have n7_ := Aside0.mk ((by rw [hg]; exact Nat.ne_of_lt (blk_lt (bpq6 BK330.out)) : g330 ≠ gb417)); have n8_ := Aside0.mk ((by rw [hg]; exact Nat.ne_of_gt (blk_lt (bpq6 BK330.out)) : gb417 ≠ g330)); have n9_ := Aside0.mk ((by rw [hg]; exact Nat.ne_of_lt (blk_lt (bpq6 BK331.out)) : g331 ≠ gb417)); have n10_ := Aside0.mk ((by rw [hg]; exact Nat.ne_of_gt (blk_lt (bpq6 BK331.out)) : gb417 ≠ g331)); clear HO413; clear BK330; clear BK331; clear HB; have HO413 := n0_; have BK330 := n1_; have BK331 := n2_; have HB := n3_; have BK417 := n4_; have GW417 := n5_; have GE417 := n6_; have NB330_417 := n7_; have NB417_330 := n8_; have NB331_417 := n9_; have NB417_331 := n10_; clear n0_ n1_ n2_ n3_ n4_ n5_ n6_ n7_ n8_ n9_ n10_; clear hb hbox hg; have hnb12 := NB417_330.out; have hnc12 := NB330_417.out; have hnb13 := NB417_331.out; have hnc13 := NB331_417.out; obtain ⟨hcz14_0, hcz14_1, hcz14_2⟩ := bc3q6 BK417.out; have hfz14_0 := fun i_ => blk_frozen BK417.out i_) | ((with_reducible refine gate_store (t := 31) (p := 2) rfl ?_); refine store_event (t := 31) (p := 2) (v := ?vo_w15) (w1 := (((w11.setCell ⟨gb417, 0, none⟩ (.int .i64 t390)).setCell ⟨gb417, 1, none⟩ (.bool t391)).setCell ⟨gb417, 2, none⟩ (.bool t392))) ?hg ?ho ?hn ?hr ?_; (case ho => rfl); (case hg => rfl); (case hn => rfl); (case hr => first | (go_simp; done) | (go_simp; rfl)); intro w15 hw; have n0_ : Aside0 (Kd.R (Kd.int .i64) 3 w15 w.heap.size (fun _ => True) v412 t411) := ⟨(by rw [hw]; exact (by (with_reducible repeat (first | apply Kd.R_alloc | apply Kd.R_drewN | apply Kd.R_drew)); exact Kd.R_mono (Kd.R_far (Kd.R_far (Kd.R_far (Kd.R_types HO413.out BK417.out (by decide)) (fun _ hk => hk.2) _) (fun _ hk => hk.2) _) (fun _ hk => hk.2) _) (fun _ hk => trivial)))⟩; have n1_ : Aside0 (w15.heap[g330]? = some (.cells #[.int .u32 t394, .bool t395, .int .u32 t396, .bool t397, .int .u32 t398, .bool t399, .int .u32 t400, .bool t401, .int .u32 t402, .bool t403, .int .u32 t404, .bool t405, .int .u32 t406, .bool t407, .int .u32 t408, .bool t409, .pointer (some ⟨g331, 0, none⟩), .int .i64 t414, .int .i64 t415, .bool t416] 54 (0, 0))) := ⟨(by rw [hw]; exact (by refine bfq6 NB330_417.out ?_; refine bfq6 NB330_417.out ?_; refine bfq6 NB330_417.out ?_; exact bpq6 BK330.out))⟩; have n2_ : Aside0 (w15.heap[g331]? = some (.cells #[.int .i64 t410, v412] 68 (0, 0))) := ⟨(by rw [hw]; exact (by refine bfq6 NB331_417.out ?_; refine bfq6 NB331_417.out ?_; refine bfq6 NB331_417.out ?_; exact bpq6 BK331.out))⟩; have n3_ : Aside0 (w15.heap[gb417]? = some (.cells #[.int .i64 t390, .bool t391, .bool t392] 31 (0, 0))) := ⟨(by rw [hw]; exact (by refine bzq6 ?_; refine btq6 (i := 2) ?_; refine btq6 (i := 1) ?_; refine btq6 (i := 0) ?_; exact ⟨_, bpq6 BK417.out, rfl⟩))⟩; have n4_ : Aside0 (Below w.heap.size w w15) := ⟨(by rw [hw]; exact ((bbq6 HB.out)))⟩; clear hw; clear HO413; clear BK330; clear BK331; clear BK417; clear HB; have HO413 := n0_; have BK330 := n1_; have BK331 := n2_; have BK417 := n3_; have HB := n4_; clear n0_ n1_ n2_ n3_ n4_) | ((with_reducible refine gate_callee (f := 10) rfl ?_); refine goesL_ (some 22) rfl rfl Try.func10 (by kernel_rfl) rfl #[.pointer (some ⟨g330, 0, none⟩), .int .i64 8, .int .u32 1, .int .i64 3, .int .i64 10] rfl (by (try simp only [List.map_toArray, List.map_cons, List.map_nil]); first | done | rfl | (simp only [List.length_drop, List.length_take]; rfl)) ?_; (with_reducible refine (detect_Detect_On.calls k g330 g331 t394 t395 t396 t397 t398 t399 t400 t401 t402 t403 t404 t405 t406 t407 t408 t409 t410 (fun k_ => some k_ = (v412 : Value).ownBlock) v412 t411 t414 t415 t416 8 1 3 10 t418 t419 t420 t421 t422 t423 t424 t425 t426 t427 t428 t429 t430 t431 t432 t433 t434 t435 t436 t437 t438 t439 t442 t443 t444 w _ ?side1 ?side2 ?side3 ?side4 ?side5 ?side6 A5.out).mono ?_); (case side1 => exact bpq6 BK330.out); (case side2 => exact GE330.out); (case side3 => exact bpq6 BK331.out); (case side4 => exact GE331.out); (case side5 => repeat (first | (with_reducible first | exact HB.out | apply below_alloc | apply pw_below_drewN | apply below_drew1 | refine below_set ?_ GE330.out | refine below_set ?_ GE331.out | refine below_set ?_ GE417.out) | exact HB.out)); (case side6 => exact Kd.R_tight rfl HO413.out); rintro e w16 ⟨v440, rfl, ho0, hi, hi1, hb, hkp⟩; refine ⟨_, rfl, ?_⟩; have n0_ := Aside0.mk (hi); have n1_ := Aside0.mk (hi1); have n2_ := Aside0.mk (blk_kept (by exact bpq6 BK417.out) hkp (fun hs_ => Or.elim hs_ (fun hs_ => Or.elim hs_ (fun hs_ => (fun e_ => (Kd.R_ne HO413.out BK417.out (by decide)) e_) hs_) (fun e_ => NB417_330.out e_)) (fun e_ => NB417_331.out e_))); have n3_ := Aside0.mk (Kd.R_mono (ok' := fun k_ => True) ho0 (fun k_ hk_ => trivial)); have n4_ := Aside0.mk (hb); clear BK330; clear BK331; clear BK417; clear HB; clear HO413; have BK330 := n0_; have BK331 := n1_; have BK417 := n2_; have HO441 := n3_; have HB := n4_; clear n0_ n1_ n2_ n3_ n4_; (try clear hb); (try clear hkp); (try clear ho0)) | ((with_reducible refine gate_dst (N := 4) rfl ?_); refine box_event ?hg (N := 4) ?hd (cs := #[.int .i64 0, .bool false, .bool false]) (t := 31) ?hr ?_; (case hd => rfl); (case hg => rfl); (case hr => first | (go_simp; done) | (go_simp; rfl)); intro gb445 hg w17 hbox hb; have n0_ := Aside0.mk (Kd.R_below (by (with_reducible repeat (first | apply Kd.R_alloc | apply Kd.R_drewN | apply Kd.R_drew)); exact HO441.out) hb); have n1_ := Aside0.mk (blk_below (bpq6 BK330.out) hb); have n2_ := Aside0.mk (blk_below (bpq6 BK331.out) hb); have n3_ := Aside0.mk (blk_below (bpq6 BK417.out) hb); have n4_ := Aside0.mk (below_step ((bbq6 HB.out)) hb); have n5_ := Aside0.mk (hbox); have n6_ := Aside0.mk ((by rw [hg]; exact (below_size ((bbq6 HB.out))) : w.heap.size ≤ gb445)); have n7_ := Aside0.mk ((by rw [hg]; exact (below_size ((bbq6 HB.out))) : w.heap.size ≤ gb445)); have n8_ := Aside0.mk ((by rw [hg]; exact Nat.ne_of_lt (blk_lt (bpq6 BK330.out)) : g330 ≠ gb445)); have n9_ := Aside0.mk ((by rw [hg]; exact Nat.ne_of_gt (blk_lt (bpq6 BK330.out)) : gb445 ≠ g330)); have n10_ := Aside0.mk ((by rw [hg]; exact Nat.ne_of_lt (blk_lt (bpq6 BK331.out)) : g331 ≠ gb445)); have n11_ := Aside0.mk ((by rw [hg]; exact Nat.ne_of_gt (blk_lt (bpq6 BK331.out)) : gb445 ≠ g331)); have n12_ := Aside0.mk ((by rw [hg]; exact Nat.ne_of_lt (blk_lt (bpq6 BK417.out)) : gb417 ≠ gb445)); have n13_ := Aside0.mk ((by rw [hg]; exact Nat.ne_of_gt (blk_lt (bpq6 BK417.out)) : gb445 ≠ gb417)); clear HO441; clear BK330; clear BK331; clear BK417; clear HB; have HO441 := n0_; have BK330 := n1_; have BK331 := n2_; have BK417 := n3_; have HB := n4_; have BK445 := n5_; have GW445 := n6_; have GE445 := n7_; have NB330_445 := n8_; have NB445_330 := n9_; have NB331_445 := n10_; have NB445_331 := n11_; have NB417_445 := n12_; have NB445_417 := n13_; clear n0_ n1_ n2_ n3_ n4_ n5_ n6_ n7_ n8_ n9_ n10_ n11_ n12_ n13_; clear hb hbox hg; have hnb18 := NB445_330.out; have hnc18 := NB330_445.out; have hnb19 := NB445_331.out; have hnc19 := NB331_445.out; have hnb20 := NB445_417.out; have hnc20 := NB417_445.out; obtain ⟨hcz21_0, hcz21_1, hcz21_2⟩ := bc3q6 BK445.out; have hfz21_0 := fun i_ => blk_frozen BK445.out i_))
  (try simp only [Act.put, List.setIfInBounds_toArray, List.set_cons_zero, List.set_cons_succ])
  go_cut [6, 7] (fun v6 v7 wc => ∃ (kq : Nat) (x6_5 : Int) (x7_5 : Bool), v6 = .int .u32 x6_5 ∧ v7 = .bool x7_5 ∧ Aside0 (terracelaw15_awake.j0 kq t393 t421 x6_5 x7_5 t422 t423 t424 t425 t426 t427 t428 t429 t430 t431 t432 t433 t434 t435 t436 t437 t442 t443 t444 t438 t439 t390 t391 t392 = some r) ∧ Aside0 (kq ≤ k) ∧ Aside0 (Kd.R (Kd.int .i64) 3 wc w.heap.size (fun _ => True) v440 t439) ∧ Aside0 (wc.heap[g330]? = some (.cells #[.int .u32 t422, .bool t423, .int .u32 t424, .bool t425, .int .u32 t426, .bool t427, .int .u32 t428, .bool t429, .int .u32 t430, .bool t431, .int .u32 t432, .bool t433, .int .u32 t434, .bool t435, .int .u32 t436, .bool t437, .pointer (some ⟨g331, 0, none⟩), .int .i64 t442, .int .i64 t443, .bool t444] 54 (0, 0))) ∧ Aside0 (wc.heap[g331]? = some (.cells #[.int .i64 t438, v440] 68 (0, 0))) ∧ Aside0 (wc.heap[gb417]? = some (.cells #[.int .i64 t390, .bool t391, .bool t392] 31 (0, 0))) ∧ Aside0 (wc.heap[gb445]? = some (.cells #[.int .i64 t418, .bool t419, .bool t420] 31 (0, 0))) ∧ Aside0 (Below w.heap.size w wc))
  case first =>
    have H := HC6.out
    clear HC6
    replace H := Option.bind_eq_some_iff.mp H
    obtain ⟨⟨t446, t447⟩, A220, H⟩ := H
    replace H : (terracelaw15_awake.j0 k t393 t421 t446 t447 t422 t423 t424 t425 t426 t427 t428 t429 t430 t431 t432 t433 t434 t435 t436 t437 t442 t443 t444 t438 t439 t390 t391 t392) = some r := H
    have A22 := Aside0.mk A220
    clear A220
    have H' := Aside0.mk H
    clear H
    obtain ⟨Ao23, co23, eo23⟩ := Kd.R_slice HO441.out
    subst eo23
    go_wp2_with (first | ((with_reducible refine gate_callee (f := 16) rfl ?_); refine goesL_ (some 27) rfl rfl Try.func16 (by kernel_rfl) rfl #[.pointer (some ⟨g330, 0, none⟩), .int .i64 0] rfl (by (try simp only [List.map_toArray, List.map_cons, List.map_nil]); first | done | rfl | (simp only [List.length_drop, List.length_take]; rfl)) ?_; (with_reducible refine (detect_Detect_Expects.calls g330 g331 t422 t423 t424 t425 t426 t427 t428 t429 t430 t431 t432 t433 t434 t435 t436 t437 t438 Ao23 co23 t439 t442 t443 t444 0 t446 t447 _ ?side1 ?side2 ?side3 ?side4 A22.out).mono ?_); (case side1 => refine bfq6 NB330_445.out ?_; refine bfq6 NB330_445.out ?_; refine bfq6 NB330_445.out ?_; exact bpq6 BK330.out); (case side2 => refine bfq6 NB331_445.out ?_; refine bfq6 NB331_445.out ?_; refine bfq6 NB331_445.out ?_; exact bpq6 BK331.out); (case side3 => refine (Kd.R_reads' (e := 3) (base := w.heap.size) (ok := fun k_ => True) (n := t439.length) (c := co23) ?_).2.2; exact (by (with_reducible repeat (first | apply Kd.R_alloc | apply Kd.R_drewN | apply Kd.R_drew)); exact (Kd.R_mono (Kd.R_far (Kd.R_far (Kd.R_far (Kd.R_types HO441.out BK445.out (by decide)) (fun _ hk => hk.2) _) (fun _ hk => hk.2) _) (fun _ hk => hk.2) _) (fun _ h_ => h_.1)))); (case side4 => exact (Kd.R_reads' HO441.out).2.1); rintro e w' ⟨rfl, ⟨nd, rfl⟩⟩; refine ⟨_, rfl, ?_⟩))
    go_meet
    case rel => exact ⟨_, (t446), (t447), (by first | rfl | (simp; done) | (simp [*]; done)), (by first | rfl | (simp; done) | (simp [*]; done)), H', ⟨by first | omega | exact Nat.le_refl _⟩, ⟨by (with_reducible repeat (first | apply Kd.R_alloc | apply Kd.R_drewN | apply Kd.R_drew)); exact Kd.R_mono (Kd.R_far (Kd.R_far (Kd.R_far (Kd.R_types HO441.out BK445.out (by decide)) (fun _ hk => hk.2) _) (fun _ hk => hk.2) _) (fun _ hk => hk.2) _) (fun _ hk => trivial)⟩, ⟨by refine bfq6 NB330_445.out ?_; refine bfq6 NB330_445.out ?_; refine bfq6 NB330_445.out ?_; exact bpq6 BK330.out⟩, ⟨by refine bfq6 NB331_445.out ?_; refine bfq6 NB331_445.out ?_; refine bfq6 NB331_445.out ?_; exact bpq6 BK331.out⟩, ⟨by refine bfq6 NB417_445.out ?_; refine bfq6 NB417_445.out ?_; refine bfq6 NB417_445.out ?_; exact bpq6 BK417.out⟩, ⟨by refine bzq6 ?_; refine btq6 (i := 2) ?_; refine btq6 (i := 1) ?_; refine btq6 (i := 0) ?_; exact ⟨_, bpq6 BK445.out, rfl⟩⟩, ⟨(bbq6 HB.out)⟩⟩
  case rest =>
    clear HC6
    try clear c1
    try clear c2
    try clear p2
    try clear c7
    try clear c9
    try clear c10
    try clear c12
    try clear c13
    try clear c16
    try clear c18
    try clear c19
    try clear c20
    try clear hcz14_0 hcz14_1 hcz14_2
    try clear hcz21_0 hcz21_1 hcz21_2
    try clear hfz14_0
    try clear hfz21_0
    obtain ⟨kq, x6_5, x7_5, rfl, rfl, HA, HJ5, HO_332001, BK330, BK331, BK417, BK445, HB⟩ := hcut
    cases kq with
    | zero => exact absurd HA.out (by simp [terracelaw15_awake.j0])
    | succ kj5 =>
      have H := HA.out
      clear HA
      simp only [terracelaw15_awake.j0] at H
      by_cases c24 : t393 = 0
      · rw [if_pos c24] at H
        have c24b0 : (t393 == 0) = true := beq_iff_eq.mpr c24
        have c24b1 : (t393 != 0) = false := bne_eq_false_iff_eq.mpr c24
        clear c24
        by_cases c25 : (t390 == 2 && (t391 && (t392))) = true
        · rw [if_pos c25] at H
          have c25b0 : (t390 == 2 && (t391 && (t392))) = true := c25
          (try (have c25b1 : decide (t390 = 2 && (t391 && (t392))) = true := by simpa using c25))
          (try (have c25b2 : (t390 == 2 && (t391 && (t392))) = true := by simpa using c25))
          clear c25
          by_cases c26 : t421 = 11
          · rw [if_pos c26] at H
            have c26b0 : (t421 == 11) = true := beq_iff_eq.mpr c26
            have c26b1 : (t421 != 11) = false := bne_eq_false_iff_eq.mpr c26
            clear c26
            by_cases c27 : x6_5 = 10
            · rw [if_pos c27] at H
              have c27b0 : (x6_5 == 10) = true := beq_iff_eq.mpr c27
              have c27b1 : (x6_5 != 10) = false := bne_eq_false_iff_eq.mpr c27
              clear c27
              by_cases c28 : x7_5 = true
              · subst c28
                have H1 : ((detect_Detect_History.f t422 t423 t424 t425 t426 t427 t428 t429 t430 t431 t432 t433 t434 t435 t436 t437 t438 t439 t442 t443 t444).bind fun _ => ((detect_Detect_History.f t422 t423 t424 t425 t426 t427 t428 t429 t430 t431 t432 t433 t434 t435 t436 t437 t438 t439 t442 t443 t444).bind fun _ => ((history_History_Open.f t438 t439).bind fun t448 => (some (t448 == 3))))) = some r := by rw [if_pos rfl] at H; exact H
                clear H
                have H := H1
                clear H1
                replace H := Option.bind_eq_some_iff.mp H
                obtain ⟨_, A290, H⟩ := H
                replace H : ((detect_Detect_History.f t422 t423 t424 t425 t426 t427 t428 t429 t430 t431 t432 t433 t434 t435 t436 t437 t438 t439 t442 t443 t444).bind fun _ => ((history_History_Open.f t438 t439).bind fun t448 => (some (t448 == 3)))) = some r := H
                have A29 := Aside0.mk A290
                clear A290
                replace H := Option.bind_eq_some_iff.mp H
                obtain ⟨_, A300, H⟩ := H
                replace H : ((history_History_Open.f t438 t439).bind fun t448 => (some (t448 == 3))) = some r := H
                have A30 := Aside0.mk A300
                clear A300
                replace H := Option.bind_eq_some_iff.mp H
                obtain ⟨t448, A310, H⟩ := H
                replace H : (some (t448 == 3)) = some r := H
                have A31 := Aside0.mk A310
                clear A310
                obtain rfl := Option.some.inj H
                have hnb32 := NB417_330.out
                have hnc32 := NB330_417.out
                have hnb33 := NB417_331.out
                have hnc33 := NB331_417.out
                have hnb34 := NB417_445.out
                have hnc34 := NB445_417.out
                obtain ⟨hcz35_0, hcz35_1, hcz35_2⟩ := bc3q6 BK417.out
                have hfz35_0 := fun i_ => blk_frozen BK417.out i_
                obtain ⟨Ao36, co36, eo36⟩ := Kd.R_slice HO_332001.out
                subst eo36
                go_wp2_with (first | (go_at_call 17; (with_reducible refine (detect_Detect_History.calls g330 g331 t422 t423 t424 t425 t426 t427 t428 t429 t430 t431 t432 t433 t434 t435 t436 t437 t438 Ao36 co36 t439 t442 t443 t444  _ ?side1 ?side2 ?side3 ?side4 A29.out).mono ?_); (case side1 => exact bpq6 BK330.out); (case side2 => exact bpq6 BK331.out); (case side3 => repeat (first | exact (Kd.R_reads' HO_332001.out).2.2 | (with_reducible refine Kd.C_alloc ?_ _) | (with_reducible refine Kd.C_drewN ?_ _) | (with_reducible refine Kd.C_drew ?_))); (case side4 => exact (Kd.R_reads' HO_332001.out).2.1); rintro e w' ⟨rfl, ⟨nd, rfl⟩⟩) | (go_at_call 17; (with_reducible refine (detect_Detect_History.calls g330 g331 t422 t423 t424 t425 t426 t427 t428 t429 t430 t431 t432 t433 t434 t435 t436 t437 t438 Ao36 co36 t439 t442 t443 t444  _ ?side1 ?side2 ?side3 ?side4 A30.out).mono ?_); (case side1 => exact bpq6 BK330.out); (case side2 => exact bpq6 BK331.out); (case side3 => repeat (first | exact (Kd.R_reads' HO_332001.out).2.2 | (with_reducible refine Kd.C_alloc ?_ _) | (with_reducible refine Kd.C_drewN ?_ _) | (with_reducible refine Kd.C_drew ?_))); (case side4 => exact (Kd.R_reads' HO_332001.out).2.1); rintro e w' ⟨rfl, ⟨nd, rfl⟩⟩) | (go_at_call 18; (with_reducible refine (history_History_Open.calls g331 t438 Ao36 co36 t439 t448 _ ?side1 ?side2 ?side3 A31.out).mono ?_); (case side1 => exact bpq6 BK331.out); (case side2 => repeat (first | exact (Kd.R_reads' HO_332001.out).2.2 | (with_reducible refine Kd.C_alloc ?_ _) | (with_reducible refine Kd.C_drewN ?_ _) | (with_reducible refine Kd.C_drew ?_))); (case side3 => exact (Kd.R_reads' HO_332001.out).2.1); rintro e w' ⟨rfl, ⟨nd, rfl⟩⟩))
                go_ret
                exact ⟨by first | rfl | (simp [errW_none, errW_some] <;> rfl) | (simp [*, errW_none, errW_some] <;> rfl), (bbq6 HB.out)⟩
              · replace c28 := Bool.eq_false_iff.mpr c28
                subst c28
                have H1 : (some false) = some r := by rw [if_neg (show ¬ (false = true) by decide)] at H; exact H
                clear H
                have H := H1
                clear H1
                obtain rfl := Option.some.inj H
                have hnb37 := NB417_330.out
                have hnc37 := NB330_417.out
                have hnb38 := NB417_331.out
                have hnc38 := NB331_417.out
                have hnb39 := NB417_445.out
                have hnc39 := NB445_417.out
                obtain ⟨hcz40_0, hcz40_1, hcz40_2⟩ := bc3q6 BK417.out
                have hfz40_0 := fun i_ => blk_frozen BK417.out i_
                go_wp2
                go_ret
                exact ⟨by first | rfl | (simp [errW_none, errW_some] <;> rfl) | (simp [*, errW_none, errW_some] <;> rfl), (bbq6 HB.out)⟩
            · rw [if_neg c27] at H
              have c27b0 : (x6_5 == 10) = false := beq_eq_false_iff_ne.mpr c27
              have c27b1 : (x6_5 != 10) = true := bne_iff_ne.mpr c27
              obtain rfl := Option.some.inj H
              have hnb41 := NB417_330.out
              have hnc41 := NB330_417.out
              have hnb42 := NB417_331.out
              have hnc42 := NB331_417.out
              have hnb43 := NB417_445.out
              have hnc43 := NB445_417.out
              obtain ⟨hcz44_0, hcz44_1, hcz44_2⟩ := bc3q6 BK417.out
              have hfz44_0 := fun i_ => blk_frozen BK417.out i_
              go_wp2
              go_ret
              exact ⟨by first | rfl | (simp [errW_none, errW_some] <;> rfl) | (simp [*, errW_none, errW_some] <;> rfl), (bbq6 HB.out)⟩
          · rw [if_neg c26] at H
            have c26b0 : (t421 == 11) = false := beq_eq_false_iff_ne.mpr c26
            have c26b1 : (t421 != 11) = true := bne_iff_ne.mpr c26
            obtain rfl := Option.some.inj H
            have hnb45 := NB417_330.out
            have hnc45 := NB330_417.out
            have hnb46 := NB417_331.out
            have hnc46 := NB331_417.out
            have hnb47 := NB417_445.out
            have hnc47 := NB445_417.out
            obtain ⟨hcz48_0, hcz48_1, hcz48_2⟩ := bc3q6 BK417.out
            have hfz48_0 := fun i_ => blk_frozen BK417.out i_
            go_wp2
            go_ret
            exact ⟨by first | rfl | (simp [errW_none, errW_some] <;> rfl) | (simp [*, errW_none, errW_some] <;> rfl), (bbq6 HB.out)⟩
        · rw [if_neg c25] at H
          have c25b0 : (t390 == 2 && (t391 && (t392))) = false := by simpa using c25
          (try (have c25b1 : decide (t390 = 2 && (t391 && (t392))) = false := by simpa using c25))
          (try (have c25b2 : (t390 == 2 && (t391 && (t392))) = false := by simpa using c25))
          (try (have c25b3 : ¬ (t390 = 2 && (t391 && (t392))) := by simpa using c25))
          clear c25
          obtain rfl := Option.some.inj H
          have hnb49 := NB417_330.out
          have hnc49 := NB330_417.out
          have hnb50 := NB417_331.out
          have hnc50 := NB331_417.out
          have hnb51 := NB417_445.out
          have hnc51 := NB445_417.out
          obtain ⟨hcz52_0, hcz52_1, hcz52_2⟩ := bc3q6 BK417.out
          have hfz52_0 := fun i_ => blk_frozen BK417.out i_
          go_wp2
          go_ret
          exact ⟨by first | rfl | (simp [errW_none, errW_some] <;> rfl) | (simp [*, errW_none, errW_some] <;> rfl), (bbq6 HB.out)⟩
      · rw [if_neg c24] at H
        have c24b0 : (t393 == 0) = false := beq_eq_false_iff_ne.mpr c24
        have c24b1 : (t393 != 0) = true := bne_iff_ne.mpr c24
        obtain rfl := Option.some.inj H
        go_wp2
        go_ret
        exact ⟨by first | rfl | (simp [errW_none, errW_some] <;> rfl) | (simp [*, errW_none, errW_some] <;> rfl), (bbq6 HB.out)⟩

/-! ### terraceref15_New: function 11 -/
def terraceref15_New.f  : Option (Int × Int × Int × Int × Int × Int × Int × Int × Int × List Int × Int × Bool × Int) := some ((-1), (-1), (-1), (-1), (-1), (-1), (-1), (-1), 0, ([] : List Int), 0, false, 0)
set_option maxHeartbeats 8000000 in
set_option maxRecDepth 100000 in
theorem terraceref15_New.calls  (r1 : Int) (r2 : Int) (r3 : Int) (r4 : Int) (r5 : Int) (r6 : Int) (r7 : Int) (r8 : Int) (r9 : Int) (r10 : List Int) (r11 : Int) (r12 : Bool) (r13 : Int) (w : World) (h : terraceref15_New.f  = some (r1, r2, r3, r4, r5, r6, r7, r8, r9, r10, r11, r12, r13)) :
    Calls Try.prog 11 #[] w fun e w' => ∃ v9_ : Value, e = .returned (.agg #[.int .i64 r1, .int .i64 r2, .int .i64 r3, .int .i64 r4, .int .i64 r5, .int .i64 r6, .int .i64 r7, .int .i64 r8, .int .i64 r9, v9_, .int .i64 r11, .bool r12, .int .i64 r13]) ∧ Kd.R (Kd.int .i64) 3 w' w.heap.size (fun _ => True) v9_ r10 ∧ Below w.heap.size w w' := by
  have hu41 := Try.underlying41
  have hu38 := Try.underlying38
  have HB := Aside0.mk (Below.refl w.heap.size w)
  have H : (some ((-1), (-1), (-1), (-1), (-1), (-1), (-1), (-1), 0, ([] : List Int), 0, false, 0)) = some (r1, r2, r3, r4, r5, r6, r7, r8, r9, r10, r11, r12, r13) := h
  clear h
  simp only [Option.some.injEq, Prod.mk.injEq] at H
  obtain ⟨rfl, rfl, rfl, rfl, rfl, rfl, rfl, rfl, rfl, rfl, rfl, rfl, rfl⟩ := H
  go_enter Try.func11, Try.ntmps11
  go_wp2_with (first | ((with_reducible refine gate_dst (N := 0) rfl ?_); refine box_event ?hg (N := 0) ?hd (cs := #[.int .i64 0, .int .i64 0, .int .i64 0, .int .i64 0, .int .i64 0, .int .i64 0, .int .i64 0, .int .i64 0, .int .i64 0, .slice none 0 0, .int .i64 0, .bool false, .int .i64 0]) (t := 41) ?hr ?_; (case hd => rfl); (case hg => rfl); (case hr => first | (go_simp; done) | (go_simp; rfl)); intro gb449 hg w1 hbox hb; have n0_ := Aside0.mk (below_step ((bbq6 HB.out)) hb); have n1_ := Aside0.mk (hbox); have n2_ := Aside0.mk ((by rw [hg]; exact (below_size ((bbq6 HB.out))) : w.heap.size ≤ gb449)); have n3_ := Aside0.mk ((by rw [hg]; exact (below_size ((bbq6 HB.out))) : w.heap.size ≤ gb449)); clear HB; have HB := n0_; have BK449 := n1_; have GW449 := n2_; have GE449 := n3_; clear n0_ n1_ n2_ n3_; clear hb hbox hg; obtain ⟨hcz2_0, hcz2_1, hcz2_2, hcz2_3, hcz2_4, hcz2_5, hcz2_6, hcz2_7, hcz2_8, hcz2_9, hcz2_10, hcz2_11, hcz2_12⟩ := bc13q6 BK449.out; have hfz2_0 := fun i_ => blk_frozen BK449.out i_))
  refine bodyPost_ret (results_cell_row rfl _ _ gb449 41 #[.int .i64 (-1), .int .i64 (-1), .int .i64 (-1), .int .i64 (-1), .int .i64 (-1), .int .i64 (-1), .int .i64 (-1), .int .i64 (-1), .int .i64 0, .slice none 0 0, .int .i64 0, .bool false, .int .i64 0] (0, 0) _ rfl (by refine bzq6 ?_; refine btq6 (i := 12) ?_; refine btq6 (i := 11) ?_; refine btq6 (i := 10) ?_; refine btq6 (i := 9) ?_; refine btq6 (i := 8) ?_; refine btq6 (i := 7) ?_; refine btq6 (i := 6) ?_; refine btq6 (i := 5) ?_; refine btq6 (i := 4) ?_; refine btq6 (i := 3) ?_; refine btq6 (i := 2) ?_; refine btq6 (i := 1) ?_; refine btq6 (i := 0) ?_; exact ⟨_, bpq6 BK449.out, by first | (simp only [List.setIfInBounds_toArray, List.set_cons_zero, List.set_cons_succ]; done) | rfl⟩) Try.underlying41 rfl (by kernel_rfl)) rfl ?_
  exact ⟨_, by first | rfl | (simp [errW_none, errW_some] <;> rfl) | (simp [*, errW_none, errW_some] <;> rfl), by first | exact Kd.R_nil _ _ _ _ _ | exact Kd.N_nil _ _ _ _ _ | exact Kd.V_nil _ _ _ _ _ | exact Kd.Q_nil _ _ _ _ _ | exact Kd.S_nil _ _ _ _ _, (bbq6 HB.out)⟩

/-! ### terracelaw15_within: function 8 -/
def terracelaw15_within.f (a0 : Int) : Option (Bool) := if a0 ≥ 0 then (some (decide (a0 ≤ 1099511627776))) else (some false)
set_option maxHeartbeats 8000000 in
set_option maxRecDepth 100000 in
theorem terracelaw15_within.calls (a0 : Int) (r : Bool) (w : World) (h : terracelaw15_within.f a0 = some r) :
    Calls Try.prog 8 #[.int .i64 a0] w fun e w' => e = .returned (.bool r) ∧ Drawn0 w w' := by
  have H : (if a0 ≥ 0 then (some (decide (a0 ≤ 1099511627776))) else (some false)) = some r := h
  clear h
  by_cases c2 : a0 ≥ 0
  · rw [if_pos c2] at H
    have c2b0 : decide (0 ≤ a0) = true := decide_eq_true c2
    clear c2
    obtain rfl := Option.some.inj H
    go_enter Try.func8, Try.ntmps8
    go_wp2
    go_ret
    exact ⟨by first | rfl | (simp; done) | (simp [*]; done), by repeat (first | exact Drawn0.refl _ | apply Drawn0.step)⟩
  · rw [if_neg c2] at H
    have c2b0 : decide (0 ≤ a0) = false := decide_eq_false c2
    clear c2
    obtain rfl := Option.some.inj H
    go_enter Try.func8, Try.ntmps8
    go_wp2
    go_ret
    exact ⟨by first | rfl | (simp; done) | (simp [*]; done), by repeat (first | exact Drawn0.refl _ | apply Drawn0.step)⟩

/-! ### detect_Detect_Forget: function 24 -/
def detect_Detect_Forget.f (s0_0 : Int) (s0_1 : Bool) (s0_2 : Int) (s0_3 : Bool) (s0_4 : Int) (s0_5 : Bool) (s0_6 : Int) (s0_7 : Bool) (s0_8 : Int) (s0_9 : Bool) (s0_10 : Int) (s0_11 : Bool) (s0_12 : Int) (s0_13 : Bool) (s0_14 : Int) (s0_15 : Bool) (s0_16 : Int) (l0_17 : List Int) (s0_18 : Int) (s0_19 : Int) (s0_20 : Bool) (a1 : Int) : Option (Int × Bool × Int × Bool × Int × Bool × Int × Bool × Int × Bool × Int × Bool × Int × Bool × Int × Bool × Int × List Int × Int × Int × Bool) := (detect_has.f a1).bind fun t450 => (if t450 = true then (if a1 = 0 then (some (0, false, s0_2, s0_3, s0_4, s0_5, s0_6, s0_7, s0_8, s0_9, s0_10, s0_11, s0_12, s0_13, s0_14, s0_15, s0_16, l0_17, s0_18, s0_19, s0_20)) else (if a1 = 1 then (some (s0_0, s0_1, 0, false, s0_4, s0_5, s0_6, s0_7, s0_8, s0_9, s0_10, s0_11, s0_12, s0_13, s0_14, s0_15, s0_16, l0_17, s0_18, s0_19, s0_20)) else (if a1 = 2 then (some (s0_0, s0_1, s0_2, s0_3, 0, false, s0_6, s0_7, s0_8, s0_9, s0_10, s0_11, s0_12, s0_13, s0_14, s0_15, s0_16, l0_17, s0_18, s0_19, s0_20)) else (if a1 = 3 then (some (s0_0, s0_1, s0_2, s0_3, s0_4, s0_5, 0, false, s0_8, s0_9, s0_10, s0_11, s0_12, s0_13, s0_14, s0_15, s0_16, l0_17, s0_18, s0_19, s0_20)) else (if a1 = 4 then (some (s0_0, s0_1, s0_2, s0_3, s0_4, s0_5, s0_6, s0_7, 0, false, s0_10, s0_11, s0_12, s0_13, s0_14, s0_15, s0_16, l0_17, s0_18, s0_19, s0_20)) else (if a1 = 5 then (some (s0_0, s0_1, s0_2, s0_3, s0_4, s0_5, s0_6, s0_7, s0_8, s0_9, 0, false, s0_12, s0_13, s0_14, s0_15, s0_16, l0_17, s0_18, s0_19, s0_20)) else (if a1 = 6 then (some (s0_0, s0_1, s0_2, s0_3, s0_4, s0_5, s0_6, s0_7, s0_8, s0_9, s0_10, s0_11, 0, false, s0_14, s0_15, s0_16, l0_17, s0_18, s0_19, s0_20)) else (if a1 = 7 then (some (s0_0, s0_1, s0_2, s0_3, s0_4, s0_5, s0_6, s0_7, s0_8, s0_9, s0_10, s0_11, s0_12, s0_13, 0, false, s0_16, l0_17, s0_18, s0_19, s0_20)) else (none))))))))) else (some (s0_0, s0_1, s0_2, s0_3, s0_4, s0_5, s0_6, s0_7, s0_8, s0_9, s0_10, s0_11, s0_12, s0_13, s0_14, s0_15, s0_16, l0_17, s0_18, s0_19, s0_20)))
set_option maxHeartbeats 8000000 in
set_option maxRecDepth 100000 in
theorem detect_Detect_Forget.calls (g : Nat) (gs0 : Nat) (s0_0 : Int) (s0_1 : Bool) (s0_2 : Int) (s0_3 : Bool) (s0_4 : Int) (s0_5 : Bool) (s0_6 : Int) (s0_7 : Bool) (s0_8 : Int) (s0_9 : Bool) (s0_10 : Int) (s0_11 : Bool) (s0_12 : Int) (s0_13 : Bool) (s0_14 : Int) (s0_15 : Bool) (s0_16 : Int) (P0_17_ : Nat → Prop) (u9000_ : Value) (l0_17 : List Int) (s0_18 : Int) (s0_19 : Int) (s0_20 : Bool) (a1 : Int) (r1 : Int) (r2 : Bool) (r3 : Int) (r4 : Bool) (r5 : Int) (r6 : Bool) (r7 : Int) (r8 : Bool) (r9 : Int) (r10 : Bool) (r11 : Int) (r12 : Bool) (r13 : Int) (r14 : Bool) (r15 : Int) (r16 : Bool) (r17 : Int) (r18 : List Int) (r19 : Int) (r20 : Int) (r21 : Bool) (w0 w : World) (hI : w.heap[g]? = some (.cells #[.int .u32 s0_0, .bool s0_1, .int .u32 s0_2, .bool s0_3, .int .u32 s0_4, .bool s0_5, .int .u32 s0_6, .bool s0_7, .int .u32 s0_8, .bool s0_9, .int .u32 s0_10, .bool s0_11, .int .u32 s0_12, .bool s0_13, .int .u32 s0_14, .bool s0_15, .pointer (some ⟨gs0, 0, none⟩), .int .i64 s0_18, .int .i64 s0_19, .bool s0_20] 54 (0, 0))) (hG : w0.heap.size ≤ g) (hI1 : w.heap[gs0]? = some (.cells #[.int .i64 s0_16, u9000_] 68 (0, 0))) (hG1 : w0.heap.size ≤ gs0) (hB : Below w0.heap.size w0 w) (ho0_17 : Kd.R (Kd.int .i64) 3 w w0.heap.size P0_17_ u9000_ l0_17) (h : detect_Detect_Forget.f s0_0 s0_1 s0_2 s0_3 s0_4 s0_5 s0_6 s0_7 s0_8 s0_9 s0_10 s0_11 s0_12 s0_13 s0_14 s0_15 s0_16 l0_17 s0_18 s0_19 s0_20 a1 = some (r1, r2, r3, r4, r5, r6, r7, r8, r9, r10, r11, r12, r13, r14, r15, r16, r17, r18, r19, r20, r21)) :
    Calls Try.prog 24 #[.pointer (some ⟨g, 0, none⟩), .int .i64 a1] w fun e w' => ∃ v17_ : Value, e = .returned (.tuple #[]) ∧ Kd.R (Kd.int .i64) 3 w' w0.heap.size (fun k_ => (P0_17_ k_ ∨ w.heap.size ≤ k_)) v17_ r18 ∧ w'.heap[g]? = some (.cells #[.int .u32 r1, .bool r2, .int .u32 r3, .bool r4, .int .u32 r5, .bool r6, .int .u32 r7, .bool r8, .int .u32 r9, .bool r10, .int .u32 r11, .bool r12, .int .u32 r13, .bool r14, .int .u32 r15, .bool r16, .pointer (some ⟨gs0, 0, none⟩), .int .i64 r19, .int .i64 r20, .bool r21] 54 (0, 0)) ∧ w'.heap[gs0]? = some (.cells #[.int .i64 r17, v17_] 68 (0, 0)) ∧ Below w0.heap.size w0 w' ∧ Kept w w' (fun k_ => ((P0_17_ k_) ∨ k_ = g) ∨ k_ = gs0) := by
  have hu51 := Try.underlying51
  have HO0_17 := Aside0.mk (show Kd.R (Kd.int .i64) 3 w w0.heap.size (fun k_ => (P0_17_ k_ ∨ w.heap.size ≤ k_)) u9000_ l0_17 from Kd.R_mono ho0_17 (fun k_ hk => (.inl hk)))
  have NB0_50 := Aside0.mk (show g ≠ gs0 from fun e_ => by have h1_ := hI; have h2_ := hI1; rw [e_] at h1_; have h_ := h1_.symm.trans h2_; simp at h_)
  have NB50_0 := Aside0.mk (show gs0 ≠ g from fun e_ => by have h1_ := hI1; have h2_ := hI; rw [e_] at h1_; have h_ := h1_.symm.trans h2_; simp at h_)
  have BK0 := Aside0.mk hI
  have GE0 := Aside0.mk hG
  have BK50 := Aside0.mk hI1
  have GE50 := Aside0.mk hG1
  clear hI hG hI1 hG1
  have HK := Aside0.mk (Kept.refl w (fun k_ => ((P0_17_ k_) ∨ k_ = g) ∨ k_ = gs0))
  have HW0 := Aside0.mk hB.size
  have HB := Aside0.mk hB
  clear hB
  have H : ((detect_has.f a1).bind fun t450 => (if t450 = true then (if a1 = 0 then (some (0, false, s0_2, s0_3, s0_4, s0_5, s0_6, s0_7, s0_8, s0_9, s0_10, s0_11, s0_12, s0_13, s0_14, s0_15, s0_16, l0_17, s0_18, s0_19, s0_20)) else (if a1 = 1 then (some (s0_0, s0_1, 0, false, s0_4, s0_5, s0_6, s0_7, s0_8, s0_9, s0_10, s0_11, s0_12, s0_13, s0_14, s0_15, s0_16, l0_17, s0_18, s0_19, s0_20)) else (if a1 = 2 then (some (s0_0, s0_1, s0_2, s0_3, 0, false, s0_6, s0_7, s0_8, s0_9, s0_10, s0_11, s0_12, s0_13, s0_14, s0_15, s0_16, l0_17, s0_18, s0_19, s0_20)) else (if a1 = 3 then (some (s0_0, s0_1, s0_2, s0_3, s0_4, s0_5, 0, false, s0_8, s0_9, s0_10, s0_11, s0_12, s0_13, s0_14, s0_15, s0_16, l0_17, s0_18, s0_19, s0_20)) else (if a1 = 4 then (some (s0_0, s0_1, s0_2, s0_3, s0_4, s0_5, s0_6, s0_7, 0, false, s0_10, s0_11, s0_12, s0_13, s0_14, s0_15, s0_16, l0_17, s0_18, s0_19, s0_20)) else (if a1 = 5 then (some (s0_0, s0_1, s0_2, s0_3, s0_4, s0_5, s0_6, s0_7, s0_8, s0_9, 0, false, s0_12, s0_13, s0_14, s0_15, s0_16, l0_17, s0_18, s0_19, s0_20)) else (if a1 = 6 then (some (s0_0, s0_1, s0_2, s0_3, s0_4, s0_5, s0_6, s0_7, s0_8, s0_9, s0_10, s0_11, 0, false, s0_14, s0_15, s0_16, l0_17, s0_18, s0_19, s0_20)) else (if a1 = 7 then (some (s0_0, s0_1, s0_2, s0_3, s0_4, s0_5, s0_6, s0_7, s0_8, s0_9, s0_10, s0_11, s0_12, s0_13, 0, false, s0_16, l0_17, s0_18, s0_19, s0_20)) else (none))))))))) else (some (s0_0, s0_1, s0_2, s0_3, s0_4, s0_5, s0_6, s0_7, s0_8, s0_9, s0_10, s0_11, s0_12, s0_13, s0_14, s0_15, s0_16, l0_17, s0_18, s0_19, s0_20)))) = some (r1, r2, r3, r4, r5, r6, r7, r8, r9, r10, r11, r12, r13, r14, r15, r16, r17, r18, r19, r20, r21) := h
  clear h
  replace H := Option.bind_eq_some_iff.mp H
  obtain ⟨t450, A30, H⟩ := H
  replace H : (if t450 = true then (if a1 = 0 then (some (0, false, s0_2, s0_3, s0_4, s0_5, s0_6, s0_7, s0_8, s0_9, s0_10, s0_11, s0_12, s0_13, s0_14, s0_15, s0_16, l0_17, s0_18, s0_19, s0_20)) else (if a1 = 1 then (some (s0_0, s0_1, 0, false, s0_4, s0_5, s0_6, s0_7, s0_8, s0_9, s0_10, s0_11, s0_12, s0_13, s0_14, s0_15, s0_16, l0_17, s0_18, s0_19, s0_20)) else (if a1 = 2 then (some (s0_0, s0_1, s0_2, s0_3, 0, false, s0_6, s0_7, s0_8, s0_9, s0_10, s0_11, s0_12, s0_13, s0_14, s0_15, s0_16, l0_17, s0_18, s0_19, s0_20)) else (if a1 = 3 then (some (s0_0, s0_1, s0_2, s0_3, s0_4, s0_5, 0, false, s0_8, s0_9, s0_10, s0_11, s0_12, s0_13, s0_14, s0_15, s0_16, l0_17, s0_18, s0_19, s0_20)) else (if a1 = 4 then (some (s0_0, s0_1, s0_2, s0_3, s0_4, s0_5, s0_6, s0_7, 0, false, s0_10, s0_11, s0_12, s0_13, s0_14, s0_15, s0_16, l0_17, s0_18, s0_19, s0_20)) else (if a1 = 5 then (some (s0_0, s0_1, s0_2, s0_3, s0_4, s0_5, s0_6, s0_7, s0_8, s0_9, 0, false, s0_12, s0_13, s0_14, s0_15, s0_16, l0_17, s0_18, s0_19, s0_20)) else (if a1 = 6 then (some (s0_0, s0_1, s0_2, s0_3, s0_4, s0_5, s0_6, s0_7, s0_8, s0_9, s0_10, s0_11, 0, false, s0_14, s0_15, s0_16, l0_17, s0_18, s0_19, s0_20)) else (if a1 = 7 then (some (s0_0, s0_1, s0_2, s0_3, s0_4, s0_5, s0_6, s0_7, s0_8, s0_9, s0_10, s0_11, s0_12, s0_13, 0, false, s0_16, l0_17, s0_18, s0_19, s0_20)) else (none))))))))) else (some (s0_0, s0_1, s0_2, s0_3, s0_4, s0_5, s0_6, s0_7, s0_8, s0_9, s0_10, s0_11, s0_12, s0_13, s0_14, s0_15, s0_16, l0_17, s0_18, s0_19, s0_20))) = some (r1, r2, r3, r4, r5, r6, r7, r8, r9, r10, r11, r12, r13, r14, r15, r16, r17, r18, r19, r20, r21) := H
  have A3 := Aside0.mk A30
  clear A30
  by_cases c4 : t450 = true
  · subst c4
    have H1 : (if a1 = 0 then (some (0, false, s0_2, s0_3, s0_4, s0_5, s0_6, s0_7, s0_8, s0_9, s0_10, s0_11, s0_12, s0_13, s0_14, s0_15, s0_16, l0_17, s0_18, s0_19, s0_20)) else (if a1 = 1 then (some (s0_0, s0_1, 0, false, s0_4, s0_5, s0_6, s0_7, s0_8, s0_9, s0_10, s0_11, s0_12, s0_13, s0_14, s0_15, s0_16, l0_17, s0_18, s0_19, s0_20)) else (if a1 = 2 then (some (s0_0, s0_1, s0_2, s0_3, 0, false, s0_6, s0_7, s0_8, s0_9, s0_10, s0_11, s0_12, s0_13, s0_14, s0_15, s0_16, l0_17, s0_18, s0_19, s0_20)) else (if a1 = 3 then (some (s0_0, s0_1, s0_2, s0_3, s0_4, s0_5, 0, false, s0_8, s0_9, s0_10, s0_11, s0_12, s0_13, s0_14, s0_15, s0_16, l0_17, s0_18, s0_19, s0_20)) else (if a1 = 4 then (some (s0_0, s0_1, s0_2, s0_3, s0_4, s0_5, s0_6, s0_7, 0, false, s0_10, s0_11, s0_12, s0_13, s0_14, s0_15, s0_16, l0_17, s0_18, s0_19, s0_20)) else (if a1 = 5 then (some (s0_0, s0_1, s0_2, s0_3, s0_4, s0_5, s0_6, s0_7, s0_8, s0_9, 0, false, s0_12, s0_13, s0_14, s0_15, s0_16, l0_17, s0_18, s0_19, s0_20)) else (if a1 = 6 then (some (s0_0, s0_1, s0_2, s0_3, s0_4, s0_5, s0_6, s0_7, s0_8, s0_9, s0_10, s0_11, 0, false, s0_14, s0_15, s0_16, l0_17, s0_18, s0_19, s0_20)) else (if a1 = 7 then (some (s0_0, s0_1, s0_2, s0_3, s0_4, s0_5, s0_6, s0_7, s0_8, s0_9, s0_10, s0_11, s0_12, s0_13, 0, false, s0_16, l0_17, s0_18, s0_19, s0_20)) else (none))))))))) = some (r1, r2, r3, r4, r5, r6, r7, r8, r9, r10, r11, r12, r13, r14, r15, r16, r17, r18, r19, r20, r21) := by rw [if_pos rfl] at H; exact H
    clear H
    have H := H1
    clear H1
    by_cases c5 : a1 = 0
    · rw [if_pos c5] at H
      have c5b0 : (a1 == 0) = true := beq_iff_eq.mpr c5
      have c5b1 : (a1 != 0) = false := bne_eq_false_iff_eq.mpr c5
      clear c5
      have hq451 : a1 = 0 := beq_iff_eq.mp (by assumption)
      have hua451 := Try.underlying52
      have hia451 : ∀ W : World, (Instr.indexAt 52 (.pointer (some ⟨g, 0, none⟩)) (.int .i64 a1)).run Try.prog W = .ok (.pointer (some ⟨g, 0, none⟩)) W := by intro W; rw [hq451]; first | (go_simp; done) | (go_simp; rfl) | rfl
      clear hq451
      simp only [Option.some.injEq, Prod.mk.injEq] at H
      obtain ⟨rfl, rfl, rfl, rfl, rfl, rfl, rfl, rfl, rfl, rfl, rfl, rfl, rfl, rfl, rfl, rfl, rfl, rfl, rfl, rfl, rfl⟩ := H
      go_enter Try.func24, Try.ntmps24
      go_wp2_with (first | ((with_reducible refine gate_callee (f := 19) rfl ?_); refine goesL_ (some 5) rfl rfl Try.func19 (by kernel_rfl) rfl #[.int .i64 a1] rfl (by (try simp only [List.map_toArray, List.map_cons, List.map_nil]); first | done | rfl | (simp only [List.length_drop, List.length_take]; rfl)) ?_; (with_reducible refine (detect_has.calls a1 true _ A3.out).mono ?_); rintro e w' ⟨rfl, ⟨nd, rfl⟩⟩; refine ⟨_, rfl, ?_⟩; have hnb6 := NB0_50.out; have hnc6 := NB50_0.out; obtain ⟨hcz7_0, hcz7_1, hcz7_2, hcz7_3, hcz7_4, hcz7_5, hcz7_6, hcz7_7, hcz7_8, hcz7_9, hcz7_10, hcz7_11, hcz7_12, hcz7_13, hcz7_14, hcz7_15, hcz7_16, hcz7_17, hcz7_18, hcz7_19⟩ := bc20q6 BK0.out; have hfz7_0 := fun i_ => blk_frozen BK0.out i_))
      first | go_end0 | ((try simp only [Exit.inBlock, Exit.then]); refine bodyPost_ret (results_none rfl _ _ _) rfl ?_)
      exact ⟨_, by first | rfl | (simp [errW_none, errW_some] <;> rfl) | (simp [*, errW_none, errW_some] <;> rfl), by (with_reducible repeat (first | apply Kd.R_alloc | apply Kd.R_drewN | apply Kd.R_drew)); exact Kd.R_mono (Kd.R_far (Kd.R_far (Kd.R_types HO0_17.out BK0.out (by decide)) (fun _ hk => hk.2) _) (fun _ hk => hk.2) _) (fun _ hk => hk.1), (by refine bzq6 ?_; refine btq6 (i := 1) ?_; refine btq6 (i := 0) ?_; exact ⟨_, bpq6 BK0.out, rfl⟩), (by refine bfq6 NB50_0.out ?_; refine bfq6 NB50_0.out ?_; exact bpq6 BK50.out), (bbq6 HB.out), (kkq6 HK.out)⟩
    · rw [if_neg c5] at H
      have c5b0 : (a1 == 0) = false := beq_eq_false_iff_ne.mpr c5
      have c5b1 : (a1 != 0) = true := bne_iff_ne.mpr c5
      by_cases c8 : a1 = 1
      · rw [if_pos c8] at H
        have c8b0 : (a1 == 1) = true := beq_iff_eq.mpr c8
        have c8b1 : (a1 != 1) = false := bne_eq_false_iff_eq.mpr c8
        clear c8
        have hq452 : a1 = 1 := beq_iff_eq.mp (by assumption)
        have hua452 := Try.underlying52
        have hia452 : ∀ W : World, (Instr.indexAt 52 (.pointer (some ⟨g, 0, none⟩)) (.int .i64 a1)).run Try.prog W = .ok (.pointer (some ⟨g, 2, none⟩)) W := by intro W; rw [hq452]; first | (go_simp; done) | (go_simp; rfl) | rfl
        clear hq452
        simp only [Option.some.injEq, Prod.mk.injEq] at H
        obtain ⟨rfl, rfl, rfl, rfl, rfl, rfl, rfl, rfl, rfl, rfl, rfl, rfl, rfl, rfl, rfl, rfl, rfl, rfl, rfl, rfl, rfl⟩ := H
        go_enter Try.func24, Try.ntmps24
        go_wp2_with (first | ((with_reducible refine gate_callee (f := 19) rfl ?_); refine goesL_ (some 5) rfl rfl Try.func19 (by kernel_rfl) rfl #[.int .i64 a1] rfl (by (try simp only [List.map_toArray, List.map_cons, List.map_nil]); first | done | rfl | (simp only [List.length_drop, List.length_take]; rfl)) ?_; (with_reducible refine (detect_has.calls a1 true _ A3.out).mono ?_); rintro e w' ⟨rfl, ⟨nd, rfl⟩⟩; refine ⟨_, rfl, ?_⟩; have hnb9 := NB0_50.out; have hnc9 := NB50_0.out; obtain ⟨hcz10_0, hcz10_1, hcz10_2, hcz10_3, hcz10_4, hcz10_5, hcz10_6, hcz10_7, hcz10_8, hcz10_9, hcz10_10, hcz10_11, hcz10_12, hcz10_13, hcz10_14, hcz10_15, hcz10_16, hcz10_17, hcz10_18, hcz10_19⟩ := bc20q6 BK0.out; have hfz10_0 := fun i_ => blk_frozen BK0.out i_))
        first | go_end0 | ((try simp only [Exit.inBlock, Exit.then]); refine bodyPost_ret (results_none rfl _ _ _) rfl ?_)
        exact ⟨_, by first | rfl | (simp [errW_none, errW_some] <;> rfl) | (simp [*, errW_none, errW_some] <;> rfl), by (with_reducible repeat (first | apply Kd.R_alloc | apply Kd.R_drewN | apply Kd.R_drew)); exact Kd.R_mono (Kd.R_far (Kd.R_far (Kd.R_types HO0_17.out BK0.out (by decide)) (fun _ hk => hk.2) _) (fun _ hk => hk.2) _) (fun _ hk => hk.1), (by refine bzq6 ?_; refine btq6 (i := 3) ?_; refine btq6 (i := 2) ?_; exact ⟨_, bpq6 BK0.out, rfl⟩), (by refine bfq6 NB50_0.out ?_; refine bfq6 NB50_0.out ?_; exact bpq6 BK50.out), (bbq6 HB.out), (kkq6 HK.out)⟩
      · rw [if_neg c8] at H
        have c8b0 : (a1 == 1) = false := beq_eq_false_iff_ne.mpr c8
        have c8b1 : (a1 != 1) = true := bne_iff_ne.mpr c8
        by_cases c11 : a1 = 2
        · rw [if_pos c11] at H
          have c11b0 : (a1 == 2) = true := beq_iff_eq.mpr c11
          have c11b1 : (a1 != 2) = false := bne_eq_false_iff_eq.mpr c11
          clear c11
          have hq453 : a1 = 2 := beq_iff_eq.mp (by assumption)
          have hua453 := Try.underlying52
          have hia453 : ∀ W : World, (Instr.indexAt 52 (.pointer (some ⟨g, 0, none⟩)) (.int .i64 a1)).run Try.prog W = .ok (.pointer (some ⟨g, 4, none⟩)) W := by intro W; rw [hq453]; first | (go_simp; done) | (go_simp; rfl) | rfl
          clear hq453
          simp only [Option.some.injEq, Prod.mk.injEq] at H
          obtain ⟨rfl, rfl, rfl, rfl, rfl, rfl, rfl, rfl, rfl, rfl, rfl, rfl, rfl, rfl, rfl, rfl, rfl, rfl, rfl, rfl, rfl⟩ := H
          go_enter Try.func24, Try.ntmps24
          go_wp2_with (first | ((with_reducible refine gate_callee (f := 19) rfl ?_); refine goesL_ (some 5) rfl rfl Try.func19 (by kernel_rfl) rfl #[.int .i64 a1] rfl (by (try simp only [List.map_toArray, List.map_cons, List.map_nil]); first | done | rfl | (simp only [List.length_drop, List.length_take]; rfl)) ?_; (with_reducible refine (detect_has.calls a1 true _ A3.out).mono ?_); rintro e w' ⟨rfl, ⟨nd, rfl⟩⟩; refine ⟨_, rfl, ?_⟩; have hnb12 := NB0_50.out; have hnc12 := NB50_0.out; obtain ⟨hcz13_0, hcz13_1, hcz13_2, hcz13_3, hcz13_4, hcz13_5, hcz13_6, hcz13_7, hcz13_8, hcz13_9, hcz13_10, hcz13_11, hcz13_12, hcz13_13, hcz13_14, hcz13_15, hcz13_16, hcz13_17, hcz13_18, hcz13_19⟩ := bc20q6 BK0.out; have hfz13_0 := fun i_ => blk_frozen BK0.out i_))
          first | go_end0 | ((try simp only [Exit.inBlock, Exit.then]); refine bodyPost_ret (results_none rfl _ _ _) rfl ?_)
          exact ⟨_, by first | rfl | (simp [errW_none, errW_some] <;> rfl) | (simp [*, errW_none, errW_some] <;> rfl), by (with_reducible repeat (first | apply Kd.R_alloc | apply Kd.R_drewN | apply Kd.R_drew)); exact Kd.R_mono (Kd.R_far (Kd.R_far (Kd.R_types HO0_17.out BK0.out (by decide)) (fun _ hk => hk.2) _) (fun _ hk => hk.2) _) (fun _ hk => hk.1), (by refine bzq6 ?_; refine btq6 (i := 5) ?_; refine btq6 (i := 4) ?_; exact ⟨_, bpq6 BK0.out, rfl⟩), (by refine bfq6 NB50_0.out ?_; refine bfq6 NB50_0.out ?_; exact bpq6 BK50.out), (bbq6 HB.out), (kkq6 HK.out)⟩
        · rw [if_neg c11] at H
          have c11b0 : (a1 == 2) = false := beq_eq_false_iff_ne.mpr c11
          have c11b1 : (a1 != 2) = true := bne_iff_ne.mpr c11
          by_cases c14 : a1 = 3
          · rw [if_pos c14] at H
            have c14b0 : (a1 == 3) = true := beq_iff_eq.mpr c14
            have c14b1 : (a1 != 3) = false := bne_eq_false_iff_eq.mpr c14
            clear c14
            have hq454 : a1 = 3 := beq_iff_eq.mp (by assumption)
            have hua454 := Try.underlying52
            have hia454 : ∀ W : World, (Instr.indexAt 52 (.pointer (some ⟨g, 0, none⟩)) (.int .i64 a1)).run Try.prog W = .ok (.pointer (some ⟨g, 6, none⟩)) W := by intro W; rw [hq454]; first | (go_simp; done) | (go_simp; rfl) | rfl
            clear hq454
            simp only [Option.some.injEq, Prod.mk.injEq] at H
            obtain ⟨rfl, rfl, rfl, rfl, rfl, rfl, rfl, rfl, rfl, rfl, rfl, rfl, rfl, rfl, rfl, rfl, rfl, rfl, rfl, rfl, rfl⟩ := H
            go_enter Try.func24, Try.ntmps24
            go_wp2_with (first | ((with_reducible refine gate_callee (f := 19) rfl ?_); refine goesL_ (some 5) rfl rfl Try.func19 (by kernel_rfl) rfl #[.int .i64 a1] rfl (by (try simp only [List.map_toArray, List.map_cons, List.map_nil]); first | done | rfl | (simp only [List.length_drop, List.length_take]; rfl)) ?_; (with_reducible refine (detect_has.calls a1 true _ A3.out).mono ?_); rintro e w' ⟨rfl, ⟨nd, rfl⟩⟩; refine ⟨_, rfl, ?_⟩; have hnb15 := NB0_50.out; have hnc15 := NB50_0.out; obtain ⟨hcz16_0, hcz16_1, hcz16_2, hcz16_3, hcz16_4, hcz16_5, hcz16_6, hcz16_7, hcz16_8, hcz16_9, hcz16_10, hcz16_11, hcz16_12, hcz16_13, hcz16_14, hcz16_15, hcz16_16, hcz16_17, hcz16_18, hcz16_19⟩ := bc20q6 BK0.out; have hfz16_0 := fun i_ => blk_frozen BK0.out i_))
            first | go_end0 | ((try simp only [Exit.inBlock, Exit.then]); refine bodyPost_ret (results_none rfl _ _ _) rfl ?_)
            exact ⟨_, by first | rfl | (simp [errW_none, errW_some] <;> rfl) | (simp [*, errW_none, errW_some] <;> rfl), by (with_reducible repeat (first | apply Kd.R_alloc | apply Kd.R_drewN | apply Kd.R_drew)); exact Kd.R_mono (Kd.R_far (Kd.R_far (Kd.R_types HO0_17.out BK0.out (by decide)) (fun _ hk => hk.2) _) (fun _ hk => hk.2) _) (fun _ hk => hk.1), (by refine bzq6 ?_; refine btq6 (i := 7) ?_; refine btq6 (i := 6) ?_; exact ⟨_, bpq6 BK0.out, rfl⟩), (by refine bfq6 NB50_0.out ?_; refine bfq6 NB50_0.out ?_; exact bpq6 BK50.out), (bbq6 HB.out), (kkq6 HK.out)⟩
          · rw [if_neg c14] at H
            have c14b0 : (a1 == 3) = false := beq_eq_false_iff_ne.mpr c14
            have c14b1 : (a1 != 3) = true := bne_iff_ne.mpr c14
            by_cases c17 : a1 = 4
            · rw [if_pos c17] at H
              have c17b0 : (a1 == 4) = true := beq_iff_eq.mpr c17
              have c17b1 : (a1 != 4) = false := bne_eq_false_iff_eq.mpr c17
              clear c17
              have hq455 : a1 = 4 := beq_iff_eq.mp (by assumption)
              have hua455 := Try.underlying52
              have hia455 : ∀ W : World, (Instr.indexAt 52 (.pointer (some ⟨g, 0, none⟩)) (.int .i64 a1)).run Try.prog W = .ok (.pointer (some ⟨g, 8, none⟩)) W := by intro W; rw [hq455]; first | (go_simp; done) | (go_simp; rfl) | rfl
              clear hq455
              simp only [Option.some.injEq, Prod.mk.injEq] at H
              obtain ⟨rfl, rfl, rfl, rfl, rfl, rfl, rfl, rfl, rfl, rfl, rfl, rfl, rfl, rfl, rfl, rfl, rfl, rfl, rfl, rfl, rfl⟩ := H
              go_enter Try.func24, Try.ntmps24
              go_wp2_with (first | ((with_reducible refine gate_callee (f := 19) rfl ?_); refine goesL_ (some 5) rfl rfl Try.func19 (by kernel_rfl) rfl #[.int .i64 a1] rfl (by (try simp only [List.map_toArray, List.map_cons, List.map_nil]); first | done | rfl | (simp only [List.length_drop, List.length_take]; rfl)) ?_; (with_reducible refine (detect_has.calls a1 true _ A3.out).mono ?_); rintro e w' ⟨rfl, ⟨nd, rfl⟩⟩; refine ⟨_, rfl, ?_⟩; have hnb18 := NB0_50.out; have hnc18 := NB50_0.out; obtain ⟨hcz19_0, hcz19_1, hcz19_2, hcz19_3, hcz19_4, hcz19_5, hcz19_6, hcz19_7, hcz19_8, hcz19_9, hcz19_10, hcz19_11, hcz19_12, hcz19_13, hcz19_14, hcz19_15, hcz19_16, hcz19_17, hcz19_18, hcz19_19⟩ := bc20q6 BK0.out; have hfz19_0 := fun i_ => blk_frozen BK0.out i_))
              first | go_end0 | ((try simp only [Exit.inBlock, Exit.then]); refine bodyPost_ret (results_none rfl _ _ _) rfl ?_)
              exact ⟨_, by first | rfl | (simp [errW_none, errW_some] <;> rfl) | (simp [*, errW_none, errW_some] <;> rfl), by (with_reducible repeat (first | apply Kd.R_alloc | apply Kd.R_drewN | apply Kd.R_drew)); exact Kd.R_mono (Kd.R_far (Kd.R_far (Kd.R_types HO0_17.out BK0.out (by decide)) (fun _ hk => hk.2) _) (fun _ hk => hk.2) _) (fun _ hk => hk.1), (by refine bzq6 ?_; refine btq6 (i := 9) ?_; refine btq6 (i := 8) ?_; exact ⟨_, bpq6 BK0.out, rfl⟩), (by refine bfq6 NB50_0.out ?_; refine bfq6 NB50_0.out ?_; exact bpq6 BK50.out), (bbq6 HB.out), (kkq6 HK.out)⟩
            · rw [if_neg c17] at H
              have c17b0 : (a1 == 4) = false := beq_eq_false_iff_ne.mpr c17
              have c17b1 : (a1 != 4) = true := bne_iff_ne.mpr c17
              by_cases c20 : a1 = 5
              · rw [if_pos c20] at H
                have c20b0 : (a1 == 5) = true := beq_iff_eq.mpr c20
                have c20b1 : (a1 != 5) = false := bne_eq_false_iff_eq.mpr c20
                clear c20
                have hq456 : a1 = 5 := beq_iff_eq.mp (by assumption)
                have hua456 := Try.underlying52
                have hia456 : ∀ W : World, (Instr.indexAt 52 (.pointer (some ⟨g, 0, none⟩)) (.int .i64 a1)).run Try.prog W = .ok (.pointer (some ⟨g, 10, none⟩)) W := by intro W; rw [hq456]; first | (go_simp; done) | (go_simp; rfl) | rfl
                clear hq456
                simp only [Option.some.injEq, Prod.mk.injEq] at H
                obtain ⟨rfl, rfl, rfl, rfl, rfl, rfl, rfl, rfl, rfl, rfl, rfl, rfl, rfl, rfl, rfl, rfl, rfl, rfl, rfl, rfl, rfl⟩ := H
                go_enter Try.func24, Try.ntmps24
                go_wp2_with (first | ((with_reducible refine gate_callee (f := 19) rfl ?_); refine goesL_ (some 5) rfl rfl Try.func19 (by kernel_rfl) rfl #[.int .i64 a1] rfl (by (try simp only [List.map_toArray, List.map_cons, List.map_nil]); first | done | rfl | (simp only [List.length_drop, List.length_take]; rfl)) ?_; (with_reducible refine (detect_has.calls a1 true _ A3.out).mono ?_); rintro e w' ⟨rfl, ⟨nd, rfl⟩⟩; refine ⟨_, rfl, ?_⟩; have hnb21 := NB0_50.out; have hnc21 := NB50_0.out; obtain ⟨hcz22_0, hcz22_1, hcz22_2, hcz22_3, hcz22_4, hcz22_5, hcz22_6, hcz22_7, hcz22_8, hcz22_9, hcz22_10, hcz22_11, hcz22_12, hcz22_13, hcz22_14, hcz22_15, hcz22_16, hcz22_17, hcz22_18, hcz22_19⟩ := bc20q6 BK0.out; have hfz22_0 := fun i_ => blk_frozen BK0.out i_))
                first | go_end0 | ((try simp only [Exit.inBlock, Exit.then]); refine bodyPost_ret (results_none rfl _ _ _) rfl ?_)
                exact ⟨_, by first | rfl | (simp [errW_none, errW_some] <;> rfl) | (simp [*, errW_none, errW_some] <;> rfl), by (with_reducible repeat (first | apply Kd.R_alloc | apply Kd.R_drewN | apply Kd.R_drew)); exact Kd.R_mono (Kd.R_far (Kd.R_far (Kd.R_types HO0_17.out BK0.out (by decide)) (fun _ hk => hk.2) _) (fun _ hk => hk.2) _) (fun _ hk => hk.1), (by refine bzq6 ?_; refine btq6 (i := 11) ?_; refine btq6 (i := 10) ?_; exact ⟨_, bpq6 BK0.out, rfl⟩), (by refine bfq6 NB50_0.out ?_; refine bfq6 NB50_0.out ?_; exact bpq6 BK50.out), (bbq6 HB.out), (kkq6 HK.out)⟩
              · rw [if_neg c20] at H
                have c20b0 : (a1 == 5) = false := beq_eq_false_iff_ne.mpr c20
                have c20b1 : (a1 != 5) = true := bne_iff_ne.mpr c20
                by_cases c23 : a1 = 6
                · rw [if_pos c23] at H
                  have c23b0 : (a1 == 6) = true := beq_iff_eq.mpr c23
                  have c23b1 : (a1 != 6) = false := bne_eq_false_iff_eq.mpr c23
                  clear c23
                  have hq457 : a1 = 6 := beq_iff_eq.mp (by assumption)
                  have hua457 := Try.underlying52
                  have hia457 : ∀ W : World, (Instr.indexAt 52 (.pointer (some ⟨g, 0, none⟩)) (.int .i64 a1)).run Try.prog W = .ok (.pointer (some ⟨g, 12, none⟩)) W := by intro W; rw [hq457]; first | (go_simp; done) | (go_simp; rfl) | rfl
                  clear hq457
                  simp only [Option.some.injEq, Prod.mk.injEq] at H
                  obtain ⟨rfl, rfl, rfl, rfl, rfl, rfl, rfl, rfl, rfl, rfl, rfl, rfl, rfl, rfl, rfl, rfl, rfl, rfl, rfl, rfl, rfl⟩ := H
                  go_enter Try.func24, Try.ntmps24
                  go_wp2_with (first | ((with_reducible refine gate_callee (f := 19) rfl ?_); refine goesL_ (some 5) rfl rfl Try.func19 (by kernel_rfl) rfl #[.int .i64 a1] rfl (by (try simp only [List.map_toArray, List.map_cons, List.map_nil]); first | done | rfl | (simp only [List.length_drop, List.length_take]; rfl)) ?_; (with_reducible refine (detect_has.calls a1 true _ A3.out).mono ?_); rintro e w' ⟨rfl, ⟨nd, rfl⟩⟩; refine ⟨_, rfl, ?_⟩; have hnb24 := NB0_50.out; have hnc24 := NB50_0.out; obtain ⟨hcz25_0, hcz25_1, hcz25_2, hcz25_3, hcz25_4, hcz25_5, hcz25_6, hcz25_7, hcz25_8, hcz25_9, hcz25_10, hcz25_11, hcz25_12, hcz25_13, hcz25_14, hcz25_15, hcz25_16, hcz25_17, hcz25_18, hcz25_19⟩ := bc20q6 BK0.out; have hfz25_0 := fun i_ => blk_frozen BK0.out i_))
                  first | go_end0 | ((try simp only [Exit.inBlock, Exit.then]); refine bodyPost_ret (results_none rfl _ _ _) rfl ?_)
                  exact ⟨_, by first | rfl | (simp [errW_none, errW_some] <;> rfl) | (simp [*, errW_none, errW_some] <;> rfl), by (with_reducible repeat (first | apply Kd.R_alloc | apply Kd.R_drewN | apply Kd.R_drew)); exact Kd.R_mono (Kd.R_far (Kd.R_far (Kd.R_types HO0_17.out BK0.out (by decide)) (fun _ hk => hk.2) _) (fun _ hk => hk.2) _) (fun _ hk => hk.1), (by refine bzq6 ?_; refine btq6 (i := 13) ?_; refine btq6 (i := 12) ?_; exact ⟨_, bpq6 BK0.out, rfl⟩), (by refine bfq6 NB50_0.out ?_; refine bfq6 NB50_0.out ?_; exact bpq6 BK50.out), (bbq6 HB.out), (kkq6 HK.out)⟩
                · rw [if_neg c23] at H
                  have c23b0 : (a1 == 6) = false := beq_eq_false_iff_ne.mpr c23
                  have c23b1 : (a1 != 6) = true := bne_iff_ne.mpr c23
                  by_cases c26 : a1 = 7
                  · rw [if_pos c26] at H
                    have c26b0 : (a1 == 7) = true := beq_iff_eq.mpr c26
                    have c26b1 : (a1 != 7) = false := bne_eq_false_iff_eq.mpr c26
                    clear c26
                    have hq458 : a1 = 7 := beq_iff_eq.mp (by assumption)
                    have hua458 := Try.underlying52
                    have hia458 : ∀ W : World, (Instr.indexAt 52 (.pointer (some ⟨g, 0, none⟩)) (.int .i64 a1)).run Try.prog W = .ok (.pointer (some ⟨g, 14, none⟩)) W := by intro W; rw [hq458]; first | (go_simp; done) | (go_simp; rfl) | rfl
                    clear hq458
                    simp only [Option.some.injEq, Prod.mk.injEq] at H
                    obtain ⟨rfl, rfl, rfl, rfl, rfl, rfl, rfl, rfl, rfl, rfl, rfl, rfl, rfl, rfl, rfl, rfl, rfl, rfl, rfl, rfl, rfl⟩ := H
                    go_enter Try.func24, Try.ntmps24
                    go_wp2_with (first | ((with_reducible refine gate_callee (f := 19) rfl ?_); refine goesL_ (some 5) rfl rfl Try.func19 (by kernel_rfl) rfl #[.int .i64 a1] rfl (by (try simp only [List.map_toArray, List.map_cons, List.map_nil]); first | done | rfl | (simp only [List.length_drop, List.length_take]; rfl)) ?_; (with_reducible refine (detect_has.calls a1 true _ A3.out).mono ?_); rintro e w' ⟨rfl, ⟨nd, rfl⟩⟩; refine ⟨_, rfl, ?_⟩; have hnb27 := NB0_50.out; have hnc27 := NB50_0.out; obtain ⟨hcz28_0, hcz28_1, hcz28_2, hcz28_3, hcz28_4, hcz28_5, hcz28_6, hcz28_7, hcz28_8, hcz28_9, hcz28_10, hcz28_11, hcz28_12, hcz28_13, hcz28_14, hcz28_15, hcz28_16, hcz28_17, hcz28_18, hcz28_19⟩ := bc20q6 BK0.out; have hfz28_0 := fun i_ => blk_frozen BK0.out i_))
                    first | go_end0 | ((try simp only [Exit.inBlock, Exit.then]); refine bodyPost_ret (results_none rfl _ _ _) rfl ?_)
                    exact ⟨_, by first | rfl | (simp [errW_none, errW_some] <;> rfl) | (simp [*, errW_none, errW_some] <;> rfl), by (with_reducible repeat (first | apply Kd.R_alloc | apply Kd.R_drewN | apply Kd.R_drew)); exact Kd.R_mono (Kd.R_far (Kd.R_far (Kd.R_types HO0_17.out BK0.out (by decide)) (fun _ hk => hk.2) _) (fun _ hk => hk.2) _) (fun _ hk => hk.1), (by refine bzq6 ?_; refine btq6 (i := 15) ?_; refine btq6 (i := 14) ?_; exact ⟨_, bpq6 BK0.out, rfl⟩), (by refine bfq6 NB50_0.out ?_; refine bfq6 NB50_0.out ?_; exact bpq6 BK50.out), (bbq6 HB.out), (kkq6 HK.out)⟩
                  · rw [if_neg c26] at H
                    exact absurd H (by simp)
  · replace c4 := Bool.eq_false_iff.mpr c4
    subst c4
    have H1 : (some (s0_0, s0_1, s0_2, s0_3, s0_4, s0_5, s0_6, s0_7, s0_8, s0_9, s0_10, s0_11, s0_12, s0_13, s0_14, s0_15, s0_16, l0_17, s0_18, s0_19, s0_20)) = some (r1, r2, r3, r4, r5, r6, r7, r8, r9, r10, r11, r12, r13, r14, r15, r16, r17, r18, r19, r20, r21) := by rw [if_neg (show ¬ (false = true) by decide)] at H; exact H
    clear H
    have H := H1
    clear H1
    simp only [Option.some.injEq, Prod.mk.injEq] at H
    obtain ⟨rfl, rfl, rfl, rfl, rfl, rfl, rfl, rfl, rfl, rfl, rfl, rfl, rfl, rfl, rfl, rfl, rfl, rfl, rfl, rfl, rfl⟩ := H
    go_enter Try.func24, Try.ntmps24
    go_wp2_with (first | ((with_reducible refine gate_callee (f := 19) rfl ?_); refine goesL_ (some 5) rfl rfl Try.func19 (by kernel_rfl) rfl #[.int .i64 a1] rfl (by (try simp only [List.map_toArray, List.map_cons, List.map_nil]); first | done | rfl | (simp only [List.length_drop, List.length_take]; rfl)) ?_; (with_reducible refine (detect_has.calls a1 false _ A3.out).mono ?_); rintro e w' ⟨rfl, ⟨nd, rfl⟩⟩; refine ⟨_, rfl, ?_⟩))
    first | go_end0 | ((try simp only [Exit.inBlock, Exit.then]); refine bodyPost_ret (results_none rfl _ _ _) rfl ?_)
    exact ⟨_, by first | rfl | (simp [errW_none, errW_some] <;> rfl) | (simp [*, errW_none, errW_some] <;> rfl), by (with_reducible repeat (first | apply Kd.R_alloc | apply Kd.R_drewN | apply Kd.R_drew)); exact HO0_17.out, (by exact bpq6 BK0.out), (by exact bpq6 BK50.out), (bbq6 HB.out), (kkq6 HK.out)⟩

/-! ### terraceref15_count: function 32 -/
def terraceref15_count.f (a0_0 : Int) (a0_1 : Int) (a0_2 : Int) (a0_3 : Int) (a0_4 : Int) (a0_5 : Int) (a0_6 : Int) (a0_7 : Int) (a0_8 : Int) (l0_9 : List Int) (a0_10 : Int) (a0_11 : Bool) (a0_12 : Int) (a1 : Int) : Option (Int × Int × Int × Int × Int × Int × Int × Int × Int × List Int × Int × Bool × Int) := if (wrap64 (a0_8 + a1)) ≤ 1048576 then (some (a0_0, a0_1, a0_2, a0_3, a0_4, a0_5, a0_6, a0_7, wrap64 (a0_8 + a1), l0_9, a0_10, a0_11, a0_12)) else (some (a0_0, a0_1, a0_2, a0_3, a0_4, a0_5, a0_6, a0_7, a0_8, l0_9, a0_10, a0_11, a0_12))
set_option maxHeartbeats 8000000 in
set_option maxRecDepth 100000 in
theorem terraceref15_count.calls (a0_0 : Int) (a0_1 : Int) (a0_2 : Int) (a0_3 : Int) (a0_4 : Int) (a0_5 : Int) (a0_6 : Int) (a0_7 : Int) (a0_8 : Int) (P0_9_ : Nat → Prop) (u9000_ : Value) (l0_9 : List Int) (a0_10 : Int) (a0_11 : Bool) (a0_12 : Int) (a1 : Int) (r1 : Int) (r2 : Int) (r3 : Int) (r4 : Int) (r5 : Int) (r6 : Int) (r7 : Int) (r8 : Int) (r9 : Int) (r10 : List Int) (r11 : Int) (r12 : Bool) (r13 : Int) (w0 w : World) (hB : Below w0.heap.size w0 w) (ho0_9 : Kd.R (Kd.int .i64) 3 w w0.heap.size P0_9_ u9000_ l0_9) (h : terraceref15_count.f a0_0 a0_1 a0_2 a0_3 a0_4 a0_5 a0_6 a0_7 a0_8 l0_9 a0_10 a0_11 a0_12 a1 = some (r1, r2, r3, r4, r5, r6, r7, r8, r9, r10, r11, r12, r13)) :
    Calls Try.prog 32 #[.agg #[.int .i64 a0_0, .int .i64 a0_1, .int .i64 a0_2, .int .i64 a0_3, .int .i64 a0_4, .int .i64 a0_5, .int .i64 a0_6, .int .i64 a0_7, .int .i64 a0_8, u9000_, .int .i64 a0_10, .bool a0_11, .int .i64 a0_12], .int .i64 a1] w fun e w' => ∃ v9_ : Value, e = .returned (.agg #[.int .i64 r1, .int .i64 r2, .int .i64 r3, .int .i64 r4, .int .i64 r5, .int .i64 r6, .int .i64 r7, .int .i64 r8, .int .i64 r9, v9_, .int .i64 r11, .bool r12, .int .i64 r13]) ∧ Kd.R (Kd.int .i64) 3 w' w0.heap.size (fun k_ => (P0_9_ k_ ∨ w.heap.size ≤ k_)) v9_ r10 ∧ Below w0.heap.size w0 w' ∧ Kept w w' (fun k_ => False) := by
  have hu41 := Try.underlying41
  have HO0_9 := Aside0.mk (show Kd.R (Kd.int .i64) 3 w w0.heap.size (fun k_ => (P0_9_ k_ ∨ w.heap.size ≤ k_)) u9000_ l0_9 from Kd.R_mono ho0_9 (fun k_ hk => (.inl hk)))
  have HK := Aside0.mk (Kept.refl w (fun k_ => False))
  have HW0 := Aside0.mk hB.size
  have HB := Aside0.mk hB
  clear hB
  have H : (if (wrap64 (a0_8 + a1)) ≤ 1048576 then (some (a0_0, a0_1, a0_2, a0_3, a0_4, a0_5, a0_6, a0_7, wrap64 (a0_8 + a1), l0_9, a0_10, a0_11, a0_12)) else (some (a0_0, a0_1, a0_2, a0_3, a0_4, a0_5, a0_6, a0_7, a0_8, l0_9, a0_10, a0_11, a0_12))) = some (r1, r2, r3, r4, r5, r6, r7, r8, r9, r10, r11, r12, r13) := h
  clear h
  by_cases c3 : (wrap64 (a0_8 + a1)) ≤ 1048576
  · rw [if_pos c3] at H
    have c3b0 : decide ((wrap64 (a0_8 + a1)) ≤ 1048576) = true := decide_eq_true c3
    clear c3
    simp only [Option.some.injEq, Prod.mk.injEq] at H
    obtain ⟨rfl, rfl, rfl, rfl, rfl, rfl, rfl, rfl, rfl, rfl, rfl, rfl, rfl⟩ := H
    obtain ⟨Ao4, co4, eo4⟩ := Kd.R_slice HO0_9.out
    subst eo4
    go_enter Try.func32, Try.ntmps32
    go_wp2_with (first | ((with_reducible refine gate_dst (N := 2) rfl ?_); refine box_event ?hg (N := 2) ?hd (cs := #[.int .i64 a0_0, .int .i64 a0_1, .int .i64 a0_2, .int .i64 a0_3, .int .i64 a0_4, .int .i64 a0_5, .int .i64 a0_6, .int .i64 a0_7, .int .i64 a0_8, .slice Ao4 l0_9.length co4, .int .i64 a0_10, .bool a0_11, .int .i64 a0_12]) (t := 41) ?hr ?_; (case hd => rfl); (case hg => rfl); (case hr => first | (go_simp; done) | (go_simp; rfl)); intro gb459 hg w5 hbox hb; have n0_ := Aside0.mk (Kd.R_below (by (with_reducible repeat (first | apply Kd.R_alloc | apply Kd.R_drewN | apply Kd.R_drew)); exact HO0_9.out) hb); have n1_ := Aside0.mk (Kept.below (S := (fun k_ => False)) ((kkq6 HK.out)) hb); have n2_ := Aside0.mk (below_step ((bbq6 HB.out)) hb); have n3_ := Aside0.mk (hbox); have n4_ := Aside0.mk ((by rw [hg]; exact (by first | exact HK.out.1 | exact (show Kept w _ (fun k_ => False) from (kkq6 HK.out)).1) : w.heap.size ≤ gb459)); have n5_ := Aside0.mk ((by rw [hg]; exact (below_size ((bbq6 HB.out))) : w0.heap.size ≤ gb459)); clear HO0_9; clear HK; clear HB; have HO0_9 := n0_; have HK := n1_; have HB := n2_; have BK459 := n3_; have GW459 := n4_; have GE459 := n5_; clear n0_ n1_ n2_ n3_ n4_ n5_; clear hb hbox hg) | ((with_reducible refine gate_dst (N := 4) rfl ?_); refine box_event ?hg (N := 4) ?hd (cs := #[.int .i64 0, .int .i64 0, .int .i64 0, .int .i64 0, .int .i64 0, .int .i64 0, .int .i64 0, .int .i64 0, .int .i64 0, .slice none 0 0, .int .i64 0, .bool false, .int .i64 0]) (t := 41) ?hr ?_; (case hd => rfl); (case hg => rfl); (case hr => first | (go_simp; done) | (go_simp; rfl)); intro gb460 hg w6 hbox hb; have n0_ := Aside0.mk (Kd.R_below (by (with_reducible repeat (first | apply Kd.R_alloc | apply Kd.R_drewN | apply Kd.R_drew)); exact HO0_9.out) hb); have n1_ := Aside0.mk (blk_below (bpq6 BK459.out) hb); have n2_ := Aside0.mk (Kept.below (S := (fun k_ => False)) ((kkq6 HK.out)) hb); have n3_ := Aside0.mk (below_step ((bbq6 HB.out)) hb); have n4_ := Aside0.mk (hbox); have n5_ := Aside0.mk ((by rw [hg]; exact (by first | exact HK.out.1 | exact (show Kept w _ (fun k_ => False) from (kkq6 HK.out)).1) : w.heap.size ≤ gb460)); have n6_ := Aside0.mk ((by rw [hg]; exact (below_size ((bbq6 HB.out))) : w0.heap.size ≤ gb460)); have n7_ := Aside0.mk ((by rw [hg]; exact Nat.ne_of_lt (blk_lt (bpq6 BK459.out)) : gb459 ≠ gb460)); have n8_ := Aside0.mk ((by rw [hg]; exact Nat.ne_of_gt (blk_lt (bpq6 BK459.out)) : gb460 ≠ gb459)); clear HO0_9; clear BK459; clear HK; clear HB; have HO0_9 := n0_; have BK459 := n1_; have HK := n2_; have HB := n3_; have BK460 := n4_; have GW460 := n5_; have GE460 := n6_; have NB459_460 := n7_; have NB460_459 := n8_; clear n0_ n1_ n2_ n3_ n4_ n5_ n6_ n7_ n8_; clear hb hbox hg; have hnb7 := NB459_460.out; have hnc7 := NB460_459.out; obtain ⟨hcz8_0, hcz8_1, hcz8_2, hcz8_3, hcz8_4, hcz8_5, hcz8_6, hcz8_7, hcz8_8, hcz8_9, hcz8_10, hcz8_11, hcz8_12⟩ := bc13q6 BK459.out; have hfz8_0 := fun i_ => blk_frozen BK459.out i_; obtain ⟨hcz9_0, hcz9_1, hcz9_2, hcz9_3, hcz9_4, hcz9_5, hcz9_6, hcz9_7, hcz9_8, hcz9_9, hcz9_10, hcz9_11, hcz9_12⟩ := bc13q6 BK460.out; have hfz9_0 := fun i_ => blk_frozen BK460.out i_))
    refine bodyPost_ret (results_cell_row rfl _ _ gb460 41 #[.int .i64 a0_0, .int .i64 a0_1, .int .i64 a0_2, .int .i64 a0_3, .int .i64 a0_4, .int .i64 a0_5, .int .i64 a0_6, .int .i64 a0_7, .int .i64 (wrap64 (a0_8 + a1)), .slice Ao4 l0_9.length co4, .int .i64 a0_10, .bool a0_11, .int .i64 a0_12] (0, 0) _ rfl (by refine bzq6 ?_; refine btq6 (i := 12) ?_; refine btq6 (i := 11) ?_; refine btq6 (i := 10) ?_; refine btq6 (i := 9) ?_; refine btq6 (i := 8) ?_; refine btq6 (i := 7) ?_; refine btq6 (i := 6) ?_; refine btq6 (i := 5) ?_; refine btq6 (i := 4) ?_; refine btq6 (i := 3) ?_; refine btq6 (i := 2) ?_; refine btq6 (i := 1) ?_; refine btq6 (i := 0) ?_; refine bgq6 NB460_459.out ?_; exact ⟨_, bpq6 BK460.out, by first | (simp only [List.setIfInBounds_toArray, List.set_cons_zero, List.set_cons_succ]; done) | rfl⟩) Try.underlying41 rfl (by kernel_rfl)) rfl ?_
    exact ⟨_, by first | rfl | (simp [errW_none, errW_some] <;> rfl) | (simp [*, errW_none, errW_some] <;> rfl), by (with_reducible repeat (first | apply Kd.R_alloc | apply Kd.R_drewN | apply Kd.R_drew)); exact Kd.R_mono (Kd.R_far (Kd.R_far (Kd.R_far (Kd.R_far (Kd.R_far (Kd.R_far (Kd.R_far (Kd.R_far (Kd.R_far (Kd.R_far (Kd.R_far (Kd.R_far (Kd.R_far (Kd.R_far (Kd.R_types (Kd.R_types HO0_9.out BK459.out (by decide)) BK460.out (by decide)) (fun _ hk => hk.1.2) _) (fun _ hk => hk.2) _) (fun _ hk => hk.2) _) (fun _ hk => hk.2) _) (fun _ hk => hk.2) _) (fun _ hk => hk.2) _) (fun _ hk => hk.2) _) (fun _ hk => hk.2) _) (fun _ hk => hk.2) _) (fun _ hk => hk.2) _) (fun _ hk => hk.2) _) (fun _ hk => hk.2) _) (fun _ hk => hk.2) _) (fun _ hk => hk.2) _) (fun _ hk => hk.1.1), (bbq6 HB.out), (kkq6 HK.out)⟩
  · rw [if_neg c3] at H
    have c3b0 : decide ((wrap64 (a0_8 + a1)) ≤ 1048576) = false := decide_eq_false c3
    clear c3
    simp only [Option.some.injEq, Prod.mk.injEq] at H
    obtain ⟨rfl, rfl, rfl, rfl, rfl, rfl, rfl, rfl, rfl, rfl, rfl, rfl, rfl⟩ := H
    obtain ⟨Ao10, co10, eo10⟩ := Kd.R_slice HO0_9.out
    subst eo10
    go_enter Try.func32, Try.ntmps32
    go_wp2_with (first | ((with_reducible refine gate_dst (N := 2) rfl ?_); refine box_event ?hg (N := 2) ?hd (cs := #[.int .i64 a0_0, .int .i64 a0_1, .int .i64 a0_2, .int .i64 a0_3, .int .i64 a0_4, .int .i64 a0_5, .int .i64 a0_6, .int .i64 a0_7, .int .i64 a0_8, .slice Ao10 l0_9.length co10, .int .i64 a0_10, .bool a0_11, .int .i64 a0_12]) (t := 41) ?hr ?_; (case hd => rfl); (case hg => rfl); (case hr => first | (go_simp; done) | (go_simp; rfl)); intro gb459 hg w11 hbox hb; have n0_ := Aside0.mk (Kd.R_below (by (with_reducible repeat (first | apply Kd.R_alloc | apply Kd.R_drewN | apply Kd.R_drew)); exact HO0_9.out) hb); have n1_ := Aside0.mk (Kept.below (S := (fun k_ => False)) ((kkq6 HK.out)) hb); have n2_ := Aside0.mk (below_step ((bbq6 HB.out)) hb); have n3_ := Aside0.mk (hbox); have n4_ := Aside0.mk ((by rw [hg]; exact (by first | exact HK.out.1 | exact (show Kept w _ (fun k_ => False) from (kkq6 HK.out)).1) : w.heap.size ≤ gb459)); have n5_ := Aside0.mk ((by rw [hg]; exact (below_size ((bbq6 HB.out))) : w0.heap.size ≤ gb459)); clear HO0_9; clear HK; clear HB; have HO0_9 := n0_; have HK := n1_; have HB := n2_; have BK459 := n3_; have GW459 := n4_; have GE459 := n5_; clear n0_ n1_ n2_ n3_ n4_ n5_; clear hb hbox hg) | ((with_reducible refine gate_dst (N := 4) rfl ?_); refine box_event ?hg (N := 4) ?hd (cs := #[.int .i64 0, .int .i64 0, .int .i64 0, .int .i64 0, .int .i64 0, .int .i64 0, .int .i64 0, .int .i64 0, .int .i64 0, .slice none 0 0, .int .i64 0, .bool false, .int .i64 0]) (t := 41) ?hr ?_; (case hd => rfl); (case hg => rfl); (case hr => first | (go_simp; done) | (go_simp; rfl)); intro gb460 hg w12 hbox hb; have n0_ := Aside0.mk (Kd.R_below (by (with_reducible repeat (first | apply Kd.R_alloc | apply Kd.R_drewN | apply Kd.R_drew)); exact HO0_9.out) hb); have n1_ := Aside0.mk (blk_below (bpq6 BK459.out) hb); have n2_ := Aside0.mk (Kept.below (S := (fun k_ => False)) ((kkq6 HK.out)) hb); have n3_ := Aside0.mk (below_step ((bbq6 HB.out)) hb); have n4_ := Aside0.mk (hbox); have n5_ := Aside0.mk ((by rw [hg]; exact (by first | exact HK.out.1 | exact (show Kept w _ (fun k_ => False) from (kkq6 HK.out)).1) : w.heap.size ≤ gb460)); have n6_ := Aside0.mk ((by rw [hg]; exact (below_size ((bbq6 HB.out))) : w0.heap.size ≤ gb460)); have n7_ := Aside0.mk ((by rw [hg]; exact Nat.ne_of_lt (blk_lt (bpq6 BK459.out)) : gb459 ≠ gb460)); have n8_ := Aside0.mk ((by rw [hg]; exact Nat.ne_of_gt (blk_lt (bpq6 BK459.out)) : gb460 ≠ gb459)); clear HO0_9; clear BK459; clear HK; clear HB; have HO0_9 := n0_; have BK459 := n1_; have HK := n2_; have HB := n3_; have BK460 := n4_; have GW460 := n5_; have GE460 := n6_; have NB459_460 := n7_; have NB460_459 := n8_; clear n0_ n1_ n2_ n3_ n4_ n5_ n6_ n7_ n8_; clear hb hbox hg; have hnb13 := NB459_460.out; have hnc13 := NB460_459.out; obtain ⟨hcz14_0, hcz14_1, hcz14_2, hcz14_3, hcz14_4, hcz14_5, hcz14_6, hcz14_7, hcz14_8, hcz14_9, hcz14_10, hcz14_11, hcz14_12⟩ := bc13q6 BK459.out; have hfz14_0 := fun i_ => blk_frozen BK459.out i_; obtain ⟨hcz15_0, hcz15_1, hcz15_2, hcz15_3, hcz15_4, hcz15_5, hcz15_6, hcz15_7, hcz15_8, hcz15_9, hcz15_10, hcz15_11, hcz15_12⟩ := bc13q6 BK460.out; have hfz15_0 := fun i_ => blk_frozen BK460.out i_))
    refine bodyPost_ret (results_cell_row rfl _ _ gb460 41 #[.int .i64 a0_0, .int .i64 a0_1, .int .i64 a0_2, .int .i64 a0_3, .int .i64 a0_4, .int .i64 a0_5, .int .i64 a0_6, .int .i64 a0_7, .int .i64 a0_8, .slice Ao10 l0_9.length co10, .int .i64 a0_10, .bool a0_11, .int .i64 a0_12] (0, 0) _ rfl (by refine bzq6 ?_; refine btq6 (i := 12) ?_; refine btq6 (i := 11) ?_; refine btq6 (i := 10) ?_; refine btq6 (i := 9) ?_; refine btq6 (i := 8) ?_; refine btq6 (i := 7) ?_; refine btq6 (i := 6) ?_; refine btq6 (i := 5) ?_; refine btq6 (i := 4) ?_; refine btq6 (i := 3) ?_; refine btq6 (i := 2) ?_; refine btq6 (i := 1) ?_; refine btq6 (i := 0) ?_; exact ⟨_, bpq6 BK460.out, by first | (simp only [List.setIfInBounds_toArray, List.set_cons_zero, List.set_cons_succ]; done) | rfl⟩) Try.underlying41 rfl (by kernel_rfl)) rfl ?_
    exact ⟨_, by first | rfl | (simp [errW_none, errW_some] <;> rfl) | (simp [*, errW_none, errW_some] <;> rfl), by (with_reducible repeat (first | apply Kd.R_alloc | apply Kd.R_drewN | apply Kd.R_drew)); exact Kd.R_mono (Kd.R_far (Kd.R_far (Kd.R_far (Kd.R_far (Kd.R_far (Kd.R_far (Kd.R_far (Kd.R_far (Kd.R_far (Kd.R_far (Kd.R_far (Kd.R_far (Kd.R_far (Kd.R_types HO0_9.out BK460.out (by decide)) (fun _ hk => hk.2) _) (fun _ hk => hk.2) _) (fun _ hk => hk.2) _) (fun _ hk => hk.2) _) (fun _ hk => hk.2) _) (fun _ hk => hk.2) _) (fun _ hk => hk.2) _) (fun _ hk => hk.2) _) (fun _ hk => hk.2) _) (fun _ hk => hk.2) _) (fun _ hk => hk.2) _) (fun _ hk => hk.2) _) (fun _ hk => hk.2) _) (fun _ hk => hk.1), (bbq6 HB.out), (kkq6 HK.out)⟩

/-! ### terraceref05_Steps: function 37 -/
def terraceref05_Steps.f (a0 : Int) (a1 : Int) : Option (Int) := if (wrap64 ((wrap64 (a1)) - (wrap64 (a0)))) < 0 then (some (wrap64 ((wrap64 ((wrap64 (a1)) - (wrap64 (a0)))) + 4294967296))) else (some (wrap64 ((wrap64 (a1)) - (wrap64 (a0)))))
set_option maxHeartbeats 8000000 in
set_option maxRecDepth 100000 in
theorem terraceref05_Steps.calls (a0 : Int) (a1 : Int) (r : Int) (w : World) (h : terraceref05_Steps.f a0 a1 = some r) :
    Calls Try.prog 37 #[.int .u32 a0, .int .u32 a1] w fun e w' => e = .returned (.int .i64 r) ∧ Drawn0 w w' := by
  have H : (if (wrap64 ((wrap64 (a1)) - (wrap64 (a0)))) < 0 then (some (wrap64 ((wrap64 ((wrap64 (a1)) - (wrap64 (a0)))) + 4294967296))) else (some (wrap64 ((wrap64 (a1)) - (wrap64 (a0)))))) = some r := h
  clear h
  by_cases c3 : (wrap64 ((wrap64 (a1)) - (wrap64 (a0)))) < 0
  · rw [if_pos c3] at H
    have c3b0 : decide ((wrap64 ((wrap64 (a1)) - (wrap64 (a0)))) < 0) = true := decide_eq_true c3
    clear c3
    obtain rfl := Option.some.inj H
    go_enter Try.func37, Try.ntmps37
    go_wp2
    go_ret
    exact ⟨by first | rfl | (simp; done) | (simp [*]; done), by repeat (first | exact Drawn0.refl _ | apply Drawn0.step)⟩
  · rw [if_neg c3] at H
    have c3b0 : decide ((wrap64 ((wrap64 (a1)) - (wrap64 (a0)))) < 0) = false := decide_eq_false c3
    clear c3
    obtain rfl := Option.some.inj H
    go_enter Try.func37, Try.ntmps37
    go_wp2
    go_ret
    exact ⟨by first | rfl | (simp; done) | (simp [*]; done), by repeat (first | exact Drawn0.refl _ | apply Drawn0.step)⟩

/-! ### terraceref05_Gap: function 33 -/
def terraceref05_Gap.f (a0 : Int) (a1 : Int) : Option (Int) := (terraceref05_Steps.f a0 a1).bind fun t461 => (if t461 = 2147483648 then (some 0) else (if t461 > 2147483648 then (some (wrap64 (t461 - 4294967296))) else (some t461)))
set_option maxHeartbeats 8000000 in
set_option maxRecDepth 100000 in
theorem terraceref05_Gap.calls (a0 : Int) (a1 : Int) (r : Int) (w : World) (h : terraceref05_Gap.f a0 a1 = some r) :
    Calls Try.prog 33 #[.int .u32 a0, .int .u32 a1] w fun e w' => e = .returned (.int .i64 r) ∧ Drawn0 w w' := by
  have H : ((terraceref05_Steps.f a0 a1).bind fun t461 => (if t461 = 2147483648 then (some 0) else (if t461 > 2147483648 then (some (wrap64 (t461 - 4294967296))) else (some t461)))) = some r := h
  clear h
  replace H := Option.bind_eq_some_iff.mp H
  obtain ⟨t461, A30, H⟩ := H
  replace H : (if t461 = 2147483648 then (some 0) else (if t461 > 2147483648 then (some (wrap64 (t461 - 4294967296))) else (some t461))) = some r := H
  have A3 := Aside0.mk A30
  clear A30
  by_cases c4 : t461 = 2147483648
  · rw [if_pos c4] at H
    have c4b0 : (t461 == 2147483648) = true := beq_iff_eq.mpr c4
    have c4b1 : (t461 != 2147483648) = false := bne_eq_false_iff_eq.mpr c4
    clear c4
    obtain rfl := Option.some.inj H
    go_enter Try.func33, Try.ntmps33
    go_wp2_with (first | ((with_reducible refine gate_callee (f := 37) rfl ?_); refine goesL_ (some 8) rfl rfl Try.func37 (by kernel_rfl) rfl #[.int .u32 a0, .int .u32 a1] rfl (by (try simp only [List.map_toArray, List.map_cons, List.map_nil]); first | done | rfl | (simp only [List.length_drop, List.length_take]; rfl)) ?_; (with_reducible refine (terraceref05_Steps.calls a0 a1 t461 _ A3.out).mono ?_); rintro e w' ⟨rfl, ⟨nd, rfl⟩⟩; refine ⟨_, rfl, ?_⟩))
    go_ret
    exact ⟨by first | rfl | (simp; done) | (simp [*]; done), by repeat (first | exact Drawn0.refl _ | apply Drawn0.step)⟩
  · rw [if_neg c4] at H
    have c4b0 : (t461 == 2147483648) = false := beq_eq_false_iff_ne.mpr c4
    have c4b1 : (t461 != 2147483648) = true := bne_iff_ne.mpr c4
    by_cases c5 : t461 > 2147483648
    · rw [if_pos c5] at H
      have c5b0 : decide (2147483648 < t461) = true := decide_eq_true c5
      clear c5
      obtain rfl := Option.some.inj H
      go_enter Try.func33, Try.ntmps33
      go_wp2_with (first | ((with_reducible refine gate_callee (f := 37) rfl ?_); refine goesL_ (some 8) rfl rfl Try.func37 (by kernel_rfl) rfl #[.int .u32 a0, .int .u32 a1] rfl (by (try simp only [List.map_toArray, List.map_cons, List.map_nil]); first | done | rfl | (simp only [List.length_drop, List.length_take]; rfl)) ?_; (with_reducible refine (terraceref05_Steps.calls a0 a1 t461 _ A3.out).mono ?_); rintro e w' ⟨rfl, ⟨nd, rfl⟩⟩; refine ⟨_, rfl, ?_⟩))
      go_ret
      exact ⟨by first | rfl | (simp; done) | (simp [*]; done), by repeat (first | exact Drawn0.refl _ | apply Drawn0.step)⟩
    · rw [if_neg c5] at H
      have c5b0 : decide (2147483648 < t461) = false := decide_eq_false c5
      clear c5
      obtain rfl := Option.some.inj H
      go_enter Try.func33, Try.ntmps33
      go_wp2_with (first | ((with_reducible refine gate_callee (f := 37) rfl ?_); refine goesL_ (some 8) rfl rfl Try.func37 (by kernel_rfl) rfl #[.int .u32 a0, .int .u32 a1] rfl (by (try simp only [List.map_toArray, List.map_cons, List.map_nil]); first | done | rfl | (simp only [List.length_drop, List.length_take]; rfl)) ?_; (with_reducible refine (terraceref05_Steps.calls a0 a1 t461 _ A3.out).mono ?_); rintro e w' ⟨rfl, ⟨nd, rfl⟩⟩; refine ⟨_, rfl, ?_⟩))
      go_ret
      exact ⟨by first | rfl | (simp; done) | (simp [*]; done), by repeat (first | exact Drawn0.refl _ | apply Drawn0.step)⟩

/-! ### terraceref14_Front: function 34 -/
def terraceref14_Front.l0 : Nat → List Int → List Int → Int → Option (List Int)
  | 0, _, _, _ => none
  | k + 1, x1, x5, x6 => if x6 < (x1.length : Int) then (if 0 ≤ x6 then (if x5.length < 17592186044416 then (terraceref14_Front.l0 k x1 (x5 ++ [rd x1 x6]) (wrap64 (x6 + 1))) else (none)) else (none)) else (some x5)
def terraceref14_Front.f (k : Nat) (a0 : Int) (l1 : List Int) : Option (List Int) := if ([] : List Int).length < 17592186044416 then (terraceref14_Front.l0 k l1 (([] : List Int) ++ [a0]) 0) else (none)
theorem terraceref14_Front.mono_l : ∀ k, (∀ y0 y1 y2, LeO (terraceref14_Front.l0 k y0 y1 y2) (terraceref14_Front.l0 (k + 1) y0 y1 y2))
  | 0 => fun _ _ _ r h => by simp [terraceref14_Front.l0] at h
  | k + 1 => by
    have ih0 := terraceref14_Front.mono_l k
    · intro y0 y1 y2
      unfold terraceref14_Front.l0
      repeat' first
      | (with_reducible exact ih0 _ _ _)
      | (with_reducible exact LeO.refl _)
      | (with_reducible exact LeO.none _)
      | (with_reducible refine LeO.ite ?_ ?_)
      | (with_reducible refine LeO.bind ?_ (fun _ => ?_))
      | exact ih0 _ _ _
      | exact LeO.none _
      | refine LeO.ite ?_ ?_
      | refine LeO.bind ?_ (fun _ => ?_)
theorem terraceref14_Front.mono : ∀ a0 a1 k, LeO (terraceref14_Front.f k a0 a1) (terraceref14_Front.f (k + 1) a0 a1) := by
  intro a0 a1 k
  have ih0 := terraceref14_Front.mono_l k
  unfold terraceref14_Front.f
  repeat' first
      | (with_reducible exact ih0 _ _ _)
      | (with_reducible exact LeO.refl _)
      | (with_reducible exact LeO.none _)
      | (with_reducible refine LeO.ite ?_ ?_)
      | (with_reducible refine LeO.bind ?_ (fun _ => ?_))
      | exact ih0 _ _ _
      | exact LeO.none _
      | refine LeO.ite ?_ ?_
      | refine LeO.bind ?_ (fun _ => ?_)
set_option maxHeartbeats 8000000 in
set_option maxRecDepth 100000 in
theorem terraceref14_Front.calls (k : Nat) (a0 : Int) (A1 : Option Addr) (c1 : Nat) (l1 : List Int) (r : List Int) (w : World) (hr1 : Kd.C (Kd.int .i64) w A1 l1.length l1) (hc1 : l1.length ≤ c1) (h : terraceref14_Front.f k a0 l1 = some r) :
    Calls Try.prog 34 #[.int .i64 a0, .slice A1 l1.length c1] w fun e w' => ∃ v0_ : Value, e = .returned (v0_) ∧ Kd.R (Kd.int .i64) 3 w' w.heap.size (fun _ => True) v0_ r ∧ Below w.heap.size w w' := by
  have HR1 := Aside0.mk hr1
  have HC1 := Aside0.mk hc1
  clear hr1 hc1
  have HB := Aside0.mk (Below.refl w.heap.size w)
  have H : (if ([] : List Int).length < 17592186044416 then (terraceref14_Front.l0 k l1 (([] : List Int) ++ [a0]) 0) else (none)) = some r := h
  clear h
  by_cases c3 : ([] : List Int).length < 17592186044416
  · rw [if_pos c3] at H
    have LMc3 := Aside0.mk c3
    clear c3
    obtain ⟨y462, hy462⟩ : ∃ y_ : List Int, y_ = (([] : List Int) ++ [a0]) := ⟨_, rfl⟩
    replace H : (terraceref14_Front.l0 k l1 y462 0) = some r := by first | (rw [hy462]; with_reducible exact H) | (have H2_ := (Option.bind_some _ _).symm.trans H; rw [hy462]; with_reducible exact H2_) | (have H2_ := (Option.bind_some _ _).symm.trans H; with_reducible exact H2_) | with_reducible exact H | (rw [hy462]; exact H) | exact H
    have Ny462 := Aside0.mk hy462
    clear hy462
    have H' := Aside0.mk H
    clear H
    go_enter Try.func34, Try.ntmps34
    go_wp2_with (first | ((with_reducible refine gate_builtin (b := .append) (xs := #[.tmp 7, .tmp 9]) rfl ?_); at_builtin; refine Kd.R_append (Kd.int .i64) (w0 := w) w.heap.size rfl (.tmp 7) (.tmp 9) 39 3 (.int .i64 0) 8 rfl Try.underlying39 info3 rfl (by decide) (by omega) (.slice none 0 0) ([] : List Int) a0 [.int .i64 a0] (fun _ => True) (fun _ => False) rfl rfl ?aP (fun _ hk => hk.elim) ?aF ?aO ?aB ?aS ?aL ?_; (case aP => exact rfl); (case aB => exact ((bbq6 HB.out))); (case aF => exact (fun _ _ => trivial)); (case aO => exact ((Kd.R_nil _ _ _ _ (fun _ => True)))); (case aS => exact (below_size ((bbq6 HB.out)))); (case aL => have := LMc3.out; omega); intro v463 w4 ho hb hg hat; rw [← Ny462.out] at ho; have n0_ := Aside0.mk (hb); have n1_ := Aside0.mk (ho); clear HB; have HB := n0_; have HO464 := n1_; clear n0_ n1_; clear ho hb hg hat))
    go_loopg [5, 6] k (fun kq v5 v6 w' => ∃ (x5_1 : List Int) (x6_1 : Int), v6 = .int .i64 x6_1 ∧ Aside0 (terraceref14_Front.l0 kq l1 x5_1 x6_1 = some r) ∧ Aside0 (kq ≤ k) ∧ Aside0 (Kd.R (Kd.int .i64) 3 w' w.heap.size (fun _ => True) v5 x5_1) ∧ Aside0 (Below w.heap.size w w'))
    case atStart => exact ⟨(y462), (0), (by first | rfl | (simp; done) | (simp [*]; done)), H', ⟨Nat.le_refl _⟩, ⟨by (with_reducible repeat (first | apply Kd.R_alloc | apply Kd.R_drewN | apply Kd.R_drew)); exact HO464.out⟩, ⟨(bbq6 HB.out)⟩⟩
    case round =>
      clear H'
      try clear c1
      try clear p2
      try clear c3
      obtain ⟨x5_1, x6_1, rfl, HA, HK1, HO_5, HB⟩ := hrel
      cases gk with
      | zero => exact absurd HA.out (by simp [terraceref14_Front.l0])
      | succ k1 =>
        have H := HA.out
        clear HA
        simp only [terraceref14_Front.l0] at H
        by_cases c5 : x6_1 < (l1.length : Int)
        · rw [if_pos c5] at H
          have c5b0 : decide (x6_1 < (l1.length : Int)) = true := decide_eq_true c5
          clear c5
          by_cases c6 : 0 ≤ x6_1
          · rw [if_pos c6] at H
            have c6b0 : decide (0 ≤ x6_1) = true := decide_eq_true c6
            clear c6
            by_cases c7 : x5_1.length < 17592186044416
            · rw [if_pos c7] at H
              have LMc7 := Aside0.mk c7
              clear c7
              obtain ⟨y466, hy466⟩ : ∃ y_ : List Int, y_ = (x5_1 ++ [rd l1 x6_1]) := ⟨_, rfl⟩
              replace H : (terraceref14_Front.l0 k1 l1 y466 (wrap64 (x6_1 + 1))) = some r := by first | (rw [hy466]; with_reducible exact H) | (have H2_ := (Option.bind_some _ _).symm.trans H; rw [hy466]; with_reducible exact H2_) | (have H2_ := (Option.bind_some _ _).symm.trans H; with_reducible exact H2_) | with_reducible exact H | (rw [hy466]; exact H) | exact H
              have Ny466 := Aside0.mk hy466
              clear hy466
              have H' := Aside0.mk H
              clear H
              have p465 : 0 ≤ (x6_1 : Int) := of_decide_eq_true (by first | (with_reducible assumption) | assumption)
              have q465 : x6_1 < (l1.length : Int) := of_decide_eq_true (by first | (with_reducible assumption) | assumption)
              obtain ⟨ad465, e465, hx465_0⟩ := Kd.at_int HR1.out x6_1 p465 q465
              cases e465
              replace hx465_0 := (HB.out.cell (World.block_lt_of_cell? w _ hx465_0)).trans hx465_0
              replace p465 := eq_true p465
              replace q465 := eq_true q465
              go_wp2_with (first | ((with_reducible refine gate_builtin (b := .append) (xs := #[.tmp 17, .tmp 22]) rfl ?_); at_builtin; refine Kd.R_append (Kd.int .i64) (w0 := w) w.heap.size rfl (.tmp 17) (.tmp 22) 39 3 (.int .i64 0) 8 rfl Try.underlying39 info3 rfl (by decide) (by omega) u5 x5_1 (rd l1 x6_1) [.int .i64 (rd l1 x6_1)] (fun _ => True) (fun _ => False) rfl rfl ?aP (fun _ hk => hk.elim) ?aF ?aO ?aB ?aS ?aL ?_; (case aP => exact rfl); (case aB => exact ((bbq6 HB.out))); (case aF => exact (fun _ _ => trivial)); (case aO => exact (by (with_reducible repeat (first | apply Kd.R_alloc | apply Kd.R_drewN | apply Kd.R_drew)); exact HO_5.out)); (case aS => exact (below_size ((bbq6 HB.out)))); (case aL => have := LMc7.out; omega); intro v467 w8 ho hb hg hat; rw [← Ny466.out] at ho; have n0_ := Aside0.mk (hb); have n1_ := Aside0.mk (ho); clear HB; clear HO_5; have HB := n0_; have HO468 := n1_; clear n0_ n1_; clear ho hb hg hat))
              go_roundg k1
              case measure => have := HK1.out; omega
              case rel => exact ⟨(y466), (wrap64 (x6_1 + 1)), (by first | rfl | (simp; done) | (simp [*]; done)), H', ⟨by have := HK1.out; omega⟩, ⟨by (with_reducible repeat (first | apply Kd.R_alloc | apply Kd.R_drewN | apply Kd.R_drew)); exact HO468.out⟩, ⟨(bbq6 HB.out)⟩⟩
            · rw [if_neg c7] at H
              exact absurd H (by simp)
          · rw [if_neg c6] at H
            exact absurd H (by simp)
        · rw [if_neg c5] at H
          have c5b0 : decide (x6_1 < (l1.length : Int)) = false := decide_eq_false c5
          clear c5
          obtain rfl := Option.some.inj H
          go_wp2
          go_ret
          exact ⟨_, by first | rfl | (simp [errW_none, errW_some] <;> rfl) | (simp [*, errW_none, errW_some] <;> rfl), by (with_reducible repeat (first | apply Kd.R_alloc | apply Kd.R_drewN | apply Kd.R_drew)); exact HO_5.out, (bbq6 HB.out)⟩
  · rw [if_neg c3] at H
    exact absurd H (by simp)

end Go.Proofs.Ytobipigioaoaiaa.PDetectCopies
