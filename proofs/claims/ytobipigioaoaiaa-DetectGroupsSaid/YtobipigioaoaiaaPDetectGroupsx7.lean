-- Written by ext.sh (the session's own program, over the kit's printer) out of the translation. Lean checks it.
import Derived.Test.YtobipigioaoaiaaPDetectGroupsx0
import Derived.Test.YtobipigioaoaiaaPDetectGroupsx2
import Derived.Test.YtobipigioaoaiaaPDetectGroupsx5
import Derived.Test.YtobipigioaoaiaaPDetectGroupsx6
namespace Go.Proofs.Ytobipigioaoaiaa.PDetectGroups
open Go.RowKit Go.Proofs.YtobipigioaoaiaaW.PrintWords Go.Proofs.YtobipigioaoaiaaW.PrintLast Go.Proofs.YtobipigioaoaiaaW.PrintMore
attribute [local go_sem] max2_int min2_int max_two min_two max_three min_three max_four min_four   -- for this text's walks alone
set_option linter.unusedVariables false
set_option linter.unusedSimpArgs false
theorem bpq7 {W V : World} {g : Nat} {o : Obj} (h : V.heap[g]? = some o) (e : V.heap[g]? = some o → W.heap[g]? = some o := by (intro h_; repeat (first | (with_reducible exact h_) | refine blk_drewN ?_ _ | refine blk_drew ?_ | refine blk_alloc ?_ _))) : W.heap[g]? = some o := e h
theorem bfq7 {W V : World} {g b : Nat} {t : TypeId} {cs : Array Value} {i : Nat} {u : Value} (hn : g ≠ b) (h : V.heap[g]? = some (.cells cs t (0, 0))) (e : (V.setCell ⟨b, i, none⟩ u).heap[g]? = some (.cells cs t (0, 0)) → W.heap[g]? = some (.cells cs t (0, 0)) := by (intro h_; repeat (first | (with_reducible exact h_) | refine blk_drewN ?_ _ | refine blk_drew ?_ | refine blk_alloc ?_ _))) : W.heap[g]? = some (.cells cs t (0, 0)) := e (blk_far h hn u)
theorem bzq7 {W : World} {g : Nat} {t : TypeId} {c : Array Value} (h : ∃ cs, W.heap[g]? = some (.cells cs t (0, 0)) ∧ cs = c) : W.heap[g]? = some (.cells c t (0, 0)) := by obtain ⟨_, h, rfl⟩ := h; exact h
theorem btq7 {W V : World} {g : Nat} {t : TypeId} {i : Nat} {u : Value} {P : Array Value → Prop} (h : ∃ cs, V.heap[g]? = some (.cells cs t (0, 0)) ∧ P (cs.setIfInBounds i u)) (e : ∀ cs, (V.setCell ⟨g, i, none⟩ u).heap[g]? = some (.cells cs t (0, 0)) → W.heap[g]? = some (.cells cs t (0, 0)) := by (intro cs_ h_; repeat (first | (with_reducible exact h_) | refine blk_drewN ?_ _ | refine blk_drew ?_ | refine blk_alloc ?_ _))) : ∃ cs, W.heap[g]? = some (.cells cs t (0, 0)) ∧ P cs := by obtain ⟨cs, h, hp⟩ := h; exact ⟨_, e _ (blk_put h i u rfl), hp⟩
theorem bbq7 {n : Nat} {w W V : World} (h : Below n w V) (e : Below n w V → Below n w W := by (intro h_; repeat (first | (with_reducible exact h_) | (with_reducible apply below_alloc) | (with_reducible apply pw_below_drewN) | (with_reducible apply below_drew1) | refine below_set ?_ (Aside0.out (by assumption))))) : Below n w W := e h

/-! ### terracelaw15_DetectGroups: function 3 -/
mutual
def terracelaw15_DetectGroups.j0 : Nat → List (S29) → Int → Bool → Int → Bool → Int → Bool → Int → Bool → Int → Bool → Int → Bool → Int → Bool → Int → Bool → Int → Bool → Int → Int → Bool → Int → List Int → Option (Bool)
  | 0, _, _, _, _, _, _, _, _, _, _, _, _, _, _, _, _, _, _, _, _, _, _, _, _ => none
  | k + 1, x0, x1, x25, x470000, x470001, x470002, x470003, x470004, x470005, x470006, x470007, x470008, x470009, x470010, x470011, x470012, x470013, x470014, x470015, x470017, x470018, x470019, x471000, x471001 => if x25 = true then ((terracelaw15_awake.f k).bind fun t476 => (some t476)) else (terracelaw15_DetectGroups.l0 k x1 0 0 false x0 (x0.length : Int) 0 x470000 x470001 x470002 x470003 x470004 x470005 x470006 x470007 x470008 x470009 x470010 x470011 x470012 x470013 x470014 x470015 x470017 x470018 x470019 x471000 x471001)
def terracelaw15_DetectGroups.l0 : Nat → Int → Int → Int → Bool → List (S29) → Int → Int → Int → Bool → Int → Bool → Int → Bool → Int → Bool → Int → Bool → Int → Bool → Int → Bool → Int → Bool → Int → Int → Bool → Int → List Int → Option (Bool)
  | 0, _, _, _, _, _, _, _, _, _, _, _, _, _, _, _, _, _, _, _, _, _, _, _, _, _, _, _, _ => none
  | k + 1, x1, x6, x7, x8, x31, x32, x33, x470000, x470001, x470002, x470003, x470004, x470005, x470006, x470007, x470008, x470009, x470010, x470011, x470012, x470013, x470014, x470015, x470017, x470018, x470019, x471000, x471001 => if x33 < x32 then (if 0 ≤ x33 then (if x33 < (x31.length : Int) then ((detect_Detect_On.f k x470000 x470001 x470002 x470003 x470004 x470005 x470006 x470007 x470008 x470009 x470010 x470011 x470012 x470013 x470014 x470015 x471000 x471001 x470017 x470018 x470019 (Go.bits .and .i64 ((rd_T29 x31 x33).f1) 7) ((rd_T29 x31 x33).f2) (wrap64 (x6 + (mn (mx ((rd_T29 x31 x33).f3) 0) 1000))) x1).bind fun bt480 => (if bt480.2.2.2.1 = 0 then (if bt480.1 > 0 then (if x8 = true then (if (bt480.2.1 != (decide ((wrap64 ((wrap64 (x6 + (mn (mx ((rd_T29 x31 x33).f3) 0) 1000))) - x7)) > x1))) = true then (terracelaw15_DetectGroups.j2 k x1 (wrap64 (x6 + (mn (mx ((rd_T29 x31 x33).f3) 0) 1000))) x7 x8 x31 x32 x33 true bt480.2.2.2.2.1 bt480.2.2.2.2.2.1 bt480.2.2.2.2.2.2.1 bt480.2.2.2.2.2.2.2.1 bt480.2.2.2.2.2.2.2.2.1 bt480.2.2.2.2.2.2.2.2.2.1 bt480.2.2.2.2.2.2.2.2.2.2.1 bt480.2.2.2.2.2.2.2.2.2.2.2.1 bt480.2.2.2.2.2.2.2.2.2.2.2.2.1 bt480.2.2.2.2.2.2.2.2.2.2.2.2.2.1 bt480.2.2.2.2.2.2.2.2.2.2.2.2.2.2.1 bt480.2.2.2.2.2.2.2.2.2.2.2.2.2.2.2.1 bt480.2.2.2.2.2.2.2.2.2.2.2.2.2.2.2.2.1 bt480.2.2.2.2.2.2.2.2.2.2.2.2.2.2.2.2.2.1 bt480.2.2.2.2.2.2.2.2.2.2.2.2.2.2.2.2.2.2.1 bt480.2.2.2.2.2.2.2.2.2.2.2.2.2.2.2.2.2.2.2.1 bt480.2.2.2.2.2.2.2.2.2.2.2.2.2.2.2.2.2.2.2.2.2.2.1 bt480.2.2.2.2.2.2.2.2.2.2.2.2.2.2.2.2.2.2.2.2.2.2.2.1 bt480.2.2.2.2.2.2.2.2.2.2.2.2.2.2.2.2.2.2.2.2.2.2.2.2 bt480.2.2.2.2.2.2.2.2.2.2.2.2.2.2.2.2.2.2.2.2.1 bt480.2.2.2.2.2.2.2.2.2.2.2.2.2.2.2.2.2.2.2.2.2.1 bt480.1 bt480.2.1 bt480.2.2.1) else (if bt480.2.1 = true then (if (bt480.2.2.1 != (!x8)) = true then (terracelaw15_DetectGroups.j2 k x1 (wrap64 (x6 + (mn (mx ((rd_T29 x31 x33).f3) 0) 1000))) x7 x8 x31 x32 x33 true bt480.2.2.2.2.1 bt480.2.2.2.2.2.1 bt480.2.2.2.2.2.2.1 bt480.2.2.2.2.2.2.2.1 bt480.2.2.2.2.2.2.2.2.1 bt480.2.2.2.2.2.2.2.2.2.1 bt480.2.2.2.2.2.2.2.2.2.2.1 bt480.2.2.2.2.2.2.2.2.2.2.2.1 bt480.2.2.2.2.2.2.2.2.2.2.2.2.1 bt480.2.2.2.2.2.2.2.2.2.2.2.2.2.1 bt480.2.2.2.2.2.2.2.2.2.2.2.2.2.2.1 bt480.2.2.2.2.2.2.2.2.2.2.2.2.2.2.2.1 bt480.2.2.2.2.2.2.2.2.2.2.2.2.2.2.2.2.1 bt480.2.2.2.2.2.2.2.2.2.2.2.2.2.2.2.2.2.1 bt480.2.2.2.2.2.2.2.2.2.2.2.2.2.2.2.2.2.2.1 bt480.2.2.2.2.2.2.2.2.2.2.2.2.2.2.2.2.2.2.2.1 bt480.2.2.2.2.2.2.2.2.2.2.2.2.2.2.2.2.2.2.2.2.2.2.1 bt480.2.2.2.2.2.2.2.2.2.2.2.2.2.2.2.2.2.2.2.2.2.2.2.1 bt480.2.2.2.2.2.2.2.2.2.2.2.2.2.2.2.2.2.2.2.2.2.2.2.2 bt480.2.2.2.2.2.2.2.2.2.2.2.2.2.2.2.2.2.2.2.2.1 bt480.2.2.2.2.2.2.2.2.2.2.2.2.2.2.2.2.2.2.2.2.2.1 bt480.1 bt480.2.1 bt480.2.2.1) else (terracelaw15_DetectGroups.j2 k x1 (wrap64 (x6 + (mn (mx ((rd_T29 x31 x33).f3) 0) 1000))) x7 x8 x31 x32 x33 (decide (bt480.1 < 0)) bt480.2.2.2.2.1 bt480.2.2.2.2.2.1 bt480.2.2.2.2.2.2.1 bt480.2.2.2.2.2.2.2.1 bt480.2.2.2.2.2.2.2.2.1 bt480.2.2.2.2.2.2.2.2.2.1 bt480.2.2.2.2.2.2.2.2.2.2.1 bt480.2.2.2.2.2.2.2.2.2.2.2.1 bt480.2.2.2.2.2.2.2.2.2.2.2.2.1 bt480.2.2.2.2.2.2.2.2.2.2.2.2.2.1 bt480.2.2.2.2.2.2.2.2.2.2.2.2.2.2.1 bt480.2.2.2.2.2.2.2.2.2.2.2.2.2.2.2.1 bt480.2.2.2.2.2.2.2.2.2.2.2.2.2.2.2.2.1 bt480.2.2.2.2.2.2.2.2.2.2.2.2.2.2.2.2.2.1 bt480.2.2.2.2.2.2.2.2.2.2.2.2.2.2.2.2.2.2.1 bt480.2.2.2.2.2.2.2.2.2.2.2.2.2.2.2.2.2.2.2.1 bt480.2.2.2.2.2.2.2.2.2.2.2.2.2.2.2.2.2.2.2.2.2.2.1 bt480.2.2.2.2.2.2.2.2.2.2.2.2.2.2.2.2.2.2.2.2.2.2.2.1 bt480.2.2.2.2.2.2.2.2.2.2.2.2.2.2.2.2.2.2.2.2.2.2.2.2 bt480.2.2.2.2.2.2.2.2.2.2.2.2.2.2.2.2.2.2.2.2.1 bt480.2.2.2.2.2.2.2.2.2.2.2.2.2.2.2.2.2.2.2.2.2.1 bt480.1 bt480.2.1 bt480.2.2.1)) else (if (bt480.2.2.1 != false) = true then (terracelaw15_DetectGroups.j2 k x1 (wrap64 (x6 + (mn (mx ((rd_T29 x31 x33).f3) 0) 1000))) x7 x8 x31 x32 x33 true bt480.2.2.2.2.1 bt480.2.2.2.2.2.1 bt480.2.2.2.2.2.2.1 bt480.2.2.2.2.2.2.2.1 bt480.2.2.2.2.2.2.2.2.1 bt480.2.2.2.2.2.2.2.2.2.1 bt480.2.2.2.2.2.2.2.2.2.2.1 bt480.2.2.2.2.2.2.2.2.2.2.2.1 bt480.2.2.2.2.2.2.2.2.2.2.2.2.1 bt480.2.2.2.2.2.2.2.2.2.2.2.2.2.1 bt480.2.2.2.2.2.2.2.2.2.2.2.2.2.2.1 bt480.2.2.2.2.2.2.2.2.2.2.2.2.2.2.2.1 bt480.2.2.2.2.2.2.2.2.2.2.2.2.2.2.2.2.1 bt480.2.2.2.2.2.2.2.2.2.2.2.2.2.2.2.2.2.1 bt480.2.2.2.2.2.2.2.2.2.2.2.2.2.2.2.2.2.2.1 bt480.2.2.2.2.2.2.2.2.2.2.2.2.2.2.2.2.2.2.2.1 bt480.2.2.2.2.2.2.2.2.2.2.2.2.2.2.2.2.2.2.2.2.2.2.1 bt480.2.2.2.2.2.2.2.2.2.2.2.2.2.2.2.2.2.2.2.2.2.2.2.1 bt480.2.2.2.2.2.2.2.2.2.2.2.2.2.2.2.2.2.2.2.2.2.2.2.2 bt480.2.2.2.2.2.2.2.2.2.2.2.2.2.2.2.2.2.2.2.2.1 bt480.2.2.2.2.2.2.2.2.2.2.2.2.2.2.2.2.2.2.2.2.2.1 bt480.1 bt480.2.1 bt480.2.2.1) else (terracelaw15_DetectGroups.j2 k x1 (wrap64 (x6 + (mn (mx ((rd_T29 x31 x33).f3) 0) 1000))) x7 x8 x31 x32 x33 (decide (bt480.1 < 0)) bt480.2.2.2.2.1 bt480.2.2.2.2.2.1 bt480.2.2.2.2.2.2.1 bt480.2.2.2.2.2.2.2.1 bt480.2.2.2.2.2.2.2.2.1 bt480.2.2.2.2.2.2.2.2.2.1 bt480.2.2.2.2.2.2.2.2.2.2.1 bt480.2.2.2.2.2.2.2.2.2.2.2.1 bt480.2.2.2.2.2.2.2.2.2.2.2.2.1 bt480.2.2.2.2.2.2.2.2.2.2.2.2.2.1 bt480.2.2.2.2.2.2.2.2.2.2.2.2.2.2.1 bt480.2.2.2.2.2.2.2.2.2.2.2.2.2.2.2.1 bt480.2.2.2.2.2.2.2.2.2.2.2.2.2.2.2.2.1 bt480.2.2.2.2.2.2.2.2.2.2.2.2.2.2.2.2.2.1 bt480.2.2.2.2.2.2.2.2.2.2.2.2.2.2.2.2.2.2.1 bt480.2.2.2.2.2.2.2.2.2.2.2.2.2.2.2.2.2.2.2.1 bt480.2.2.2.2.2.2.2.2.2.2.2.2.2.2.2.2.2.2.2.2.2.2.1 bt480.2.2.2.2.2.2.2.2.2.2.2.2.2.2.2.2.2.2.2.2.2.2.2.1 bt480.2.2.2.2.2.2.2.2.2.2.2.2.2.2.2.2.2.2.2.2.2.2.2.2 bt480.2.2.2.2.2.2.2.2.2.2.2.2.2.2.2.2.2.2.2.2.1 bt480.2.2.2.2.2.2.2.2.2.2.2.2.2.2.2.2.2.2.2.2.2.1 bt480.1 bt480.2.1 bt480.2.2.1)))) else (if (bt480.2.1 != true) = true then (terracelaw15_DetectGroups.j2 k x1 (wrap64 (x6 + (mn (mx ((rd_T29 x31 x33).f3) 0) 1000))) x7 x8 x31 x32 x33 true bt480.2.2.2.2.1 bt480.2.2.2.2.2.1 bt480.2.2.2.2.2.2.1 bt480.2.2.2.2.2.2.2.1 bt480.2.2.2.2.2.2.2.2.1 bt480.2.2.2.2.2.2.2.2.2.1 bt480.2.2.2.2.2.2.2.2.2.2.1 bt480.2.2.2.2.2.2.2.2.2.2.2.1 bt480.2.2.2.2.2.2.2.2.2.2.2.2.1 bt480.2.2.2.2.2.2.2.2.2.2.2.2.2.1 bt480.2.2.2.2.2.2.2.2.2.2.2.2.2.2.1 bt480.2.2.2.2.2.2.2.2.2.2.2.2.2.2.2.1 bt480.2.2.2.2.2.2.2.2.2.2.2.2.2.2.2.2.1 bt480.2.2.2.2.2.2.2.2.2.2.2.2.2.2.2.2.2.1 bt480.2.2.2.2.2.2.2.2.2.2.2.2.2.2.2.2.2.2.1 bt480.2.2.2.2.2.2.2.2.2.2.2.2.2.2.2.2.2.2.2.1 bt480.2.2.2.2.2.2.2.2.2.2.2.2.2.2.2.2.2.2.2.2.2.2.1 bt480.2.2.2.2.2.2.2.2.2.2.2.2.2.2.2.2.2.2.2.2.2.2.2.1 bt480.2.2.2.2.2.2.2.2.2.2.2.2.2.2.2.2.2.2.2.2.2.2.2.2 bt480.2.2.2.2.2.2.2.2.2.2.2.2.2.2.2.2.2.2.2.2.1 bt480.2.2.2.2.2.2.2.2.2.2.2.2.2.2.2.2.2.2.2.2.2.1 bt480.1 bt480.2.1 bt480.2.2.1) else (if bt480.2.1 = true then (if (bt480.2.2.1 != (!x8)) = true then (terracelaw15_DetectGroups.j2 k x1 (wrap64 (x6 + (mn (mx ((rd_T29 x31 x33).f3) 0) 1000))) x7 x8 x31 x32 x33 true bt480.2.2.2.2.1 bt480.2.2.2.2.2.1 bt480.2.2.2.2.2.2.1 bt480.2.2.2.2.2.2.2.1 bt480.2.2.2.2.2.2.2.2.1 bt480.2.2.2.2.2.2.2.2.2.1 bt480.2.2.2.2.2.2.2.2.2.2.1 bt480.2.2.2.2.2.2.2.2.2.2.2.1 bt480.2.2.2.2.2.2.2.2.2.2.2.2.1 bt480.2.2.2.2.2.2.2.2.2.2.2.2.2.1 bt480.2.2.2.2.2.2.2.2.2.2.2.2.2.2.1 bt480.2.2.2.2.2.2.2.2.2.2.2.2.2.2.2.1 bt480.2.2.2.2.2.2.2.2.2.2.2.2.2.2.2.2.1 bt480.2.2.2.2.2.2.2.2.2.2.2.2.2.2.2.2.2.1 bt480.2.2.2.2.2.2.2.2.2.2.2.2.2.2.2.2.2.2.1 bt480.2.2.2.2.2.2.2.2.2.2.2.2.2.2.2.2.2.2.2.1 bt480.2.2.2.2.2.2.2.2.2.2.2.2.2.2.2.2.2.2.2.2.2.2.1 bt480.2.2.2.2.2.2.2.2.2.2.2.2.2.2.2.2.2.2.2.2.2.2.2.1 bt480.2.2.2.2.2.2.2.2.2.2.2.2.2.2.2.2.2.2.2.2.2.2.2.2 bt480.2.2.2.2.2.2.2.2.2.2.2.2.2.2.2.2.2.2.2.2.1 bt480.2.2.2.2.2.2.2.2.2.2.2.2.2.2.2.2.2.2.2.2.2.1 bt480.1 bt480.2.1 bt480.2.2.1) else (terracelaw15_DetectGroups.j2 k x1 (wrap64 (x6 + (mn (mx ((rd_T29 x31 x33).f3) 0) 1000))) x7 x8 x31 x32 x33 (decide (bt480.1 < 0)) bt480.2.2.2.2.1 bt480.2.2.2.2.2.1 bt480.2.2.2.2.2.2.1 bt480.2.2.2.2.2.2.2.1 bt480.2.2.2.2.2.2.2.2.1 bt480.2.2.2.2.2.2.2.2.2.1 bt480.2.2.2.2.2.2.2.2.2.2.1 bt480.2.2.2.2.2.2.2.2.2.2.2.1 bt480.2.2.2.2.2.2.2.2.2.2.2.2.1 bt480.2.2.2.2.2.2.2.2.2.2.2.2.2.1 bt480.2.2.2.2.2.2.2.2.2.2.2.2.2.2.1 bt480.2.2.2.2.2.2.2.2.2.2.2.2.2.2.2.1 bt480.2.2.2.2.2.2.2.2.2.2.2.2.2.2.2.2.1 bt480.2.2.2.2.2.2.2.2.2.2.2.2.2.2.2.2.2.1 bt480.2.2.2.2.2.2.2.2.2.2.2.2.2.2.2.2.2.2.1 bt480.2.2.2.2.2.2.2.2.2.2.2.2.2.2.2.2.2.2.2.1 bt480.2.2.2.2.2.2.2.2.2.2.2.2.2.2.2.2.2.2.2.2.2.2.1 bt480.2.2.2.2.2.2.2.2.2.2.2.2.2.2.2.2.2.2.2.2.2.2.2.1 bt480.2.2.2.2.2.2.2.2.2.2.2.2.2.2.2.2.2.2.2.2.2.2.2.2 bt480.2.2.2.2.2.2.2.2.2.2.2.2.2.2.2.2.2.2.2.2.1 bt480.2.2.2.2.2.2.2.2.2.2.2.2.2.2.2.2.2.2.2.2.2.1 bt480.1 bt480.2.1 bt480.2.2.1)) else (if (bt480.2.2.1 != false) = true then (terracelaw15_DetectGroups.j2 k x1 (wrap64 (x6 + (mn (mx ((rd_T29 x31 x33).f3) 0) 1000))) x7 x8 x31 x32 x33 true bt480.2.2.2.2.1 bt480.2.2.2.2.2.1 bt480.2.2.2.2.2.2.1 bt480.2.2.2.2.2.2.2.1 bt480.2.2.2.2.2.2.2.2.1 bt480.2.2.2.2.2.2.2.2.2.1 bt480.2.2.2.2.2.2.2.2.2.2.1 bt480.2.2.2.2.2.2.2.2.2.2.2.1 bt480.2.2.2.2.2.2.2.2.2.2.2.2.1 bt480.2.2.2.2.2.2.2.2.2.2.2.2.2.1 bt480.2.2.2.2.2.2.2.2.2.2.2.2.2.2.1 bt480.2.2.2.2.2.2.2.2.2.2.2.2.2.2.2.1 bt480.2.2.2.2.2.2.2.2.2.2.2.2.2.2.2.2.1 bt480.2.2.2.2.2.2.2.2.2.2.2.2.2.2.2.2.2.1 bt480.2.2.2.2.2.2.2.2.2.2.2.2.2.2.2.2.2.2.1 bt480.2.2.2.2.2.2.2.2.2.2.2.2.2.2.2.2.2.2.2.1 bt480.2.2.2.2.2.2.2.2.2.2.2.2.2.2.2.2.2.2.2.2.2.2.1 bt480.2.2.2.2.2.2.2.2.2.2.2.2.2.2.2.2.2.2.2.2.2.2.2.1 bt480.2.2.2.2.2.2.2.2.2.2.2.2.2.2.2.2.2.2.2.2.2.2.2.2 bt480.2.2.2.2.2.2.2.2.2.2.2.2.2.2.2.2.2.2.2.2.1 bt480.2.2.2.2.2.2.2.2.2.2.2.2.2.2.2.2.2.2.2.2.2.1 bt480.1 bt480.2.1 bt480.2.2.1) else (terracelaw15_DetectGroups.j2 k x1 (wrap64 (x6 + (mn (mx ((rd_T29 x31 x33).f3) 0) 1000))) x7 x8 x31 x32 x33 (decide (bt480.1 < 0)) bt480.2.2.2.2.1 bt480.2.2.2.2.2.1 bt480.2.2.2.2.2.2.1 bt480.2.2.2.2.2.2.2.1 bt480.2.2.2.2.2.2.2.2.1 bt480.2.2.2.2.2.2.2.2.2.1 bt480.2.2.2.2.2.2.2.2.2.2.1 bt480.2.2.2.2.2.2.2.2.2.2.2.1 bt480.2.2.2.2.2.2.2.2.2.2.2.2.1 bt480.2.2.2.2.2.2.2.2.2.2.2.2.2.1 bt480.2.2.2.2.2.2.2.2.2.2.2.2.2.2.1 bt480.2.2.2.2.2.2.2.2.2.2.2.2.2.2.2.1 bt480.2.2.2.2.2.2.2.2.2.2.2.2.2.2.2.2.1 bt480.2.2.2.2.2.2.2.2.2.2.2.2.2.2.2.2.2.1 bt480.2.2.2.2.2.2.2.2.2.2.2.2.2.2.2.2.2.2.1 bt480.2.2.2.2.2.2.2.2.2.2.2.2.2.2.2.2.2.2.2.1 bt480.2.2.2.2.2.2.2.2.2.2.2.2.2.2.2.2.2.2.2.2.2.2.1 bt480.2.2.2.2.2.2.2.2.2.2.2.2.2.2.2.2.2.2.2.2.2.2.2.1 bt480.2.2.2.2.2.2.2.2.2.2.2.2.2.2.2.2.2.2.2.2.2.2.2.2 bt480.2.2.2.2.2.2.2.2.2.2.2.2.2.2.2.2.2.2.2.2.1 bt480.2.2.2.2.2.2.2.2.2.2.2.2.2.2.2.2.2.2.2.2.2.1 bt480.1 bt480.2.1 bt480.2.2.1))))) else (if (bt480.2.1 != false) = true then (terracelaw15_DetectGroups.j2 k x1 (wrap64 (x6 + (mn (mx ((rd_T29 x31 x33).f3) 0) 1000))) x7 x8 x31 x32 x33 true bt480.2.2.2.2.1 bt480.2.2.2.2.2.1 bt480.2.2.2.2.2.2.1 bt480.2.2.2.2.2.2.2.1 bt480.2.2.2.2.2.2.2.2.1 bt480.2.2.2.2.2.2.2.2.2.1 bt480.2.2.2.2.2.2.2.2.2.2.1 bt480.2.2.2.2.2.2.2.2.2.2.2.1 bt480.2.2.2.2.2.2.2.2.2.2.2.2.1 bt480.2.2.2.2.2.2.2.2.2.2.2.2.2.1 bt480.2.2.2.2.2.2.2.2.2.2.2.2.2.2.1 bt480.2.2.2.2.2.2.2.2.2.2.2.2.2.2.2.1 bt480.2.2.2.2.2.2.2.2.2.2.2.2.2.2.2.2.1 bt480.2.2.2.2.2.2.2.2.2.2.2.2.2.2.2.2.2.1 bt480.2.2.2.2.2.2.2.2.2.2.2.2.2.2.2.2.2.2.1 bt480.2.2.2.2.2.2.2.2.2.2.2.2.2.2.2.2.2.2.2.1 bt480.2.2.2.2.2.2.2.2.2.2.2.2.2.2.2.2.2.2.2.2.2.2.1 bt480.2.2.2.2.2.2.2.2.2.2.2.2.2.2.2.2.2.2.2.2.2.2.2.1 bt480.2.2.2.2.2.2.2.2.2.2.2.2.2.2.2.2.2.2.2.2.2.2.2.2 bt480.2.2.2.2.2.2.2.2.2.2.2.2.2.2.2.2.2.2.2.2.1 bt480.2.2.2.2.2.2.2.2.2.2.2.2.2.2.2.2.2.2.2.2.2.1 bt480.1 bt480.2.1 bt480.2.2.1) else (if bt480.2.1 = true then (if (bt480.2.2.1 != (!x8)) = true then (terracelaw15_DetectGroups.j2 k x1 (wrap64 (x6 + (mn (mx ((rd_T29 x31 x33).f3) 0) 1000))) x7 x8 x31 x32 x33 true bt480.2.2.2.2.1 bt480.2.2.2.2.2.1 bt480.2.2.2.2.2.2.1 bt480.2.2.2.2.2.2.2.1 bt480.2.2.2.2.2.2.2.2.1 bt480.2.2.2.2.2.2.2.2.2.1 bt480.2.2.2.2.2.2.2.2.2.2.1 bt480.2.2.2.2.2.2.2.2.2.2.2.1 bt480.2.2.2.2.2.2.2.2.2.2.2.2.1 bt480.2.2.2.2.2.2.2.2.2.2.2.2.2.1 bt480.2.2.2.2.2.2.2.2.2.2.2.2.2.2.1 bt480.2.2.2.2.2.2.2.2.2.2.2.2.2.2.2.1 bt480.2.2.2.2.2.2.2.2.2.2.2.2.2.2.2.2.1 bt480.2.2.2.2.2.2.2.2.2.2.2.2.2.2.2.2.2.1 bt480.2.2.2.2.2.2.2.2.2.2.2.2.2.2.2.2.2.2.1 bt480.2.2.2.2.2.2.2.2.2.2.2.2.2.2.2.2.2.2.2.1 bt480.2.2.2.2.2.2.2.2.2.2.2.2.2.2.2.2.2.2.2.2.2.2.1 bt480.2.2.2.2.2.2.2.2.2.2.2.2.2.2.2.2.2.2.2.2.2.2.2.1 bt480.2.2.2.2.2.2.2.2.2.2.2.2.2.2.2.2.2.2.2.2.2.2.2.2 bt480.2.2.2.2.2.2.2.2.2.2.2.2.2.2.2.2.2.2.2.2.1 bt480.2.2.2.2.2.2.2.2.2.2.2.2.2.2.2.2.2.2.2.2.2.1 bt480.1 bt480.2.1 bt480.2.2.1) else (terracelaw15_DetectGroups.j2 k x1 (wrap64 (x6 + (mn (mx ((rd_T29 x31 x33).f3) 0) 1000))) x7 x8 x31 x32 x33 (decide (bt480.1 < 0)) bt480.2.2.2.2.1 bt480.2.2.2.2.2.1 bt480.2.2.2.2.2.2.1 bt480.2.2.2.2.2.2.2.1 bt480.2.2.2.2.2.2.2.2.1 bt480.2.2.2.2.2.2.2.2.2.1 bt480.2.2.2.2.2.2.2.2.2.2.1 bt480.2.2.2.2.2.2.2.2.2.2.2.1 bt480.2.2.2.2.2.2.2.2.2.2.2.2.1 bt480.2.2.2.2.2.2.2.2.2.2.2.2.2.1 bt480.2.2.2.2.2.2.2.2.2.2.2.2.2.2.1 bt480.2.2.2.2.2.2.2.2.2.2.2.2.2.2.2.1 bt480.2.2.2.2.2.2.2.2.2.2.2.2.2.2.2.2.1 bt480.2.2.2.2.2.2.2.2.2.2.2.2.2.2.2.2.2.1 bt480.2.2.2.2.2.2.2.2.2.2.2.2.2.2.2.2.2.2.1 bt480.2.2.2.2.2.2.2.2.2.2.2.2.2.2.2.2.2.2.2.1 bt480.2.2.2.2.2.2.2.2.2.2.2.2.2.2.2.2.2.2.2.2.2.2.1 bt480.2.2.2.2.2.2.2.2.2.2.2.2.2.2.2.2.2.2.2.2.2.2.2.1 bt480.2.2.2.2.2.2.2.2.2.2.2.2.2.2.2.2.2.2.2.2.2.2.2.2 bt480.2.2.2.2.2.2.2.2.2.2.2.2.2.2.2.2.2.2.2.2.1 bt480.2.2.2.2.2.2.2.2.2.2.2.2.2.2.2.2.2.2.2.2.2.1 bt480.1 bt480.2.1 bt480.2.2.1)) else (if (bt480.2.2.1 != false) = true then (terracelaw15_DetectGroups.j2 k x1 (wrap64 (x6 + (mn (mx ((rd_T29 x31 x33).f3) 0) 1000))) x7 x8 x31 x32 x33 true bt480.2.2.2.2.1 bt480.2.2.2.2.2.1 bt480.2.2.2.2.2.2.1 bt480.2.2.2.2.2.2.2.1 bt480.2.2.2.2.2.2.2.2.1 bt480.2.2.2.2.2.2.2.2.2.1 bt480.2.2.2.2.2.2.2.2.2.2.1 bt480.2.2.2.2.2.2.2.2.2.2.2.1 bt480.2.2.2.2.2.2.2.2.2.2.2.2.1 bt480.2.2.2.2.2.2.2.2.2.2.2.2.2.1 bt480.2.2.2.2.2.2.2.2.2.2.2.2.2.2.1 bt480.2.2.2.2.2.2.2.2.2.2.2.2.2.2.2.1 bt480.2.2.2.2.2.2.2.2.2.2.2.2.2.2.2.2.1 bt480.2.2.2.2.2.2.2.2.2.2.2.2.2.2.2.2.2.1 bt480.2.2.2.2.2.2.2.2.2.2.2.2.2.2.2.2.2.2.1 bt480.2.2.2.2.2.2.2.2.2.2.2.2.2.2.2.2.2.2.2.1 bt480.2.2.2.2.2.2.2.2.2.2.2.2.2.2.2.2.2.2.2.2.2.2.1 bt480.2.2.2.2.2.2.2.2.2.2.2.2.2.2.2.2.2.2.2.2.2.2.2.1 bt480.2.2.2.2.2.2.2.2.2.2.2.2.2.2.2.2.2.2.2.2.2.2.2.2 bt480.2.2.2.2.2.2.2.2.2.2.2.2.2.2.2.2.2.2.2.2.1 bt480.2.2.2.2.2.2.2.2.2.2.2.2.2.2.2.2.2.2.2.2.2.1 bt480.1 bt480.2.1 bt480.2.2.1) else (terracelaw15_DetectGroups.j2 k x1 (wrap64 (x6 + (mn (mx ((rd_T29 x31 x33).f3) 0) 1000))) x7 x8 x31 x32 x33 (decide (bt480.1 < 0)) bt480.2.2.2.2.1 bt480.2.2.2.2.2.1 bt480.2.2.2.2.2.2.1 bt480.2.2.2.2.2.2.2.1 bt480.2.2.2.2.2.2.2.2.1 bt480.2.2.2.2.2.2.2.2.2.1 bt480.2.2.2.2.2.2.2.2.2.2.1 bt480.2.2.2.2.2.2.2.2.2.2.2.1 bt480.2.2.2.2.2.2.2.2.2.2.2.2.1 bt480.2.2.2.2.2.2.2.2.2.2.2.2.2.1 bt480.2.2.2.2.2.2.2.2.2.2.2.2.2.2.1 bt480.2.2.2.2.2.2.2.2.2.2.2.2.2.2.2.1 bt480.2.2.2.2.2.2.2.2.2.2.2.2.2.2.2.2.1 bt480.2.2.2.2.2.2.2.2.2.2.2.2.2.2.2.2.2.1 bt480.2.2.2.2.2.2.2.2.2.2.2.2.2.2.2.2.2.2.1 bt480.2.2.2.2.2.2.2.2.2.2.2.2.2.2.2.2.2.2.2.1 bt480.2.2.2.2.2.2.2.2.2.2.2.2.2.2.2.2.2.2.2.2.2.2.1 bt480.2.2.2.2.2.2.2.2.2.2.2.2.2.2.2.2.2.2.2.2.2.2.2.1 bt480.2.2.2.2.2.2.2.2.2.2.2.2.2.2.2.2.2.2.2.2.2.2.2.2 bt480.2.2.2.2.2.2.2.2.2.2.2.2.2.2.2.2.2.2.2.2.1 bt480.2.2.2.2.2.2.2.2.2.2.2.2.2.2.2.2.2.2.2.2.2.1 bt480.1 bt480.2.1 bt480.2.2.1))))) else (terracelaw15_DetectGroups.j2 k x1 (wrap64 (x6 + (mn (mx ((rd_T29 x31 x33).f3) 0) 1000))) x7 x8 x31 x32 x33 true bt480.2.2.2.2.1 bt480.2.2.2.2.2.1 bt480.2.2.2.2.2.2.1 bt480.2.2.2.2.2.2.2.1 bt480.2.2.2.2.2.2.2.2.1 bt480.2.2.2.2.2.2.2.2.2.1 bt480.2.2.2.2.2.2.2.2.2.2.1 bt480.2.2.2.2.2.2.2.2.2.2.2.1 bt480.2.2.2.2.2.2.2.2.2.2.2.2.1 bt480.2.2.2.2.2.2.2.2.2.2.2.2.2.1 bt480.2.2.2.2.2.2.2.2.2.2.2.2.2.2.1 bt480.2.2.2.2.2.2.2.2.2.2.2.2.2.2.2.1 bt480.2.2.2.2.2.2.2.2.2.2.2.2.2.2.2.2.1 bt480.2.2.2.2.2.2.2.2.2.2.2.2.2.2.2.2.2.1 bt480.2.2.2.2.2.2.2.2.2.2.2.2.2.2.2.2.2.2.1 bt480.2.2.2.2.2.2.2.2.2.2.2.2.2.2.2.2.2.2.2.1 bt480.2.2.2.2.2.2.2.2.2.2.2.2.2.2.2.2.2.2.2.2.2.2.1 bt480.2.2.2.2.2.2.2.2.2.2.2.2.2.2.2.2.2.2.2.2.2.2.2.1 bt480.2.2.2.2.2.2.2.2.2.2.2.2.2.2.2.2.2.2.2.2.2.2.2.2 bt480.2.2.2.2.2.2.2.2.2.2.2.2.2.2.2.2.2.2.2.2.1 bt480.2.2.2.2.2.2.2.2.2.2.2.2.2.2.2.2.2.2.2.2.2.1 bt480.1 bt480.2.1 bt480.2.2.1))) else (none)) else (none)) else ((terracelaw15_awake.f k).bind fun t477 => (some t477))
def terracelaw15_DetectGroups.j2 : Nat → Int → Int → Int → Bool → List (S29) → Int → Int → Bool → Int → Bool → Int → Bool → Int → Bool → Int → Bool → Int → Bool → Int → Bool → Int → Bool → Int → Bool → Int → Int → Bool → Int → List Int → Int → Bool → Bool → Option (Bool)
  | 0, _, _, _, _, _, _, _, _, _, _, _, _, _, _, _, _, _, _, _, _, _, _, _, _, _, _, _, _, _, _, _, _ => none
  | k + 1, x1, x6, x7, x8, x31, x32, x33, x91, x470000, x470001, x470002, x470003, x470004, x470005, x470006, x470007, x470008, x470009, x470010, x470011, x470012, x470013, x470014, x470015, x470017, x470018, x470019, x471000, x471001, x508000, x508001, x508002 => if x91 = true then (some false) else (if x508001 = true then (terracelaw15_DetectGroups.l0 k x1 x6 x6 true x31 x32 (wrap64 (x33 + 1)) x470000 x470001 x470002 x470003 x470004 x470005 x470006 x470007 x470008 x470009 x470010 x470011 x470012 x470013 x470014 x470015 x470017 x470018 x470019 x471000 x471001) else (terracelaw15_DetectGroups.l0 k x1 x6 x7 x8 x31 x32 (wrap64 (x33 + 1)) x470000 x470001 x470002 x470003 x470004 x470005 x470006 x470007 x470008 x470009 x470010 x470011 x470012 x470013 x470014 x470015 x470017 x470018 x470019 x471000 x471001))
end
def terracelaw15_DetectGroups.f (k : Nat) (l0 : List (S29)) (a1 : Int) : Option (Bool) := (detect_New.f).bind fun bt449 => (if (l0.length : Int) > 100 then (terracelaw15_DetectGroups.j0 k l0 a1 true bt449.1 bt449.2.1 bt449.2.2.1 bt449.2.2.2.1 bt449.2.2.2.2.1 bt449.2.2.2.2.2.1 bt449.2.2.2.2.2.2.1 bt449.2.2.2.2.2.2.2.1 bt449.2.2.2.2.2.2.2.2.1 bt449.2.2.2.2.2.2.2.2.2.1 bt449.2.2.2.2.2.2.2.2.2.2.1 bt449.2.2.2.2.2.2.2.2.2.2.2.1 bt449.2.2.2.2.2.2.2.2.2.2.2.2.1 bt449.2.2.2.2.2.2.2.2.2.2.2.2.2.1 bt449.2.2.2.2.2.2.2.2.2.2.2.2.2.2.1 bt449.2.2.2.2.2.2.2.2.2.2.2.2.2.2.2.1 bt449.2.2.2.2.2.2.2.2.2.2.2.2.2.2.2.2.2.2.1 bt449.2.2.2.2.2.2.2.2.2.2.2.2.2.2.2.2.2.2.2.1 bt449.2.2.2.2.2.2.2.2.2.2.2.2.2.2.2.2.2.2.2.2 bt449.2.2.2.2.2.2.2.2.2.2.2.2.2.2.2.2.1 bt449.2.2.2.2.2.2.2.2.2.2.2.2.2.2.2.2.2.1) else ((terracelaw15_within.f a1).bind fun t475 => (terracelaw15_DetectGroups.j0 k l0 a1 (!t475) bt449.1 bt449.2.1 bt449.2.2.1 bt449.2.2.2.1 bt449.2.2.2.2.1 bt449.2.2.2.2.2.1 bt449.2.2.2.2.2.2.1 bt449.2.2.2.2.2.2.2.1 bt449.2.2.2.2.2.2.2.2.1 bt449.2.2.2.2.2.2.2.2.2.1 bt449.2.2.2.2.2.2.2.2.2.2.1 bt449.2.2.2.2.2.2.2.2.2.2.2.1 bt449.2.2.2.2.2.2.2.2.2.2.2.2.1 bt449.2.2.2.2.2.2.2.2.2.2.2.2.2.1 bt449.2.2.2.2.2.2.2.2.2.2.2.2.2.2.1 bt449.2.2.2.2.2.2.2.2.2.2.2.2.2.2.2.1 bt449.2.2.2.2.2.2.2.2.2.2.2.2.2.2.2.2.2.2.1 bt449.2.2.2.2.2.2.2.2.2.2.2.2.2.2.2.2.2.2.2.1 bt449.2.2.2.2.2.2.2.2.2.2.2.2.2.2.2.2.2.2.2.2 bt449.2.2.2.2.2.2.2.2.2.2.2.2.2.2.2.2.1 bt449.2.2.2.2.2.2.2.2.2.2.2.2.2.2.2.2.2.1)))
theorem terracelaw15_DetectGroups.mono_l : ∀ k, (∀ y0 y1 y2 y3 y4 y5 y6 y7 y8 y9 y10 y11 y12 y13 y14 y15 y16 y17 y18 y19 y20 y21 y22 y23, LeO (terracelaw15_DetectGroups.j0 k y0 y1 y2 y3 y4 y5 y6 y7 y8 y9 y10 y11 y12 y13 y14 y15 y16 y17 y18 y19 y20 y21 y22 y23) (terracelaw15_DetectGroups.j0 (k + 1) y0 y1 y2 y3 y4 y5 y6 y7 y8 y9 y10 y11 y12 y13 y14 y15 y16 y17 y18 y19 y20 y21 y22 y23)) ∧ (∀ y0 y1 y2 y3 y4 y5 y6 y7 y8 y9 y10 y11 y12 y13 y14 y15 y16 y17 y18 y19 y20 y21 y22 y23 y24 y25 y26 y27, LeO (terracelaw15_DetectGroups.l0 k y0 y1 y2 y3 y4 y5 y6 y7 y8 y9 y10 y11 y12 y13 y14 y15 y16 y17 y18 y19 y20 y21 y22 y23 y24 y25 y26 y27) (terracelaw15_DetectGroups.l0 (k + 1) y0 y1 y2 y3 y4 y5 y6 y7 y8 y9 y10 y11 y12 y13 y14 y15 y16 y17 y18 y19 y20 y21 y22 y23 y24 y25 y26 y27)) ∧ (∀ y0 y1 y2 y3 y4 y5 y6 y7 y8 y9 y10 y11 y12 y13 y14 y15 y16 y17 y18 y19 y20 y21 y22 y23 y24 y25 y26 y27 y28 y29 y30 y31, LeO (terracelaw15_DetectGroups.j2 k y0 y1 y2 y3 y4 y5 y6 y7 y8 y9 y10 y11 y12 y13 y14 y15 y16 y17 y18 y19 y20 y21 y22 y23 y24 y25 y26 y27 y28 y29 y30 y31) (terracelaw15_DetectGroups.j2 (k + 1) y0 y1 y2 y3 y4 y5 y6 y7 y8 y9 y10 y11 y12 y13 y14 y15 y16 y17 y18 y19 y20 y21 y22 y23 y24 y25 y26 y27 y28 y29 y30 y31))
  | 0 => ⟨fun _ _ _ _ _ _ _ _ _ _ _ _ _ _ _ _ _ _ _ _ _ _ _ _ r h => by simp [terracelaw15_DetectGroups.j0] at h, fun _ _ _ _ _ _ _ _ _ _ _ _ _ _ _ _ _ _ _ _ _ _ _ _ _ _ _ _ r h => by simp [terracelaw15_DetectGroups.l0] at h, fun _ _ _ _ _ _ _ _ _ _ _ _ _ _ _ _ _ _ _ _ _ _ _ _ _ _ _ _ _ _ _ _ r h => by simp [terracelaw15_DetectGroups.j2] at h⟩
  | k + 1 => by
    obtain ⟨ih0, ih1, ih2⟩ := terracelaw15_DetectGroups.mono_l k
    refine ⟨?_, ?_, ?_⟩
    · intro y0 y1 y2 y3 y4 y5 y6 y7 y8 y9 y10 y11 y12 y13 y14 y15 y16 y17 y18 y19 y20 y21 y22 y23
      unfold terracelaw15_DetectGroups.j0
      repeat' first
      | (with_reducible exact ih0 _ _ _ _ _ _ _ _ _ _ _ _ _ _ _ _ _ _ _ _ _ _ _ _)
      | (with_reducible exact ih1 _ _ _ _ _ _ _ _ _ _ _ _ _ _ _ _ _ _ _ _ _ _ _ _ _ _ _ _)
      | (with_reducible exact ih2 _ _ _ _ _ _ _ _ _ _ _ _ _ _ _ _ _ _ _ _ _ _ _ _ _ _ _ _ _ _ _ _)
      | (with_reducible exact detect_Detect_On.mono _ _ _ _ _ _ _ _ _ _ _ _ _ _ _ _ _ _ _ _ _ _ _ _ _ _)
      | (with_reducible exact terracelaw15_awake.mono _)
      | (with_reducible exact LeO.refl _)
      | (with_reducible exact LeO.none _)
      | (with_reducible refine LeO.ite ?_ ?_)
      | (with_reducible refine LeO.bind ?_ (fun _ => ?_))
      | exact ih0 _ _ _ _ _ _ _ _ _ _ _ _ _ _ _ _ _ _ _ _ _ _ _ _
      | exact ih1 _ _ _ _ _ _ _ _ _ _ _ _ _ _ _ _ _ _ _ _ _ _ _ _ _ _ _ _
      | exact ih2 _ _ _ _ _ _ _ _ _ _ _ _ _ _ _ _ _ _ _ _ _ _ _ _ _ _ _ _ _ _ _ _
      | exact detect_Detect_On.mono _ _ _ _ _ _ _ _ _ _ _ _ _ _ _ _ _ _ _ _ _ _ _ _ _ _
      | exact terracelaw15_awake.mono _
      | exact LeO.none _
      | refine LeO.ite ?_ ?_
      | refine LeO.bind ?_ (fun _ => ?_)
    · intro y0 y1 y2 y3 y4 y5 y6 y7 y8 y9 y10 y11 y12 y13 y14 y15 y16 y17 y18 y19 y20 y21 y22 y23 y24 y25 y26 y27
      unfold terracelaw15_DetectGroups.l0
      repeat' first
      | (with_reducible exact ih0 _ _ _ _ _ _ _ _ _ _ _ _ _ _ _ _ _ _ _ _ _ _ _ _)
      | (with_reducible exact ih1 _ _ _ _ _ _ _ _ _ _ _ _ _ _ _ _ _ _ _ _ _ _ _ _ _ _ _ _)
      | (with_reducible exact ih2 _ _ _ _ _ _ _ _ _ _ _ _ _ _ _ _ _ _ _ _ _ _ _ _ _ _ _ _ _ _ _ _)
      | (with_reducible exact detect_Detect_On.mono _ _ _ _ _ _ _ _ _ _ _ _ _ _ _ _ _ _ _ _ _ _ _ _ _ _)
      | (with_reducible exact terracelaw15_awake.mono _)
      | (with_reducible exact LeO.refl _)
      | (with_reducible exact LeO.none _)
      | (with_reducible refine LeO.ite ?_ ?_)
      | (with_reducible refine LeO.bind ?_ (fun _ => ?_))
      | exact ih0 _ _ _ _ _ _ _ _ _ _ _ _ _ _ _ _ _ _ _ _ _ _ _ _
      | exact ih1 _ _ _ _ _ _ _ _ _ _ _ _ _ _ _ _ _ _ _ _ _ _ _ _ _ _ _ _
      | exact ih2 _ _ _ _ _ _ _ _ _ _ _ _ _ _ _ _ _ _ _ _ _ _ _ _ _ _ _ _ _ _ _ _
      | exact detect_Detect_On.mono _ _ _ _ _ _ _ _ _ _ _ _ _ _ _ _ _ _ _ _ _ _ _ _ _ _
      | exact terracelaw15_awake.mono _
      | exact LeO.none _
      | refine LeO.ite ?_ ?_
      | refine LeO.bind ?_ (fun _ => ?_)
    · intro y0 y1 y2 y3 y4 y5 y6 y7 y8 y9 y10 y11 y12 y13 y14 y15 y16 y17 y18 y19 y20 y21 y22 y23 y24 y25 y26 y27 y28 y29 y30 y31
      unfold terracelaw15_DetectGroups.j2
      repeat' first
      | (with_reducible exact ih0 _ _ _ _ _ _ _ _ _ _ _ _ _ _ _ _ _ _ _ _ _ _ _ _)
      | (with_reducible exact ih1 _ _ _ _ _ _ _ _ _ _ _ _ _ _ _ _ _ _ _ _ _ _ _ _ _ _ _ _)
      | (with_reducible exact ih2 _ _ _ _ _ _ _ _ _ _ _ _ _ _ _ _ _ _ _ _ _ _ _ _ _ _ _ _ _ _ _ _)
      | (with_reducible exact detect_Detect_On.mono _ _ _ _ _ _ _ _ _ _ _ _ _ _ _ _ _ _ _ _ _ _ _ _ _ _)
      | (with_reducible exact terracelaw15_awake.mono _)
      | (with_reducible exact LeO.refl _)
      | (with_reducible exact LeO.none _)
      | (with_reducible refine LeO.ite ?_ ?_)
      | (with_reducible refine LeO.bind ?_ (fun _ => ?_))
      | exact ih0 _ _ _ _ _ _ _ _ _ _ _ _ _ _ _ _ _ _ _ _ _ _ _ _
      | exact ih1 _ _ _ _ _ _ _ _ _ _ _ _ _ _ _ _ _ _ _ _ _ _ _ _ _ _ _ _
      | exact ih2 _ _ _ _ _ _ _ _ _ _ _ _ _ _ _ _ _ _ _ _ _ _ _ _ _ _ _ _ _ _ _ _
      | exact detect_Detect_On.mono _ _ _ _ _ _ _ _ _ _ _ _ _ _ _ _ _ _ _ _ _ _ _ _ _ _
      | exact terracelaw15_awake.mono _
      | exact LeO.none _
      | refine LeO.ite ?_ ?_
      | refine LeO.bind ?_ (fun _ => ?_)
theorem terracelaw15_DetectGroups.mono : ∀ a0 a1 k, LeO (terracelaw15_DetectGroups.f k a0 a1) (terracelaw15_DetectGroups.f (k + 1) a0 a1) := by
  intro a0 a1 k
  obtain ⟨ih0, ih1, ih2⟩ := terracelaw15_DetectGroups.mono_l k
  unfold terracelaw15_DetectGroups.f
  repeat' first
      | (with_reducible exact ih0 _ _ _ _ _ _ _ _ _ _ _ _ _ _ _ _ _ _ _ _ _ _ _ _)
      | (with_reducible exact ih1 _ _ _ _ _ _ _ _ _ _ _ _ _ _ _ _ _ _ _ _ _ _ _ _ _ _ _ _)
      | (with_reducible exact ih2 _ _ _ _ _ _ _ _ _ _ _ _ _ _ _ _ _ _ _ _ _ _ _ _ _ _ _ _ _ _ _ _)
      | (with_reducible exact detect_Detect_On.mono _ _ _ _ _ _ _ _ _ _ _ _ _ _ _ _ _ _ _ _ _ _ _ _ _ _)
      | (with_reducible exact terracelaw15_awake.mono _)
      | (with_reducible exact LeO.refl _)
      | (with_reducible exact LeO.none _)
      | (with_reducible refine LeO.ite ?_ ?_)
      | (with_reducible refine LeO.bind ?_ (fun _ => ?_))
      | exact ih0 _ _ _ _ _ _ _ _ _ _ _ _ _ _ _ _ _ _ _ _ _ _ _ _
      | exact ih1 _ _ _ _ _ _ _ _ _ _ _ _ _ _ _ _ _ _ _ _ _ _ _ _ _ _ _ _
      | exact ih2 _ _ _ _ _ _ _ _ _ _ _ _ _ _ _ _ _ _ _ _ _ _ _ _ _ _ _ _ _ _ _ _
      | exact detect_Detect_On.mono _ _ _ _ _ _ _ _ _ _ _ _ _ _ _ _ _ _ _ _ _ _ _ _ _ _
      | exact terracelaw15_awake.mono _
      | exact LeO.none _
      | refine LeO.ite ?_ ?_
      | refine LeO.bind ?_ (fun _ => ?_)
set_option maxHeartbeats 8000000 in
set_option maxRecDepth 100000 in
theorem terracelaw15_DetectGroups.calls (k : Nat) (A0 : Option Addr) (c0 : Nat) (l0 : List (S29)) (a1 : Int) (r : Bool) (w : World) (hr0 : Kd.C k29 w A0 l0.length l0) (hc0 : l0.length ≤ c0) (h : terracelaw15_DetectGroups.f k l0 a1 = some r) :
    Calls Try.prog 3 #[.slice A0 l0.length c0, .int .i64 a1] w fun e w' => e = .returned (.bool r) ∧ Below w.heap.size w w' := by
  have hu29 := Try.underlying29
  have hu31 := Try.underlying31
  have hup23 := Try.underlying23
  have HR0 := Aside0.mk hr0
  have HC0 := Aside0.mk hc0
  clear hr0 hc0
  have HB := Aside0.mk (Below.refl w.heap.size w)
  have H : ((detect_New.f).bind fun bt449 => (if (l0.length : Int) > 100 then (terracelaw15_DetectGroups.j0 k l0 a1 true bt449.1 bt449.2.1 bt449.2.2.1 bt449.2.2.2.1 bt449.2.2.2.2.1 bt449.2.2.2.2.2.1 bt449.2.2.2.2.2.2.1 bt449.2.2.2.2.2.2.2.1 bt449.2.2.2.2.2.2.2.2.1 bt449.2.2.2.2.2.2.2.2.2.1 bt449.2.2.2.2.2.2.2.2.2.2.1 bt449.2.2.2.2.2.2.2.2.2.2.2.1 bt449.2.2.2.2.2.2.2.2.2.2.2.2.1 bt449.2.2.2.2.2.2.2.2.2.2.2.2.2.1 bt449.2.2.2.2.2.2.2.2.2.2.2.2.2.2.1 bt449.2.2.2.2.2.2.2.2.2.2.2.2.2.2.2.1 bt449.2.2.2.2.2.2.2.2.2.2.2.2.2.2.2.2.2.2.1 bt449.2.2.2.2.2.2.2.2.2.2.2.2.2.2.2.2.2.2.2.1 bt449.2.2.2.2.2.2.2.2.2.2.2.2.2.2.2.2.2.2.2.2 bt449.2.2.2.2.2.2.2.2.2.2.2.2.2.2.2.2.1 bt449.2.2.2.2.2.2.2.2.2.2.2.2.2.2.2.2.2.1) else ((terracelaw15_within.f a1).bind fun t475 => (terracelaw15_DetectGroups.j0 k l0 a1 (!t475) bt449.1 bt449.2.1 bt449.2.2.1 bt449.2.2.2.1 bt449.2.2.2.2.1 bt449.2.2.2.2.2.1 bt449.2.2.2.2.2.2.1 bt449.2.2.2.2.2.2.2.1 bt449.2.2.2.2.2.2.2.2.1 bt449.2.2.2.2.2.2.2.2.2.1 bt449.2.2.2.2.2.2.2.2.2.2.1 bt449.2.2.2.2.2.2.2.2.2.2.2.1 bt449.2.2.2.2.2.2.2.2.2.2.2.2.1 bt449.2.2.2.2.2.2.2.2.2.2.2.2.2.1 bt449.2.2.2.2.2.2.2.2.2.2.2.2.2.2.1 bt449.2.2.2.2.2.2.2.2.2.2.2.2.2.2.2.1 bt449.2.2.2.2.2.2.2.2.2.2.2.2.2.2.2.2.2.2.1 bt449.2.2.2.2.2.2.2.2.2.2.2.2.2.2.2.2.2.2.2.1 bt449.2.2.2.2.2.2.2.2.2.2.2.2.2.2.2.2.2.2.2.2 bt449.2.2.2.2.2.2.2.2.2.2.2.2.2.2.2.2.1 bt449.2.2.2.2.2.2.2.2.2.2.2.2.2.2.2.2.2.1)))) = some r := h
  clear h
  replace H := Option.bind_eq_some_iff.mp H
  obtain ⟨⟨t449, t450, t451, t452, t453, t454, t455, t456, t457, t458, t459, t460, t461, t462, t463, t464, t471, t472, t466, t467, t468⟩, A30, H⟩ := H
  replace H : (if (l0.length : Int) > 100 then (terracelaw15_DetectGroups.j0 k l0 a1 true t449 t450 t451 t452 t453 t454 t455 t456 t457 t458 t459 t460 t461 t462 t463 t464 t466 t467 t468 t471 t472) else ((terracelaw15_within.f a1).bind fun t475 => (terracelaw15_DetectGroups.j0 k l0 a1 (!t475) t449 t450 t451 t452 t453 t454 t455 t456 t457 t458 t459 t460 t461 t462 t463 t464 t466 t467 t468 t471 t472))) = some r := H
  have A3 := Aside0.mk A30
  clear A30
  have HC4 := Aside0.mk H
  clear H
  go_enter Try.func3, Try.ntmps3
  go_upto_region 2 with (first | ((with_reducible refine gate_callee (f := 7) rfl ?_); refine goesL_ (some 13) rfl rfl Try.func7 (by kernel_rfl) rfl #[] rfl (by (try simp only [List.map_toArray, List.map_cons, List.map_nil]); first | done | rfl | (simp only [List.length_drop, List.length_take]; rfl)) ?_; (with_reducible refine (detect_New.calls  t449 t450 t451 t452 t453 t454 t455 t456 t457 t458 t459 t460 t461 t462 t463 t464 t471 t472 t466 t467 t468 _ A3.out).mono ?_); rintro e w5 ⟨v473, g469, g470, rfl, ho0, hi0, hi0_1, hb2⟩; refine ⟨_, rfl, ?_⟩; have hge_ := Nat.le_trans (below_size ((bbq7 HB.out))) hi0.2; have hgw_ := Nat.le_trans (below_size ((bbq7 HB.out))) hi0.2; have hge_1 := Nat.le_trans (below_size ((bbq7 HB.out))) hi0_1.2; have hgw_1 := Nat.le_trans (below_size ((bbq7 HB.out))) hi0_1.2; have hb := below_step ((bbq7 HB.out)) hb2; have n0_ := Aside0.mk (Kd.R_lower ho0 (below_size ((bbq7 HB.out)))); have n1_ := Aside0.mk (hb); have n2_ := Aside0.mk (hi0.1); have n3_ := Aside0.mk (hge_); have n4_ := Aside0.mk (hgw_); have n5_ := Aside0.mk (hi0_1.1); have n6_ := Aside0.mk (hge_1); have n7_ := Aside0.mk (hgw_1); have n8_ := Aside0.mk ((show g469 ≠ g470 from fun e_ => by have h1_ := hi0.1; have h2_ := hi0_1.1; rw [e_] at h1_; have h_ := h1_.symm.trans h2_; simp at h_)); have n9_ := Aside0.mk ((show g470 ≠ g469 from fun e_ => by have h1_ := hi0_1.1; have h2_ := hi0.1; rw [e_] at h1_; have h_ := h1_.symm.trans h2_; simp at h_)); clear HB; have HO474 := n0_; have HB := n1_; have BK469 := n2_; have GE469 := n3_; have GW469 := n4_; have BK470 := n5_; have GE470 := n6_; have GW470 := n7_; have NB469_470 := n8_; have NB470_469 := n9_; clear n0_ n1_ n2_ n3_ n4_ n5_ n6_ n7_ n8_ n9_; (try clear hb); (try clear hb2); (try clear hge_); (try clear hgw_); (try clear hi0); (try clear hge_1); (try clear hgw_1); (try clear hi0_1); (try clear ho0)))
  (try simp only [Act.put, List.setIfInBounds_toArray, List.set_cons_zero, List.set_cons_succ])
  go_cut [25] (fun v25 wc => ∃ (kq : Nat) (x25_3 : Bool), v25 = .bool x25_3 ∧ Aside0 (terracelaw15_DetectGroups.j0 kq l0 a1 x25_3 t449 t450 t451 t452 t453 t454 t455 t456 t457 t458 t459 t460 t461 t462 t463 t464 t466 t467 t468 t471 t472 = some r) ∧ Aside0 (kq ≤ k) ∧ Aside0 (Kd.R (Kd.int .i64) 3 wc w.heap.size (fun _ => True) v473 t472) ∧ Aside0 (wc.heap[g469]? = some (.cells #[.int .u32 t449, .bool t450, .int .u32 t451, .bool t452, .int .u32 t453, .bool t454, .int .u32 t455, .bool t456, .int .u32 t457, .bool t458, .int .u32 t459, .bool t460, .int .u32 t461, .bool t462, .int .u32 t463, .bool t464, .pointer (some ⟨g470, 0, none⟩), .int .i64 t466, .int .i64 t467, .bool t468] 54 (0, 0))) ∧ Aside0 (wc.heap[g470]? = some (.cells #[.int .i64 t471, v473] 68 (0, 0))) ∧ Aside0 (Below w.heap.size w wc))
  case first =>
    have H := HC4.out
    clear HC4
    by_cases c6 : (l0.length : Int) > 100
    · rw [if_pos c6] at H
      have c6b0 : decide (100 < (l0.length : Int)) = true := decide_eq_true c6
      have c6b1 : decide (100 < l0.length) = true := decide_eq_true (by omega)
      clear c6
      (first | rw [c6b0] | (simp only [i64_w, i32_w]; rw [c6b0]) | skip)
      have H' := Aside0.mk H
      clear H
      go_wp2
      go_meet
      case rel => exact ⟨_, (true), (by first | rfl | (simp; done) | (simp [*]; done)), H', ⟨by first | omega | exact Nat.le_refl _⟩, ⟨by (with_reducible repeat (first | apply Kd.R_alloc | apply Kd.R_drewN | apply Kd.R_drew)); exact HO474.out⟩, ⟨by exact bpq7 BK469.out⟩, ⟨by exact bpq7 BK470.out⟩, ⟨(bbq7 HB.out)⟩⟩
    · rw [if_neg c6] at H
      have c6b0 : decide (100 < (l0.length : Int)) = false := decide_eq_false c6
      have c6b1 : decide (100 < l0.length) = false := decide_eq_false (by omega)
      clear c6
      (first | rw [c6b0] | (simp only [i64_w, i32_w]; rw [c6b0]) | skip)
      replace H := Option.bind_eq_some_iff.mp H
      obtain ⟨t475, A70, H⟩ := H
      replace H : (terracelaw15_DetectGroups.j0 k l0 a1 (!t475) t449 t450 t451 t452 t453 t454 t455 t456 t457 t458 t459 t460 t461 t462 t463 t464 t466 t467 t468 t471 t472) = some r := H
      have A7 := Aside0.mk A70
      clear A70
      have H' := Aside0.mk H
      clear H
      go_wp2_with (first | (go_at_call 8; (with_reducible refine (terracelaw15_within.calls a1 t475 _ A7.out).mono ?_); rintro e w' ⟨rfl, ⟨nd, rfl⟩⟩))
      go_meet
      case rel => exact ⟨_, (!t475), (by first | rfl | (simp; done) | (simp [*]; done)), H', ⟨by first | omega | exact Nat.le_refl _⟩, ⟨by (with_reducible repeat (first | apply Kd.R_alloc | apply Kd.R_drewN | apply Kd.R_drew)); exact HO474.out⟩, ⟨by exact bpq7 BK469.out⟩, ⟨by exact bpq7 BK470.out⟩, ⟨(bbq7 HB.out)⟩⟩
  case rest =>
    clear HC4
    try clear p2
    try clear c3
    try clear c6
    try clear c6b0
    try clear c6b1
    try clear c7
    obtain ⟨kq, x25_3, rfl, HA, HJ3, HO_471001, BK469, BK470, HB⟩ := hcut
    cases kq with
    | zero => exact absurd HA.out (by simp [terracelaw15_DetectGroups.j0])
    | succ kj3 =>
      have H := HA.out
      clear HA
      simp only [terracelaw15_DetectGroups.j0] at H
      by_cases c8 : x25_3 = true
      · subst c8
        have H1 : ((terracelaw15_awake.f kj3).bind fun t476 => (some t476)) = some r := by rw [if_pos rfl] at H; exact H
        clear H
        have H := H1
        clear H1
        replace H := Option.bind_eq_some_iff.mp H
        obtain ⟨t476, A90, H⟩ := H
        replace H : (some t476) = some r := H
        have A9 := Aside0.mk A90
        clear A90
        obtain rfl := Option.some.inj H
        go_wp2_with (first | (go_at_call 9; (with_reducible refine (terracelaw15_awake.calls kj3  t476 _ A9.out).mono ?_); rintro e w10 ⟨rfl, hb⟩; have n0_ := Aside0.mk (Kd.R_below (by (with_reducible repeat (first | apply Kd.R_alloc | apply Kd.R_drewN | apply Kd.R_drew)); exact HO_471001.out) hb); have n1_ := Aside0.mk (blk_below (g := g469) (o := .cells #[.int .u32 t449, .bool t450, .int .u32 t451, .bool t452, .int .u32 t453, .bool t454, .int .u32 t455, .bool t456, .int .u32 t457, .bool t458, .int .u32 t459, .bool t460, .int .u32 t461, .bool t462, .int .u32 t463, .bool t464, .pointer (some ⟨g470, 0, none⟩), .int .i64 t466, .int .i64 t467, .bool t468] 54 (0, 0)) (by exact bpq7 BK469.out) hb); have n2_ := Aside0.mk (blk_below (g := g470) (o := .cells #[.int .i64 t471, v473] 68 (0, 0)) (by exact bpq7 BK470.out) hb); have n3_ := Aside0.mk (below_step ((bbq7 HB.out)) hb); clear HO_471001; clear BK469; clear BK470; clear HB; have HO_471001 := n0_; have BK469 := n1_; have BK470 := n2_; have HB := n3_; clear n0_ n1_ n2_ n3_; (try clear hb); (try clear hb2); (try clear hk); (try clear hi)))
        go_ret
        exact ⟨by first | rfl | (simp [errW_none, errW_some] <;> rfl) | (simp [*, errW_none, errW_some] <;> rfl), (bbq7 HB.out)⟩
      · replace c8 := Bool.eq_false_iff.mpr c8
        subst c8
        have H1 : (terracelaw15_DetectGroups.l0 kj3 a1 0 0 false l0 (l0.length : Int) 0 t449 t450 t451 t452 t453 t454 t455 t456 t457 t458 t459 t460 t461 t462 t463 t464 t466 t467 t468 t471 t472) = some r := by rw [if_neg (show ¬ (false = true) by decide)] at H; exact H
        clear H
        have H := H1
        clear H1
        have H' := Aside0.mk H
        clear H
        go_wp2
        go_loopg [6, 7, 8, 33] kj3 (fun kq v6 v7 v8 v33 w' => ∃ (x6_2 : Int) (x7_2 : Int) (x8_2 : Bool) (x33_2 : Int) (x470000_2 : Int) (x470001_2 : Bool) (x470002_2 : Int) (x470003_2 : Bool) (x470004_2 : Int) (x470005_2 : Bool) (x470006_2 : Int) (x470007_2 : Bool) (x470008_2 : Int) (x470009_2 : Bool) (x470010_2 : Int) (x470011_2 : Bool) (x470012_2 : Int) (x470013_2 : Bool) (x470014_2 : Int) (x470015_2 : Bool) (x470017_2 : Int) (x470018_2 : Int) (x470019_2 : Bool) (x471000_2 : Int) (x471001_2 : List Int) (u471001 : Value), v6 = .int .i64 x6_2 ∧ v7 = .int .i64 x7_2 ∧ v8 = .bool x8_2 ∧ v33 = .int .i64 x33_2 ∧ Aside0 (terracelaw15_DetectGroups.l0 kq a1 x6_2 x7_2 x8_2 l0 (l0.length : Int) x33_2 x470000_2 x470001_2 x470002_2 x470003_2 x470004_2 x470005_2 x470006_2 x470007_2 x470008_2 x470009_2 x470010_2 x470011_2 x470012_2 x470013_2 x470014_2 x470015_2 x470017_2 x470018_2 x470019_2 x471000_2 x471001_2 = some r) ∧ Aside0 (kq ≤ kj3) ∧ Aside0 (Kd.R (Kd.int .i64) 3 w' w.heap.size (fun _ => True) u471001 x471001_2) ∧ Aside0 (w'.heap[g469]? = some (.cells #[.int .u32 x470000_2, .bool x470001_2, .int .u32 x470002_2, .bool x470003_2, .int .u32 x470004_2, .bool x470005_2, .int .u32 x470006_2, .bool x470007_2, .int .u32 x470008_2, .bool x470009_2, .int .u32 x470010_2, .bool x470011_2, .int .u32 x470012_2, .bool x470013_2, .int .u32 x470014_2, .bool x470015_2, .pointer (some ⟨g470, 0, none⟩), .int .i64 x470017_2, .int .i64 x470018_2, .bool x470019_2] 54 (0, 0))) ∧ Aside0 (w'.heap[g470]? = some (.cells #[.int .i64 x471000_2, u471001] 68 (0, 0))) ∧ Aside0 (Below w.heap.size w w'))
        case atStart => exact ⟨(0), (0), (false), (0), (t449), (t450), (t451), (t452), (t453), (t454), (t455), (t456), (t457), (t458), (t459), (t460), (t461), (t462), (t463), (t464), (t466), (t467), (t468), (t471), (t472), (v473), (by first | rfl | (simp; done) | (simp [*]; done)), (by first | rfl | (simp; done) | (simp [*]; done)), (by first | rfl | (simp; done) | (simp [*]; done)), (by first | rfl | (simp; done) | (simp [*]; done)), H', ⟨Nat.le_refl _⟩, ⟨by (with_reducible repeat (first | apply Kd.R_alloc | apply Kd.R_drewN | apply Kd.R_drew)); exact HO_471001.out⟩, ⟨by exact bpq7 BK469.out⟩, ⟨by exact bpq7 BK470.out⟩, ⟨(bbq7 HB.out)⟩⟩
        case round =>
          clear H'
          try clear p2
          try clear c3
          try clear c6
          try clear c6b0
          try clear c6b1
          try clear c7
          try clear c8
          try clear p2
          obtain ⟨x6_2, x7_2, x8_2, x33_2, x470000_2, x470001_2, x470002_2, x470003_2, x470004_2, x470005_2, x470006_2, x470007_2, x470008_2, x470009_2, x470010_2, x470011_2, x470012_2, x470013_2, x470014_2, x470015_2, x470017_2, x470018_2, x470019_2, x471000_2, x471001_2, u471001, rfl, rfl, rfl, rfl, HA, HK2, HO_471001, BK469, BK470, HB⟩ := hrel
          cases gk with
          | zero => exact absurd HA.out (by simp [terracelaw15_DetectGroups.l0])
          | succ k2 =>
            have H := HA.out
            clear HA
            simp only [terracelaw15_DetectGroups.l0] at H
            by_cases c11 : x33_2 < (l0.length : Int)
            · rw [if_pos c11] at H
              have c11b0 : decide (x33_2 < (l0.length : Int)) = true := decide_eq_true c11
              clear c11
              by_cases c12 : 0 ≤ x33_2
              · rw [if_pos c12] at H
                have c12b0 : decide (0 ≤ x33_2) = true := decide_eq_true c12
                clear c12
                by_cases c13 : x33_2 < (l0.length : Int)
                · rw [if_pos c13] at H
                  have c13b0 : decide (x33_2 < (l0.length : Int)) = true := decide_eq_true c13
                  clear c13
                  obtain ⟨ji14, hji14⟩ : ∃ j_ : Int, (mx ((rd_T29 l0 x33_2).f3) 0) = j_ := ⟨_, rfl⟩
                  replace H : ((detect_Detect_On.f k2 x470000_2 x470001_2 x470002_2 x470003_2 x470004_2 x470005_2 x470006_2 x470007_2 x470008_2 x470009_2 x470010_2 x470011_2 x470012_2 x470013_2 x470014_2 x470015_2 x471000_2 x471001_2 x470017_2 x470018_2 x470019_2 (Go.bits .and .i64 ((rd_T29 l0 x33_2).f1) 7) ((rd_T29 l0 x33_2).f2) (wrap64 (x6_2 + (mn (ji14) 1000))) a1).bind fun bt480 => (if bt480.2.2.2.1 = 0 then (if bt480.1 > 0 then (if x8_2 = true then (if (bt480.2.1 != (decide ((wrap64 ((wrap64 (x6_2 + (mn (ji14) 1000))) - x7_2)) > a1))) = true then (terracelaw15_DetectGroups.j2 k2 a1 (wrap64 (x6_2 + (mn (ji14) 1000))) x7_2 x8_2 l0 (l0.length : Int) x33_2 true bt480.2.2.2.2.1 bt480.2.2.2.2.2.1 bt480.2.2.2.2.2.2.1 bt480.2.2.2.2.2.2.2.1 bt480.2.2.2.2.2.2.2.2.1 bt480.2.2.2.2.2.2.2.2.2.1 bt480.2.2.2.2.2.2.2.2.2.2.1 bt480.2.2.2.2.2.2.2.2.2.2.2.1 bt480.2.2.2.2.2.2.2.2.2.2.2.2.1 bt480.2.2.2.2.2.2.2.2.2.2.2.2.2.1 bt480.2.2.2.2.2.2.2.2.2.2.2.2.2.2.1 bt480.2.2.2.2.2.2.2.2.2.2.2.2.2.2.2.1 bt480.2.2.2.2.2.2.2.2.2.2.2.2.2.2.2.2.1 bt480.2.2.2.2.2.2.2.2.2.2.2.2.2.2.2.2.2.1 bt480.2.2.2.2.2.2.2.2.2.2.2.2.2.2.2.2.2.2.1 bt480.2.2.2.2.2.2.2.2.2.2.2.2.2.2.2.2.2.2.2.1 bt480.2.2.2.2.2.2.2.2.2.2.2.2.2.2.2.2.2.2.2.2.2.2.1 bt480.2.2.2.2.2.2.2.2.2.2.2.2.2.2.2.2.2.2.2.2.2.2.2.1 bt480.2.2.2.2.2.2.2.2.2.2.2.2.2.2.2.2.2.2.2.2.2.2.2.2 bt480.2.2.2.2.2.2.2.2.2.2.2.2.2.2.2.2.2.2.2.2.1 bt480.2.2.2.2.2.2.2.2.2.2.2.2.2.2.2.2.2.2.2.2.2.1 bt480.1 bt480.2.1 bt480.2.2.1) else (if bt480.2.1 = true then (if (bt480.2.2.1 != (!x8_2)) = true then (terracelaw15_DetectGroups.j2 k2 a1 (wrap64 (x6_2 + (mn (ji14) 1000))) x7_2 x8_2 l0 (l0.length : Int) x33_2 true bt480.2.2.2.2.1 bt480.2.2.2.2.2.1 bt480.2.2.2.2.2.2.1 bt480.2.2.2.2.2.2.2.1 bt480.2.2.2.2.2.2.2.2.1 bt480.2.2.2.2.2.2.2.2.2.1 bt480.2.2.2.2.2.2.2.2.2.2.1 bt480.2.2.2.2.2.2.2.2.2.2.2.1 bt480.2.2.2.2.2.2.2.2.2.2.2.2.1 bt480.2.2.2.2.2.2.2.2.2.2.2.2.2.1 bt480.2.2.2.2.2.2.2.2.2.2.2.2.2.2.1 bt480.2.2.2.2.2.2.2.2.2.2.2.2.2.2.2.1 bt480.2.2.2.2.2.2.2.2.2.2.2.2.2.2.2.2.1 bt480.2.2.2.2.2.2.2.2.2.2.2.2.2.2.2.2.2.1 bt480.2.2.2.2.2.2.2.2.2.2.2.2.2.2.2.2.2.2.1 bt480.2.2.2.2.2.2.2.2.2.2.2.2.2.2.2.2.2.2.2.1 bt480.2.2.2.2.2.2.2.2.2.2.2.2.2.2.2.2.2.2.2.2.2.2.1 bt480.2.2.2.2.2.2.2.2.2.2.2.2.2.2.2.2.2.2.2.2.2.2.2.1 bt480.2.2.2.2.2.2.2.2.2.2.2.2.2.2.2.2.2.2.2.2.2.2.2.2 bt480.2.2.2.2.2.2.2.2.2.2.2.2.2.2.2.2.2.2.2.2.1 bt480.2.2.2.2.2.2.2.2.2.2.2.2.2.2.2.2.2.2.2.2.2.1 bt480.1 bt480.2.1 bt480.2.2.1) else (terracelaw15_DetectGroups.j2 k2 a1 (wrap64 (x6_2 + (mn (ji14) 1000))) x7_2 x8_2 l0 (l0.length : Int) x33_2 (decide (bt480.1 < 0)) bt480.2.2.2.2.1 bt480.2.2.2.2.2.1 bt480.2.2.2.2.2.2.1 bt480.2.2.2.2.2.2.2.1 bt480.2.2.2.2.2.2.2.2.1 bt480.2.2.2.2.2.2.2.2.2.1 bt480.2.2.2.2.2.2.2.2.2.2.1 bt480.2.2.2.2.2.2.2.2.2.2.2.1 bt480.2.2.2.2.2.2.2.2.2.2.2.2.1 bt480.2.2.2.2.2.2.2.2.2.2.2.2.2.1 bt480.2.2.2.2.2.2.2.2.2.2.2.2.2.2.1 bt480.2.2.2.2.2.2.2.2.2.2.2.2.2.2.2.1 bt480.2.2.2.2.2.2.2.2.2.2.2.2.2.2.2.2.1 bt480.2.2.2.2.2.2.2.2.2.2.2.2.2.2.2.2.2.1 bt480.2.2.2.2.2.2.2.2.2.2.2.2.2.2.2.2.2.2.1 bt480.2.2.2.2.2.2.2.2.2.2.2.2.2.2.2.2.2.2.2.1 bt480.2.2.2.2.2.2.2.2.2.2.2.2.2.2.2.2.2.2.2.2.2.2.1 bt480.2.2.2.2.2.2.2.2.2.2.2.2.2.2.2.2.2.2.2.2.2.2.2.1 bt480.2.2.2.2.2.2.2.2.2.2.2.2.2.2.2.2.2.2.2.2.2.2.2.2 bt480.2.2.2.2.2.2.2.2.2.2.2.2.2.2.2.2.2.2.2.2.1 bt480.2.2.2.2.2.2.2.2.2.2.2.2.2.2.2.2.2.2.2.2.2.1 bt480.1 bt480.2.1 bt480.2.2.1)) else (if (bt480.2.2.1 != false) = true then (terracelaw15_DetectGroups.j2 k2 a1 (wrap64 (x6_2 + (mn (ji14) 1000))) x7_2 x8_2 l0 (l0.length : Int) x33_2 true bt480.2.2.2.2.1 bt480.2.2.2.2.2.1 bt480.2.2.2.2.2.2.1 bt480.2.2.2.2.2.2.2.1 bt480.2.2.2.2.2.2.2.2.1 bt480.2.2.2.2.2.2.2.2.2.1 bt480.2.2.2.2.2.2.2.2.2.2.1 bt480.2.2.2.2.2.2.2.2.2.2.2.1 bt480.2.2.2.2.2.2.2.2.2.2.2.2.1 bt480.2.2.2.2.2.2.2.2.2.2.2.2.2.1 bt480.2.2.2.2.2.2.2.2.2.2.2.2.2.2.1 bt480.2.2.2.2.2.2.2.2.2.2.2.2.2.2.2.1 bt480.2.2.2.2.2.2.2.2.2.2.2.2.2.2.2.2.1 bt480.2.2.2.2.2.2.2.2.2.2.2.2.2.2.2.2.2.1 bt480.2.2.2.2.2.2.2.2.2.2.2.2.2.2.2.2.2.2.1 bt480.2.2.2.2.2.2.2.2.2.2.2.2.2.2.2.2.2.2.2.1 bt480.2.2.2.2.2.2.2.2.2.2.2.2.2.2.2.2.2.2.2.2.2.2.1 bt480.2.2.2.2.2.2.2.2.2.2.2.2.2.2.2.2.2.2.2.2.2.2.2.1 bt480.2.2.2.2.2.2.2.2.2.2.2.2.2.2.2.2.2.2.2.2.2.2.2.2 bt480.2.2.2.2.2.2.2.2.2.2.2.2.2.2.2.2.2.2.2.2.1 bt480.2.2.2.2.2.2.2.2.2.2.2.2.2.2.2.2.2.2.2.2.2.1 bt480.1 bt480.2.1 bt480.2.2.1) else (terracelaw15_DetectGroups.j2 k2 a1 (wrap64 (x6_2 + (mn (ji14) 1000))) x7_2 x8_2 l0 (l0.length : Int) x33_2 (decide (bt480.1 < 0)) bt480.2.2.2.2.1 bt480.2.2.2.2.2.1 bt480.2.2.2.2.2.2.1 bt480.2.2.2.2.2.2.2.1 bt480.2.2.2.2.2.2.2.2.1 bt480.2.2.2.2.2.2.2.2.2.1 bt480.2.2.2.2.2.2.2.2.2.2.1 bt480.2.2.2.2.2.2.2.2.2.2.2.1 bt480.2.2.2.2.2.2.2.2.2.2.2.2.1 bt480.2.2.2.2.2.2.2.2.2.2.2.2.2.1 bt480.2.2.2.2.2.2.2.2.2.2.2.2.2.2.1 bt480.2.2.2.2.2.2.2.2.2.2.2.2.2.2.2.1 bt480.2.2.2.2.2.2.2.2.2.2.2.2.2.2.2.2.1 bt480.2.2.2.2.2.2.2.2.2.2.2.2.2.2.2.2.2.1 bt480.2.2.2.2.2.2.2.2.2.2.2.2.2.2.2.2.2.2.1 bt480.2.2.2.2.2.2.2.2.2.2.2.2.2.2.2.2.2.2.2.1 bt480.2.2.2.2.2.2.2.2.2.2.2.2.2.2.2.2.2.2.2.2.2.2.1 bt480.2.2.2.2.2.2.2.2.2.2.2.2.2.2.2.2.2.2.2.2.2.2.2.1 bt480.2.2.2.2.2.2.2.2.2.2.2.2.2.2.2.2.2.2.2.2.2.2.2.2 bt480.2.2.2.2.2.2.2.2.2.2.2.2.2.2.2.2.2.2.2.2.1 bt480.2.2.2.2.2.2.2.2.2.2.2.2.2.2.2.2.2.2.2.2.2.1 bt480.1 bt480.2.1 bt480.2.2.1)))) else (if (bt480.2.1 != true) = true then (terracelaw15_DetectGroups.j2 k2 a1 (wrap64 (x6_2 + (mn (ji14) 1000))) x7_2 x8_2 l0 (l0.length : Int) x33_2 true bt480.2.2.2.2.1 bt480.2.2.2.2.2.1 bt480.2.2.2.2.2.2.1 bt480.2.2.2.2.2.2.2.1 bt480.2.2.2.2.2.2.2.2.1 bt480.2.2.2.2.2.2.2.2.2.1 bt480.2.2.2.2.2.2.2.2.2.2.1 bt480.2.2.2.2.2.2.2.2.2.2.2.1 bt480.2.2.2.2.2.2.2.2.2.2.2.2.1 bt480.2.2.2.2.2.2.2.2.2.2.2.2.2.1 bt480.2.2.2.2.2.2.2.2.2.2.2.2.2.2.1 bt480.2.2.2.2.2.2.2.2.2.2.2.2.2.2.2.1 bt480.2.2.2.2.2.2.2.2.2.2.2.2.2.2.2.2.1 bt480.2.2.2.2.2.2.2.2.2.2.2.2.2.2.2.2.2.1 bt480.2.2.2.2.2.2.2.2.2.2.2.2.2.2.2.2.2.2.1 bt480.2.2.2.2.2.2.2.2.2.2.2.2.2.2.2.2.2.2.2.1 bt480.2.2.2.2.2.2.2.2.2.2.2.2.2.2.2.2.2.2.2.2.2.2.1 bt480.2.2.2.2.2.2.2.2.2.2.2.2.2.2.2.2.2.2.2.2.2.2.2.1 bt480.2.2.2.2.2.2.2.2.2.2.2.2.2.2.2.2.2.2.2.2.2.2.2.2 bt480.2.2.2.2.2.2.2.2.2.2.2.2.2.2.2.2.2.2.2.2.1 bt480.2.2.2.2.2.2.2.2.2.2.2.2.2.2.2.2.2.2.2.2.2.1 bt480.1 bt480.2.1 bt480.2.2.1) else (if bt480.2.1 = true then (if (bt480.2.2.1 != (!x8_2)) = true then (terracelaw15_DetectGroups.j2 k2 a1 (wrap64 (x6_2 + (mn (ji14) 1000))) x7_2 x8_2 l0 (l0.length : Int) x33_2 true bt480.2.2.2.2.1 bt480.2.2.2.2.2.1 bt480.2.2.2.2.2.2.1 bt480.2.2.2.2.2.2.2.1 bt480.2.2.2.2.2.2.2.2.1 bt480.2.2.2.2.2.2.2.2.2.1 bt480.2.2.2.2.2.2.2.2.2.2.1 bt480.2.2.2.2.2.2.2.2.2.2.2.1 bt480.2.2.2.2.2.2.2.2.2.2.2.2.1 bt480.2.2.2.2.2.2.2.2.2.2.2.2.2.1 bt480.2.2.2.2.2.2.2.2.2.2.2.2.2.2.1 bt480.2.2.2.2.2.2.2.2.2.2.2.2.2.2.2.1 bt480.2.2.2.2.2.2.2.2.2.2.2.2.2.2.2.2.1 bt480.2.2.2.2.2.2.2.2.2.2.2.2.2.2.2.2.2.1 bt480.2.2.2.2.2.2.2.2.2.2.2.2.2.2.2.2.2.2.1 bt480.2.2.2.2.2.2.2.2.2.2.2.2.2.2.2.2.2.2.2.1 bt480.2.2.2.2.2.2.2.2.2.2.2.2.2.2.2.2.2.2.2.2.2.2.1 bt480.2.2.2.2.2.2.2.2.2.2.2.2.2.2.2.2.2.2.2.2.2.2.2.1 bt480.2.2.2.2.2.2.2.2.2.2.2.2.2.2.2.2.2.2.2.2.2.2.2.2 bt480.2.2.2.2.2.2.2.2.2.2.2.2.2.2.2.2.2.2.2.2.1 bt480.2.2.2.2.2.2.2.2.2.2.2.2.2.2.2.2.2.2.2.2.2.1 bt480.1 bt480.2.1 bt480.2.2.1) else (terracelaw15_DetectGroups.j2 k2 a1 (wrap64 (x6_2 + (mn (ji14) 1000))) x7_2 x8_2 l0 (l0.length : Int) x33_2 (decide (bt480.1 < 0)) bt480.2.2.2.2.1 bt480.2.2.2.2.2.1 bt480.2.2.2.2.2.2.1 bt480.2.2.2.2.2.2.2.1 bt480.2.2.2.2.2.2.2.2.1 bt480.2.2.2.2.2.2.2.2.2.1 bt480.2.2.2.2.2.2.2.2.2.2.1 bt480.2.2.2.2.2.2.2.2.2.2.2.1 bt480.2.2.2.2.2.2.2.2.2.2.2.2.1 bt480.2.2.2.2.2.2.2.2.2.2.2.2.2.1 bt480.2.2.2.2.2.2.2.2.2.2.2.2.2.2.1 bt480.2.2.2.2.2.2.2.2.2.2.2.2.2.2.2.1 bt480.2.2.2.2.2.2.2.2.2.2.2.2.2.2.2.2.1 bt480.2.2.2.2.2.2.2.2.2.2.2.2.2.2.2.2.2.1 bt480.2.2.2.2.2.2.2.2.2.2.2.2.2.2.2.2.2.2.1 bt480.2.2.2.2.2.2.2.2.2.2.2.2.2.2.2.2.2.2.2.1 bt480.2.2.2.2.2.2.2.2.2.2.2.2.2.2.2.2.2.2.2.2.2.2.1 bt480.2.2.2.2.2.2.2.2.2.2.2.2.2.2.2.2.2.2.2.2.2.2.2.1 bt480.2.2.2.2.2.2.2.2.2.2.2.2.2.2.2.2.2.2.2.2.2.2.2.2 bt480.2.2.2.2.2.2.2.2.2.2.2.2.2.2.2.2.2.2.2.2.1 bt480.2.2.2.2.2.2.2.2.2.2.2.2.2.2.2.2.2.2.2.2.2.1 bt480.1 bt480.2.1 bt480.2.2.1)) else (if (bt480.2.2.1 != false) = true then (terracelaw15_DetectGroups.j2 k2 a1 (wrap64 (x6_2 + (mn (ji14) 1000))) x7_2 x8_2 l0 (l0.length : Int) x33_2 true bt480.2.2.2.2.1 bt480.2.2.2.2.2.1 bt480.2.2.2.2.2.2.1 bt480.2.2.2.2.2.2.2.1 bt480.2.2.2.2.2.2.2.2.1 bt480.2.2.2.2.2.2.2.2.2.1 bt480.2.2.2.2.2.2.2.2.2.2.1 bt480.2.2.2.2.2.2.2.2.2.2.2.1 bt480.2.2.2.2.2.2.2.2.2.2.2.2.1 bt480.2.2.2.2.2.2.2.2.2.2.2.2.2.1 bt480.2.2.2.2.2.2.2.2.2.2.2.2.2.2.1 bt480.2.2.2.2.2.2.2.2.2.2.2.2.2.2.2.1 bt480.2.2.2.2.2.2.2.2.2.2.2.2.2.2.2.2.1 bt480.2.2.2.2.2.2.2.2.2.2.2.2.2.2.2.2.2.1 bt480.2.2.2.2.2.2.2.2.2.2.2.2.2.2.2.2.2.2.1 bt480.2.2.2.2.2.2.2.2.2.2.2.2.2.2.2.2.2.2.2.1 bt480.2.2.2.2.2.2.2.2.2.2.2.2.2.2.2.2.2.2.2.2.2.2.1 bt480.2.2.2.2.2.2.2.2.2.2.2.2.2.2.2.2.2.2.2.2.2.2.2.1 bt480.2.2.2.2.2.2.2.2.2.2.2.2.2.2.2.2.2.2.2.2.2.2.2.2 bt480.2.2.2.2.2.2.2.2.2.2.2.2.2.2.2.2.2.2.2.2.1 bt480.2.2.2.2.2.2.2.2.2.2.2.2.2.2.2.2.2.2.2.2.2.1 bt480.1 bt480.2.1 bt480.2.2.1) else (terracelaw15_DetectGroups.j2 k2 a1 (wrap64 (x6_2 + (mn (ji14) 1000))) x7_2 x8_2 l0 (l0.length : Int) x33_2 (decide (bt480.1 < 0)) bt480.2.2.2.2.1 bt480.2.2.2.2.2.1 bt480.2.2.2.2.2.2.1 bt480.2.2.2.2.2.2.2.1 bt480.2.2.2.2.2.2.2.2.1 bt480.2.2.2.2.2.2.2.2.2.1 bt480.2.2.2.2.2.2.2.2.2.2.1 bt480.2.2.2.2.2.2.2.2.2.2.2.1 bt480.2.2.2.2.2.2.2.2.2.2.2.2.1 bt480.2.2.2.2.2.2.2.2.2.2.2.2.2.1 bt480.2.2.2.2.2.2.2.2.2.2.2.2.2.2.1 bt480.2.2.2.2.2.2.2.2.2.2.2.2.2.2.2.1 bt480.2.2.2.2.2.2.2.2.2.2.2.2.2.2.2.2.1 bt480.2.2.2.2.2.2.2.2.2.2.2.2.2.2.2.2.2.1 bt480.2.2.2.2.2.2.2.2.2.2.2.2.2.2.2.2.2.2.1 bt480.2.2.2.2.2.2.2.2.2.2.2.2.2.2.2.2.2.2.2.1 bt480.2.2.2.2.2.2.2.2.2.2.2.2.2.2.2.2.2.2.2.2.2.2.1 bt480.2.2.2.2.2.2.2.2.2.2.2.2.2.2.2.2.2.2.2.2.2.2.2.1 bt480.2.2.2.2.2.2.2.2.2.2.2.2.2.2.2.2.2.2.2.2.2.2.2.2 bt480.2.2.2.2.2.2.2.2.2.2.2.2.2.2.2.2.2.2.2.2.1 bt480.2.2.2.2.2.2.2.2.2.2.2.2.2.2.2.2.2.2.2.2.2.1 bt480.1 bt480.2.1 bt480.2.2.1))))) else (if (bt480.2.1 != false) = true then (terracelaw15_DetectGroups.j2 k2 a1 (wrap64 (x6_2 + (mn (ji14) 1000))) x7_2 x8_2 l0 (l0.length : Int) x33_2 true bt480.2.2.2.2.1 bt480.2.2.2.2.2.1 bt480.2.2.2.2.2.2.1 bt480.2.2.2.2.2.2.2.1 bt480.2.2.2.2.2.2.2.2.1 bt480.2.2.2.2.2.2.2.2.2.1 bt480.2.2.2.2.2.2.2.2.2.2.1 bt480.2.2.2.2.2.2.2.2.2.2.2.1 bt480.2.2.2.2.2.2.2.2.2.2.2.2.1 bt480.2.2.2.2.2.2.2.2.2.2.2.2.2.1 bt480.2.2.2.2.2.2.2.2.2.2.2.2.2.2.1 bt480.2.2.2.2.2.2.2.2.2.2.2.2.2.2.2.1 bt480.2.2.2.2.2.2.2.2.2.2.2.2.2.2.2.2.1 bt480.2.2.2.2.2.2.2.2.2.2.2.2.2.2.2.2.2.1 bt480.2.2.2.2.2.2.2.2.2.2.2.2.2.2.2.2.2.2.1 bt480.2.2.2.2.2.2.2.2.2.2.2.2.2.2.2.2.2.2.2.1 bt480.2.2.2.2.2.2.2.2.2.2.2.2.2.2.2.2.2.2.2.2.2.2.1 bt480.2.2.2.2.2.2.2.2.2.2.2.2.2.2.2.2.2.2.2.2.2.2.2.1 bt480.2.2.2.2.2.2.2.2.2.2.2.2.2.2.2.2.2.2.2.2.2.2.2.2 bt480.2.2.2.2.2.2.2.2.2.2.2.2.2.2.2.2.2.2.2.2.1 bt480.2.2.2.2.2.2.2.2.2.2.2.2.2.2.2.2.2.2.2.2.2.1 bt480.1 bt480.2.1 bt480.2.2.1) else (if bt480.2.1 = true then (if (bt480.2.2.1 != (!x8_2)) = true then (terracelaw15_DetectGroups.j2 k2 a1 (wrap64 (x6_2 + (mn (ji14) 1000))) x7_2 x8_2 l0 (l0.length : Int) x33_2 true bt480.2.2.2.2.1 bt480.2.2.2.2.2.1 bt480.2.2.2.2.2.2.1 bt480.2.2.2.2.2.2.2.1 bt480.2.2.2.2.2.2.2.2.1 bt480.2.2.2.2.2.2.2.2.2.1 bt480.2.2.2.2.2.2.2.2.2.2.1 bt480.2.2.2.2.2.2.2.2.2.2.2.1 bt480.2.2.2.2.2.2.2.2.2.2.2.2.1 bt480.2.2.2.2.2.2.2.2.2.2.2.2.2.1 bt480.2.2.2.2.2.2.2.2.2.2.2.2.2.2.1 bt480.2.2.2.2.2.2.2.2.2.2.2.2.2.2.2.1 bt480.2.2.2.2.2.2.2.2.2.2.2.2.2.2.2.2.1 bt480.2.2.2.2.2.2.2.2.2.2.2.2.2.2.2.2.2.1 bt480.2.2.2.2.2.2.2.2.2.2.2.2.2.2.2.2.2.2.1 bt480.2.2.2.2.2.2.2.2.2.2.2.2.2.2.2.2.2.2.2.1 bt480.2.2.2.2.2.2.2.2.2.2.2.2.2.2.2.2.2.2.2.2.2.2.1 bt480.2.2.2.2.2.2.2.2.2.2.2.2.2.2.2.2.2.2.2.2.2.2.2.1 bt480.2.2.2.2.2.2.2.2.2.2.2.2.2.2.2.2.2.2.2.2.2.2.2.2 bt480.2.2.2.2.2.2.2.2.2.2.2.2.2.2.2.2.2.2.2.2.1 bt480.2.2.2.2.2.2.2.2.2.2.2.2.2.2.2.2.2.2.2.2.2.1 bt480.1 bt480.2.1 bt480.2.2.1) else (terracelaw15_DetectGroups.j2 k2 a1 (wrap64 (x6_2 + (mn (ji14) 1000))) x7_2 x8_2 l0 (l0.length : Int) x33_2 (decide (bt480.1 < 0)) bt480.2.2.2.2.1 bt480.2.2.2.2.2.1 bt480.2.2.2.2.2.2.1 bt480.2.2.2.2.2.2.2.1 bt480.2.2.2.2.2.2.2.2.1 bt480.2.2.2.2.2.2.2.2.2.1 bt480.2.2.2.2.2.2.2.2.2.2.1 bt480.2.2.2.2.2.2.2.2.2.2.2.1 bt480.2.2.2.2.2.2.2.2.2.2.2.2.1 bt480.2.2.2.2.2.2.2.2.2.2.2.2.2.1 bt480.2.2.2.2.2.2.2.2.2.2.2.2.2.2.1 bt480.2.2.2.2.2.2.2.2.2.2.2.2.2.2.2.1 bt480.2.2.2.2.2.2.2.2.2.2.2.2.2.2.2.2.1 bt480.2.2.2.2.2.2.2.2.2.2.2.2.2.2.2.2.2.1 bt480.2.2.2.2.2.2.2.2.2.2.2.2.2.2.2.2.2.2.1 bt480.2.2.2.2.2.2.2.2.2.2.2.2.2.2.2.2.2.2.2.1 bt480.2.2.2.2.2.2.2.2.2.2.2.2.2.2.2.2.2.2.2.2.2.2.1 bt480.2.2.2.2.2.2.2.2.2.2.2.2.2.2.2.2.2.2.2.2.2.2.2.1 bt480.2.2.2.2.2.2.2.2.2.2.2.2.2.2.2.2.2.2.2.2.2.2.2.2 bt480.2.2.2.2.2.2.2.2.2.2.2.2.2.2.2.2.2.2.2.2.1 bt480.2.2.2.2.2.2.2.2.2.2.2.2.2.2.2.2.2.2.2.2.2.1 bt480.1 bt480.2.1 bt480.2.2.1)) else (if (bt480.2.2.1 != false) = true then (terracelaw15_DetectGroups.j2 k2 a1 (wrap64 (x6_2 + (mn (ji14) 1000))) x7_2 x8_2 l0 (l0.length : Int) x33_2 true bt480.2.2.2.2.1 bt480.2.2.2.2.2.1 bt480.2.2.2.2.2.2.1 bt480.2.2.2.2.2.2.2.1 bt480.2.2.2.2.2.2.2.2.1 bt480.2.2.2.2.2.2.2.2.2.1 bt480.2.2.2.2.2.2.2.2.2.2.1 bt480.2.2.2.2.2.2.2.2.2.2.2.1 bt480.2.2.2.2.2.2.2.2.2.2.2.2.1 bt480.2.2.2.2.2.2.2.2.2.2.2.2.2.1 bt480.2.2.2.2.2.2.2.2.2.2.2.2.2.2.1 bt480.2.2.2.2.2.2.2.2.2.2.2.2.2.2.2.1 bt480.2.2.2.2.2.2.2.2.2.2.2.2.2.2.2.2.1 bt480.2.2.2.2.2.2.2.2.2.2.2.2.2.2.2.2.2.1 bt480.2.2.2.2.2.2.2.2.2.2.2.2.2.2.2.2.2.2.1 bt480.2.2.2.2.2.2.2.2.2.2.2.2.2.2.2.2.2.2.2.1 bt480.2.2.2.2.2.2.2.2.2.2.2.2.2.2.2.2.2.2.2.2.2.2.1 bt480.2.2.2.2.2.2.2.2.2.2.2.2.2.2.2.2.2.2.2.2.2.2.2.1 bt480.2.2.2.2.2.2.2.2.2.2.2.2.2.2.2.2.2.2.2.2.2.2.2.2 bt480.2.2.2.2.2.2.2.2.2.2.2.2.2.2.2.2.2.2.2.2.1 bt480.2.2.2.2.2.2.2.2.2.2.2.2.2.2.2.2.2.2.2.2.2.1 bt480.1 bt480.2.1 bt480.2.2.1) else (terracelaw15_DetectGroups.j2 k2 a1 (wrap64 (x6_2 + (mn (ji14) 1000))) x7_2 x8_2 l0 (l0.length : Int) x33_2 (decide (bt480.1 < 0)) bt480.2.2.2.2.1 bt480.2.2.2.2.2.1 bt480.2.2.2.2.2.2.1 bt480.2.2.2.2.2.2.2.1 bt480.2.2.2.2.2.2.2.2.1 bt480.2.2.2.2.2.2.2.2.2.1 bt480.2.2.2.2.2.2.2.2.2.2.1 bt480.2.2.2.2.2.2.2.2.2.2.2.1 bt480.2.2.2.2.2.2.2.2.2.2.2.2.1 bt480.2.2.2.2.2.2.2.2.2.2.2.2.2.1 bt480.2.2.2.2.2.2.2.2.2.2.2.2.2.2.1 bt480.2.2.2.2.2.2.2.2.2.2.2.2.2.2.2.1 bt480.2.2.2.2.2.2.2.2.2.2.2.2.2.2.2.2.1 bt480.2.2.2.2.2.2.2.2.2.2.2.2.2.2.2.2.2.1 bt480.2.2.2.2.2.2.2.2.2.2.2.2.2.2.2.2.2.2.1 bt480.2.2.2.2.2.2.2.2.2.2.2.2.2.2.2.2.2.2.2.1 bt480.2.2.2.2.2.2.2.2.2.2.2.2.2.2.2.2.2.2.2.2.2.2.1 bt480.2.2.2.2.2.2.2.2.2.2.2.2.2.2.2.2.2.2.2.2.2.2.2.1 bt480.2.2.2.2.2.2.2.2.2.2.2.2.2.2.2.2.2.2.2.2.2.2.2.2 bt480.2.2.2.2.2.2.2.2.2.2.2.2.2.2.2.2.2.2.2.2.1 bt480.2.2.2.2.2.2.2.2.2.2.2.2.2.2.2.2.2.2.2.2.2.1 bt480.1 bt480.2.1 bt480.2.2.1))))) else (terracelaw15_DetectGroups.j2 k2 a1 (wrap64 (x6_2 + (mn (ji14) 1000))) x7_2 x8_2 l0 (l0.length : Int) x33_2 true bt480.2.2.2.2.1 bt480.2.2.2.2.2.1 bt480.2.2.2.2.2.2.1 bt480.2.2.2.2.2.2.2.1 bt480.2.2.2.2.2.2.2.2.1 bt480.2.2.2.2.2.2.2.2.2.1 bt480.2.2.2.2.2.2.2.2.2.2.1 bt480.2.2.2.2.2.2.2.2.2.2.2.1 bt480.2.2.2.2.2.2.2.2.2.2.2.2.1 bt480.2.2.2.2.2.2.2.2.2.2.2.2.2.1 bt480.2.2.2.2.2.2.2.2.2.2.2.2.2.2.1 bt480.2.2.2.2.2.2.2.2.2.2.2.2.2.2.2.1 bt480.2.2.2.2.2.2.2.2.2.2.2.2.2.2.2.2.1 bt480.2.2.2.2.2.2.2.2.2.2.2.2.2.2.2.2.2.1 bt480.2.2.2.2.2.2.2.2.2.2.2.2.2.2.2.2.2.2.1 bt480.2.2.2.2.2.2.2.2.2.2.2.2.2.2.2.2.2.2.2.1 bt480.2.2.2.2.2.2.2.2.2.2.2.2.2.2.2.2.2.2.2.2.2.2.1 bt480.2.2.2.2.2.2.2.2.2.2.2.2.2.2.2.2.2.2.2.2.2.2.2.1 bt480.2.2.2.2.2.2.2.2.2.2.2.2.2.2.2.2.2.2.2.2.2.2.2.2 bt480.2.2.2.2.2.2.2.2.2.2.2.2.2.2.2.2.2.2.2.2.1 bt480.2.2.2.2.2.2.2.2.2.2.2.2.2.2.2.2.2.2.2.2.2.1 bt480.1 bt480.2.1 bt480.2.2.1))) = some r := by first | (rw [hji14] at H; exact H) | (simp only [hji14] at H ⊢; exact H)
                  have hji14_ : (if ((rd_T29 l0 x33_2).f3) < 0 then 0 else ((rd_T29 l0 x33_2).f3)) = ji14 := hji14
                  obtain ⟨ji15, hji15⟩ : ∃ j_ : Int, (mn (ji14) 1000) = j_ := ⟨_, rfl⟩
                  replace H : ((detect_Detect_On.f k2 x470000_2 x470001_2 x470002_2 x470003_2 x470004_2 x470005_2 x470006_2 x470007_2 x470008_2 x470009_2 x470010_2 x470011_2 x470012_2 x470013_2 x470014_2 x470015_2 x471000_2 x471001_2 x470017_2 x470018_2 x470019_2 (Go.bits .and .i64 ((rd_T29 l0 x33_2).f1) 7) ((rd_T29 l0 x33_2).f2) (wrap64 (x6_2 + (ji15))) a1).bind fun bt480 => (if bt480.2.2.2.1 = 0 then (if bt480.1 > 0 then (if x8_2 = true then (if (bt480.2.1 != (decide ((wrap64 ((wrap64 (x6_2 + (ji15))) - x7_2)) > a1))) = true then (terracelaw15_DetectGroups.j2 k2 a1 (wrap64 (x6_2 + (ji15))) x7_2 x8_2 l0 (l0.length : Int) x33_2 true bt480.2.2.2.2.1 bt480.2.2.2.2.2.1 bt480.2.2.2.2.2.2.1 bt480.2.2.2.2.2.2.2.1 bt480.2.2.2.2.2.2.2.2.1 bt480.2.2.2.2.2.2.2.2.2.1 bt480.2.2.2.2.2.2.2.2.2.2.1 bt480.2.2.2.2.2.2.2.2.2.2.2.1 bt480.2.2.2.2.2.2.2.2.2.2.2.2.1 bt480.2.2.2.2.2.2.2.2.2.2.2.2.2.1 bt480.2.2.2.2.2.2.2.2.2.2.2.2.2.2.1 bt480.2.2.2.2.2.2.2.2.2.2.2.2.2.2.2.1 bt480.2.2.2.2.2.2.2.2.2.2.2.2.2.2.2.2.1 bt480.2.2.2.2.2.2.2.2.2.2.2.2.2.2.2.2.2.1 bt480.2.2.2.2.2.2.2.2.2.2.2.2.2.2.2.2.2.2.1 bt480.2.2.2.2.2.2.2.2.2.2.2.2.2.2.2.2.2.2.2.1 bt480.2.2.2.2.2.2.2.2.2.2.2.2.2.2.2.2.2.2.2.2.2.2.1 bt480.2.2.2.2.2.2.2.2.2.2.2.2.2.2.2.2.2.2.2.2.2.2.2.1 bt480.2.2.2.2.2.2.2.2.2.2.2.2.2.2.2.2.2.2.2.2.2.2.2.2 bt480.2.2.2.2.2.2.2.2.2.2.2.2.2.2.2.2.2.2.2.2.1 bt480.2.2.2.2.2.2.2.2.2.2.2.2.2.2.2.2.2.2.2.2.2.1 bt480.1 bt480.2.1 bt480.2.2.1) else (if bt480.2.1 = true then (if (bt480.2.2.1 != (!x8_2)) = true then (terracelaw15_DetectGroups.j2 k2 a1 (wrap64 (x6_2 + (ji15))) x7_2 x8_2 l0 (l0.length : Int) x33_2 true bt480.2.2.2.2.1 bt480.2.2.2.2.2.1 bt480.2.2.2.2.2.2.1 bt480.2.2.2.2.2.2.2.1 bt480.2.2.2.2.2.2.2.2.1 bt480.2.2.2.2.2.2.2.2.2.1 bt480.2.2.2.2.2.2.2.2.2.2.1 bt480.2.2.2.2.2.2.2.2.2.2.2.1 bt480.2.2.2.2.2.2.2.2.2.2.2.2.1 bt480.2.2.2.2.2.2.2.2.2.2.2.2.2.1 bt480.2.2.2.2.2.2.2.2.2.2.2.2.2.2.1 bt480.2.2.2.2.2.2.2.2.2.2.2.2.2.2.2.1 bt480.2.2.2.2.2.2.2.2.2.2.2.2.2.2.2.2.1 bt480.2.2.2.2.2.2.2.2.2.2.2.2.2.2.2.2.2.1 bt480.2.2.2.2.2.2.2.2.2.2.2.2.2.2.2.2.2.2.1 bt480.2.2.2.2.2.2.2.2.2.2.2.2.2.2.2.2.2.2.2.1 bt480.2.2.2.2.2.2.2.2.2.2.2.2.2.2.2.2.2.2.2.2.2.2.1 bt480.2.2.2.2.2.2.2.2.2.2.2.2.2.2.2.2.2.2.2.2.2.2.2.1 bt480.2.2.2.2.2.2.2.2.2.2.2.2.2.2.2.2.2.2.2.2.2.2.2.2 bt480.2.2.2.2.2.2.2.2.2.2.2.2.2.2.2.2.2.2.2.2.1 bt480.2.2.2.2.2.2.2.2.2.2.2.2.2.2.2.2.2.2.2.2.2.1 bt480.1 bt480.2.1 bt480.2.2.1) else (terracelaw15_DetectGroups.j2 k2 a1 (wrap64 (x6_2 + (ji15))) x7_2 x8_2 l0 (l0.length : Int) x33_2 (decide (bt480.1 < 0)) bt480.2.2.2.2.1 bt480.2.2.2.2.2.1 bt480.2.2.2.2.2.2.1 bt480.2.2.2.2.2.2.2.1 bt480.2.2.2.2.2.2.2.2.1 bt480.2.2.2.2.2.2.2.2.2.1 bt480.2.2.2.2.2.2.2.2.2.2.1 bt480.2.2.2.2.2.2.2.2.2.2.2.1 bt480.2.2.2.2.2.2.2.2.2.2.2.2.1 bt480.2.2.2.2.2.2.2.2.2.2.2.2.2.1 bt480.2.2.2.2.2.2.2.2.2.2.2.2.2.2.1 bt480.2.2.2.2.2.2.2.2.2.2.2.2.2.2.2.1 bt480.2.2.2.2.2.2.2.2.2.2.2.2.2.2.2.2.1 bt480.2.2.2.2.2.2.2.2.2.2.2.2.2.2.2.2.2.1 bt480.2.2.2.2.2.2.2.2.2.2.2.2.2.2.2.2.2.2.1 bt480.2.2.2.2.2.2.2.2.2.2.2.2.2.2.2.2.2.2.2.1 bt480.2.2.2.2.2.2.2.2.2.2.2.2.2.2.2.2.2.2.2.2.2.2.1 bt480.2.2.2.2.2.2.2.2.2.2.2.2.2.2.2.2.2.2.2.2.2.2.2.1 bt480.2.2.2.2.2.2.2.2.2.2.2.2.2.2.2.2.2.2.2.2.2.2.2.2 bt480.2.2.2.2.2.2.2.2.2.2.2.2.2.2.2.2.2.2.2.2.1 bt480.2.2.2.2.2.2.2.2.2.2.2.2.2.2.2.2.2.2.2.2.2.1 bt480.1 bt480.2.1 bt480.2.2.1)) else (if (bt480.2.2.1 != false) = true then (terracelaw15_DetectGroups.j2 k2 a1 (wrap64 (x6_2 + (ji15))) x7_2 x8_2 l0 (l0.length : Int) x33_2 true bt480.2.2.2.2.1 bt480.2.2.2.2.2.1 bt480.2.2.2.2.2.2.1 bt480.2.2.2.2.2.2.2.1 bt480.2.2.2.2.2.2.2.2.1 bt480.2.2.2.2.2.2.2.2.2.1 bt480.2.2.2.2.2.2.2.2.2.2.1 bt480.2.2.2.2.2.2.2.2.2.2.2.1 bt480.2.2.2.2.2.2.2.2.2.2.2.2.1 bt480.2.2.2.2.2.2.2.2.2.2.2.2.2.1 bt480.2.2.2.2.2.2.2.2.2.2.2.2.2.2.1 bt480.2.2.2.2.2.2.2.2.2.2.2.2.2.2.2.1 bt480.2.2.2.2.2.2.2.2.2.2.2.2.2.2.2.2.1 bt480.2.2.2.2.2.2.2.2.2.2.2.2.2.2.2.2.2.1 bt480.2.2.2.2.2.2.2.2.2.2.2.2.2.2.2.2.2.2.1 bt480.2.2.2.2.2.2.2.2.2.2.2.2.2.2.2.2.2.2.2.1 bt480.2.2.2.2.2.2.2.2.2.2.2.2.2.2.2.2.2.2.2.2.2.2.1 bt480.2.2.2.2.2.2.2.2.2.2.2.2.2.2.2.2.2.2.2.2.2.2.2.1 bt480.2.2.2.2.2.2.2.2.2.2.2.2.2.2.2.2.2.2.2.2.2.2.2.2 bt480.2.2.2.2.2.2.2.2.2.2.2.2.2.2.2.2.2.2.2.2.1 bt480.2.2.2.2.2.2.2.2.2.2.2.2.2.2.2.2.2.2.2.2.2.1 bt480.1 bt480.2.1 bt480.2.2.1) else (terracelaw15_DetectGroups.j2 k2 a1 (wrap64 (x6_2 + (ji15))) x7_2 x8_2 l0 (l0.length : Int) x33_2 (decide (bt480.1 < 0)) bt480.2.2.2.2.1 bt480.2.2.2.2.2.1 bt480.2.2.2.2.2.2.1 bt480.2.2.2.2.2.2.2.1 bt480.2.2.2.2.2.2.2.2.1 bt480.2.2.2.2.2.2.2.2.2.1 bt480.2.2.2.2.2.2.2.2.2.2.1 bt480.2.2.2.2.2.2.2.2.2.2.2.1 bt480.2.2.2.2.2.2.2.2.2.2.2.2.1 bt480.2.2.2.2.2.2.2.2.2.2.2.2.2.1 bt480.2.2.2.2.2.2.2.2.2.2.2.2.2.2.1 bt480.2.2.2.2.2.2.2.2.2.2.2.2.2.2.2.1 bt480.2.2.2.2.2.2.2.2.2.2.2.2.2.2.2.2.1 bt480.2.2.2.2.2.2.2.2.2.2.2.2.2.2.2.2.2.1 bt480.2.2.2.2.2.2.2.2.2.2.2.2.2.2.2.2.2.2.1 bt480.2.2.2.2.2.2.2.2.2.2.2.2.2.2.2.2.2.2.2.1 bt480.2.2.2.2.2.2.2.2.2.2.2.2.2.2.2.2.2.2.2.2.2.2.1 bt480.2.2.2.2.2.2.2.2.2.2.2.2.2.2.2.2.2.2.2.2.2.2.2.1 bt480.2.2.2.2.2.2.2.2.2.2.2.2.2.2.2.2.2.2.2.2.2.2.2.2 bt480.2.2.2.2.2.2.2.2.2.2.2.2.2.2.2.2.2.2.2.2.1 bt480.2.2.2.2.2.2.2.2.2.2.2.2.2.2.2.2.2.2.2.2.2.1 bt480.1 bt480.2.1 bt480.2.2.1)))) else (if (bt480.2.1 != true) = true then (terracelaw15_DetectGroups.j2 k2 a1 (wrap64 (x6_2 + (ji15))) x7_2 x8_2 l0 (l0.length : Int) x33_2 true bt480.2.2.2.2.1 bt480.2.2.2.2.2.1 bt480.2.2.2.2.2.2.1 bt480.2.2.2.2.2.2.2.1 bt480.2.2.2.2.2.2.2.2.1 bt480.2.2.2.2.2.2.2.2.2.1 bt480.2.2.2.2.2.2.2.2.2.2.1 bt480.2.2.2.2.2.2.2.2.2.2.2.1 bt480.2.2.2.2.2.2.2.2.2.2.2.2.1 bt480.2.2.2.2.2.2.2.2.2.2.2.2.2.1 bt480.2.2.2.2.2.2.2.2.2.2.2.2.2.2.1 bt480.2.2.2.2.2.2.2.2.2.2.2.2.2.2.2.1 bt480.2.2.2.2.2.2.2.2.2.2.2.2.2.2.2.2.1 bt480.2.2.2.2.2.2.2.2.2.2.2.2.2.2.2.2.2.1 bt480.2.2.2.2.2.2.2.2.2.2.2.2.2.2.2.2.2.2.1 bt480.2.2.2.2.2.2.2.2.2.2.2.2.2.2.2.2.2.2.2.1 bt480.2.2.2.2.2.2.2.2.2.2.2.2.2.2.2.2.2.2.2.2.2.2.1 bt480.2.2.2.2.2.2.2.2.2.2.2.2.2.2.2.2.2.2.2.2.2.2.2.1 bt480.2.2.2.2.2.2.2.2.2.2.2.2.2.2.2.2.2.2.2.2.2.2.2.2 bt480.2.2.2.2.2.2.2.2.2.2.2.2.2.2.2.2.2.2.2.2.1 bt480.2.2.2.2.2.2.2.2.2.2.2.2.2.2.2.2.2.2.2.2.2.1 bt480.1 bt480.2.1 bt480.2.2.1) else (if bt480.2.1 = true then (if (bt480.2.2.1 != (!x8_2)) = true then (terracelaw15_DetectGroups.j2 k2 a1 (wrap64 (x6_2 + (ji15))) x7_2 x8_2 l0 (l0.length : Int) x33_2 true bt480.2.2.2.2.1 bt480.2.2.2.2.2.1 bt480.2.2.2.2.2.2.1 bt480.2.2.2.2.2.2.2.1 bt480.2.2.2.2.2.2.2.2.1 bt480.2.2.2.2.2.2.2.2.2.1 bt480.2.2.2.2.2.2.2.2.2.2.1 bt480.2.2.2.2.2.2.2.2.2.2.2.1 bt480.2.2.2.2.2.2.2.2.2.2.2.2.1 bt480.2.2.2.2.2.2.2.2.2.2.2.2.2.1 bt480.2.2.2.2.2.2.2.2.2.2.2.2.2.2.1 bt480.2.2.2.2.2.2.2.2.2.2.2.2.2.2.2.1 bt480.2.2.2.2.2.2.2.2.2.2.2.2.2.2.2.2.1 bt480.2.2.2.2.2.2.2.2.2.2.2.2.2.2.2.2.2.1 bt480.2.2.2.2.2.2.2.2.2.2.2.2.2.2.2.2.2.2.1 bt480.2.2.2.2.2.2.2.2.2.2.2.2.2.2.2.2.2.2.2.1 bt480.2.2.2.2.2.2.2.2.2.2.2.2.2.2.2.2.2.2.2.2.2.2.1 bt480.2.2.2.2.2.2.2.2.2.2.2.2.2.2.2.2.2.2.2.2.2.2.2.1 bt480.2.2.2.2.2.2.2.2.2.2.2.2.2.2.2.2.2.2.2.2.2.2.2.2 bt480.2.2.2.2.2.2.2.2.2.2.2.2.2.2.2.2.2.2.2.2.1 bt480.2.2.2.2.2.2.2.2.2.2.2.2.2.2.2.2.2.2.2.2.2.1 bt480.1 bt480.2.1 bt480.2.2.1) else (terracelaw15_DetectGroups.j2 k2 a1 (wrap64 (x6_2 + (ji15))) x7_2 x8_2 l0 (l0.length : Int) x33_2 (decide (bt480.1 < 0)) bt480.2.2.2.2.1 bt480.2.2.2.2.2.1 bt480.2.2.2.2.2.2.1 bt480.2.2.2.2.2.2.2.1 bt480.2.2.2.2.2.2.2.2.1 bt480.2.2.2.2.2.2.2.2.2.1 bt480.2.2.2.2.2.2.2.2.2.2.1 bt480.2.2.2.2.2.2.2.2.2.2.2.1 bt480.2.2.2.2.2.2.2.2.2.2.2.2.1 bt480.2.2.2.2.2.2.2.2.2.2.2.2.2.1 bt480.2.2.2.2.2.2.2.2.2.2.2.2.2.2.1 bt480.2.2.2.2.2.2.2.2.2.2.2.2.2.2.2.1 bt480.2.2.2.2.2.2.2.2.2.2.2.2.2.2.2.2.1 bt480.2.2.2.2.2.2.2.2.2.2.2.2.2.2.2.2.2.1 bt480.2.2.2.2.2.2.2.2.2.2.2.2.2.2.2.2.2.2.1 bt480.2.2.2.2.2.2.2.2.2.2.2.2.2.2.2.2.2.2.2.1 bt480.2.2.2.2.2.2.2.2.2.2.2.2.2.2.2.2.2.2.2.2.2.2.1 bt480.2.2.2.2.2.2.2.2.2.2.2.2.2.2.2.2.2.2.2.2.2.2.2.1 bt480.2.2.2.2.2.2.2.2.2.2.2.2.2.2.2.2.2.2.2.2.2.2.2.2 bt480.2.2.2.2.2.2.2.2.2.2.2.2.2.2.2.2.2.2.2.2.1 bt480.2.2.2.2.2.2.2.2.2.2.2.2.2.2.2.2.2.2.2.2.2.1 bt480.1 bt480.2.1 bt480.2.2.1)) else (if (bt480.2.2.1 != false) = true then (terracelaw15_DetectGroups.j2 k2 a1 (wrap64 (x6_2 + (ji15))) x7_2 x8_2 l0 (l0.length : Int) x33_2 true bt480.2.2.2.2.1 bt480.2.2.2.2.2.1 bt480.2.2.2.2.2.2.1 bt480.2.2.2.2.2.2.2.1 bt480.2.2.2.2.2.2.2.2.1 bt480.2.2.2.2.2.2.2.2.2.1 bt480.2.2.2.2.2.2.2.2.2.2.1 bt480.2.2.2.2.2.2.2.2.2.2.2.1 bt480.2.2.2.2.2.2.2.2.2.2.2.2.1 bt480.2.2.2.2.2.2.2.2.2.2.2.2.2.1 bt480.2.2.2.2.2.2.2.2.2.2.2.2.2.2.1 bt480.2.2.2.2.2.2.2.2.2.2.2.2.2.2.2.1 bt480.2.2.2.2.2.2.2.2.2.2.2.2.2.2.2.2.1 bt480.2.2.2.2.2.2.2.2.2.2.2.2.2.2.2.2.2.1 bt480.2.2.2.2.2.2.2.2.2.2.2.2.2.2.2.2.2.2.1 bt480.2.2.2.2.2.2.2.2.2.2.2.2.2.2.2.2.2.2.2.1 bt480.2.2.2.2.2.2.2.2.2.2.2.2.2.2.2.2.2.2.2.2.2.2.1 bt480.2.2.2.2.2.2.2.2.2.2.2.2.2.2.2.2.2.2.2.2.2.2.2.1 bt480.2.2.2.2.2.2.2.2.2.2.2.2.2.2.2.2.2.2.2.2.2.2.2.2 bt480.2.2.2.2.2.2.2.2.2.2.2.2.2.2.2.2.2.2.2.2.1 bt480.2.2.2.2.2.2.2.2.2.2.2.2.2.2.2.2.2.2.2.2.2.1 bt480.1 bt480.2.1 bt480.2.2.1) else (terracelaw15_DetectGroups.j2 k2 a1 (wrap64 (x6_2 + (ji15))) x7_2 x8_2 l0 (l0.length : Int) x33_2 (decide (bt480.1 < 0)) bt480.2.2.2.2.1 bt480.2.2.2.2.2.1 bt480.2.2.2.2.2.2.1 bt480.2.2.2.2.2.2.2.1 bt480.2.2.2.2.2.2.2.2.1 bt480.2.2.2.2.2.2.2.2.2.1 bt480.2.2.2.2.2.2.2.2.2.2.1 bt480.2.2.2.2.2.2.2.2.2.2.2.1 bt480.2.2.2.2.2.2.2.2.2.2.2.2.1 bt480.2.2.2.2.2.2.2.2.2.2.2.2.2.1 bt480.2.2.2.2.2.2.2.2.2.2.2.2.2.2.1 bt480.2.2.2.2.2.2.2.2.2.2.2.2.2.2.2.1 bt480.2.2.2.2.2.2.2.2.2.2.2.2.2.2.2.2.1 bt480.2.2.2.2.2.2.2.2.2.2.2.2.2.2.2.2.2.1 bt480.2.2.2.2.2.2.2.2.2.2.2.2.2.2.2.2.2.2.1 bt480.2.2.2.2.2.2.2.2.2.2.2.2.2.2.2.2.2.2.2.1 bt480.2.2.2.2.2.2.2.2.2.2.2.2.2.2.2.2.2.2.2.2.2.2.1 bt480.2.2.2.2.2.2.2.2.2.2.2.2.2.2.2.2.2.2.2.2.2.2.2.1 bt480.2.2.2.2.2.2.2.2.2.2.2.2.2.2.2.2.2.2.2.2.2.2.2.2 bt480.2.2.2.2.2.2.2.2.2.2.2.2.2.2.2.2.2.2.2.2.1 bt480.2.2.2.2.2.2.2.2.2.2.2.2.2.2.2.2.2.2.2.2.2.1 bt480.1 bt480.2.1 bt480.2.2.1))))) else (if (bt480.2.1 != false) = true then (terracelaw15_DetectGroups.j2 k2 a1 (wrap64 (x6_2 + (ji15))) x7_2 x8_2 l0 (l0.length : Int) x33_2 true bt480.2.2.2.2.1 bt480.2.2.2.2.2.1 bt480.2.2.2.2.2.2.1 bt480.2.2.2.2.2.2.2.1 bt480.2.2.2.2.2.2.2.2.1 bt480.2.2.2.2.2.2.2.2.2.1 bt480.2.2.2.2.2.2.2.2.2.2.1 bt480.2.2.2.2.2.2.2.2.2.2.2.1 bt480.2.2.2.2.2.2.2.2.2.2.2.2.1 bt480.2.2.2.2.2.2.2.2.2.2.2.2.2.1 bt480.2.2.2.2.2.2.2.2.2.2.2.2.2.2.1 bt480.2.2.2.2.2.2.2.2.2.2.2.2.2.2.2.1 bt480.2.2.2.2.2.2.2.2.2.2.2.2.2.2.2.2.1 bt480.2.2.2.2.2.2.2.2.2.2.2.2.2.2.2.2.2.1 bt480.2.2.2.2.2.2.2.2.2.2.2.2.2.2.2.2.2.2.1 bt480.2.2.2.2.2.2.2.2.2.2.2.2.2.2.2.2.2.2.2.1 bt480.2.2.2.2.2.2.2.2.2.2.2.2.2.2.2.2.2.2.2.2.2.2.1 bt480.2.2.2.2.2.2.2.2.2.2.2.2.2.2.2.2.2.2.2.2.2.2.2.1 bt480.2.2.2.2.2.2.2.2.2.2.2.2.2.2.2.2.2.2.2.2.2.2.2.2 bt480.2.2.2.2.2.2.2.2.2.2.2.2.2.2.2.2.2.2.2.2.1 bt480.2.2.2.2.2.2.2.2.2.2.2.2.2.2.2.2.2.2.2.2.2.1 bt480.1 bt480.2.1 bt480.2.2.1) else (if bt480.2.1 = true then (if (bt480.2.2.1 != (!x8_2)) = true then (terracelaw15_DetectGroups.j2 k2 a1 (wrap64 (x6_2 + (ji15))) x7_2 x8_2 l0 (l0.length : Int) x33_2 true bt480.2.2.2.2.1 bt480.2.2.2.2.2.1 bt480.2.2.2.2.2.2.1 bt480.2.2.2.2.2.2.2.1 bt480.2.2.2.2.2.2.2.2.1 bt480.2.2.2.2.2.2.2.2.2.1 bt480.2.2.2.2.2.2.2.2.2.2.1 bt480.2.2.2.2.2.2.2.2.2.2.2.1 bt480.2.2.2.2.2.2.2.2.2.2.2.2.1 bt480.2.2.2.2.2.2.2.2.2.2.2.2.2.1 bt480.2.2.2.2.2.2.2.2.2.2.2.2.2.2.1 bt480.2.2.2.2.2.2.2.2.2.2.2.2.2.2.2.1 bt480.2.2.2.2.2.2.2.2.2.2.2.2.2.2.2.2.1 bt480.2.2.2.2.2.2.2.2.2.2.2.2.2.2.2.2.2.1 bt480.2.2.2.2.2.2.2.2.2.2.2.2.2.2.2.2.2.2.1 bt480.2.2.2.2.2.2.2.2.2.2.2.2.2.2.2.2.2.2.2.1 bt480.2.2.2.2.2.2.2.2.2.2.2.2.2.2.2.2.2.2.2.2.2.2.1 bt480.2.2.2.2.2.2.2.2.2.2.2.2.2.2.2.2.2.2.2.2.2.2.2.1 bt480.2.2.2.2.2.2.2.2.2.2.2.2.2.2.2.2.2.2.2.2.2.2.2.2 bt480.2.2.2.2.2.2.2.2.2.2.2.2.2.2.2.2.2.2.2.2.1 bt480.2.2.2.2.2.2.2.2.2.2.2.2.2.2.2.2.2.2.2.2.2.1 bt480.1 bt480.2.1 bt480.2.2.1) else (terracelaw15_DetectGroups.j2 k2 a1 (wrap64 (x6_2 + (ji15))) x7_2 x8_2 l0 (l0.length : Int) x33_2 (decide (bt480.1 < 0)) bt480.2.2.2.2.1 bt480.2.2.2.2.2.1 bt480.2.2.2.2.2.2.1 bt480.2.2.2.2.2.2.2.1 bt480.2.2.2.2.2.2.2.2.1 bt480.2.2.2.2.2.2.2.2.2.1 bt480.2.2.2.2.2.2.2.2.2.2.1 bt480.2.2.2.2.2.2.2.2.2.2.2.1 bt480.2.2.2.2.2.2.2.2.2.2.2.2.1 bt480.2.2.2.2.2.2.2.2.2.2.2.2.2.1 bt480.2.2.2.2.2.2.2.2.2.2.2.2.2.2.1 bt480.2.2.2.2.2.2.2.2.2.2.2.2.2.2.2.1 bt480.2.2.2.2.2.2.2.2.2.2.2.2.2.2.2.2.1 bt480.2.2.2.2.2.2.2.2.2.2.2.2.2.2.2.2.2.1 bt480.2.2.2.2.2.2.2.2.2.2.2.2.2.2.2.2.2.2.1 bt480.2.2.2.2.2.2.2.2.2.2.2.2.2.2.2.2.2.2.2.1 bt480.2.2.2.2.2.2.2.2.2.2.2.2.2.2.2.2.2.2.2.2.2.2.1 bt480.2.2.2.2.2.2.2.2.2.2.2.2.2.2.2.2.2.2.2.2.2.2.2.1 bt480.2.2.2.2.2.2.2.2.2.2.2.2.2.2.2.2.2.2.2.2.2.2.2.2 bt480.2.2.2.2.2.2.2.2.2.2.2.2.2.2.2.2.2.2.2.2.1 bt480.2.2.2.2.2.2.2.2.2.2.2.2.2.2.2.2.2.2.2.2.2.1 bt480.1 bt480.2.1 bt480.2.2.1)) else (if (bt480.2.2.1 != false) = true then (terracelaw15_DetectGroups.j2 k2 a1 (wrap64 (x6_2 + (ji15))) x7_2 x8_2 l0 (l0.length : Int) x33_2 true bt480.2.2.2.2.1 bt480.2.2.2.2.2.1 bt480.2.2.2.2.2.2.1 bt480.2.2.2.2.2.2.2.1 bt480.2.2.2.2.2.2.2.2.1 bt480.2.2.2.2.2.2.2.2.2.1 bt480.2.2.2.2.2.2.2.2.2.2.1 bt480.2.2.2.2.2.2.2.2.2.2.2.1 bt480.2.2.2.2.2.2.2.2.2.2.2.2.1 bt480.2.2.2.2.2.2.2.2.2.2.2.2.2.1 bt480.2.2.2.2.2.2.2.2.2.2.2.2.2.2.1 bt480.2.2.2.2.2.2.2.2.2.2.2.2.2.2.2.1 bt480.2.2.2.2.2.2.2.2.2.2.2.2.2.2.2.2.1 bt480.2.2.2.2.2.2.2.2.2.2.2.2.2.2.2.2.2.1 bt480.2.2.2.2.2.2.2.2.2.2.2.2.2.2.2.2.2.2.1 bt480.2.2.2.2.2.2.2.2.2.2.2.2.2.2.2.2.2.2.2.1 bt480.2.2.2.2.2.2.2.2.2.2.2.2.2.2.2.2.2.2.2.2.2.2.1 bt480.2.2.2.2.2.2.2.2.2.2.2.2.2.2.2.2.2.2.2.2.2.2.2.1 bt480.2.2.2.2.2.2.2.2.2.2.2.2.2.2.2.2.2.2.2.2.2.2.2.2 bt480.2.2.2.2.2.2.2.2.2.2.2.2.2.2.2.2.2.2.2.2.1 bt480.2.2.2.2.2.2.2.2.2.2.2.2.2.2.2.2.2.2.2.2.2.1 bt480.1 bt480.2.1 bt480.2.2.1) else (terracelaw15_DetectGroups.j2 k2 a1 (wrap64 (x6_2 + (ji15))) x7_2 x8_2 l0 (l0.length : Int) x33_2 (decide (bt480.1 < 0)) bt480.2.2.2.2.1 bt480.2.2.2.2.2.1 bt480.2.2.2.2.2.2.1 bt480.2.2.2.2.2.2.2.1 bt480.2.2.2.2.2.2.2.2.1 bt480.2.2.2.2.2.2.2.2.2.1 bt480.2.2.2.2.2.2.2.2.2.2.1 bt480.2.2.2.2.2.2.2.2.2.2.2.1 bt480.2.2.2.2.2.2.2.2.2.2.2.2.1 bt480.2.2.2.2.2.2.2.2.2.2.2.2.2.1 bt480.2.2.2.2.2.2.2.2.2.2.2.2.2.2.1 bt480.2.2.2.2.2.2.2.2.2.2.2.2.2.2.2.1 bt480.2.2.2.2.2.2.2.2.2.2.2.2.2.2.2.2.1 bt480.2.2.2.2.2.2.2.2.2.2.2.2.2.2.2.2.2.1 bt480.2.2.2.2.2.2.2.2.2.2.2.2.2.2.2.2.2.2.1 bt480.2.2.2.2.2.2.2.2.2.2.2.2.2.2.2.2.2.2.2.1 bt480.2.2.2.2.2.2.2.2.2.2.2.2.2.2.2.2.2.2.2.2.2.2.1 bt480.2.2.2.2.2.2.2.2.2.2.2.2.2.2.2.2.2.2.2.2.2.2.2.1 bt480.2.2.2.2.2.2.2.2.2.2.2.2.2.2.2.2.2.2.2.2.2.2.2.2 bt480.2.2.2.2.2.2.2.2.2.2.2.2.2.2.2.2.2.2.2.2.1 bt480.2.2.2.2.2.2.2.2.2.2.2.2.2.2.2.2.2.2.2.2.2.1 bt480.1 bt480.2.1 bt480.2.2.1))))) else (terracelaw15_DetectGroups.j2 k2 a1 (wrap64 (x6_2 + (ji15))) x7_2 x8_2 l0 (l0.length : Int) x33_2 true bt480.2.2.2.2.1 bt480.2.2.2.2.2.1 bt480.2.2.2.2.2.2.1 bt480.2.2.2.2.2.2.2.1 bt480.2.2.2.2.2.2.2.2.1 bt480.2.2.2.2.2.2.2.2.2.1 bt480.2.2.2.2.2.2.2.2.2.2.1 bt480.2.2.2.2.2.2.2.2.2.2.2.1 bt480.2.2.2.2.2.2.2.2.2.2.2.2.1 bt480.2.2.2.2.2.2.2.2.2.2.2.2.2.1 bt480.2.2.2.2.2.2.2.2.2.2.2.2.2.2.1 bt480.2.2.2.2.2.2.2.2.2.2.2.2.2.2.2.1 bt480.2.2.2.2.2.2.2.2.2.2.2.2.2.2.2.2.1 bt480.2.2.2.2.2.2.2.2.2.2.2.2.2.2.2.2.2.1 bt480.2.2.2.2.2.2.2.2.2.2.2.2.2.2.2.2.2.2.1 bt480.2.2.2.2.2.2.2.2.2.2.2.2.2.2.2.2.2.2.2.1 bt480.2.2.2.2.2.2.2.2.2.2.2.2.2.2.2.2.2.2.2.2.2.2.1 bt480.2.2.2.2.2.2.2.2.2.2.2.2.2.2.2.2.2.2.2.2.2.2.2.1 bt480.2.2.2.2.2.2.2.2.2.2.2.2.2.2.2.2.2.2.2.2.2.2.2.2 bt480.2.2.2.2.2.2.2.2.2.2.2.2.2.2.2.2.2.2.2.2.1 bt480.2.2.2.2.2.2.2.2.2.2.2.2.2.2.2.2.2.2.2.2.2.1 bt480.1 bt480.2.1 bt480.2.2.1))) = some r := by first | (rw [hji15] at H; exact H) | (simp only [hji15] at H ⊢; exact H)
                  have hji15_ : (if 1000 < (ji14) then 1000 else (ji14)) = ji15 := hji15
                  replace H := Option.bind_eq_some_iff.mp H
                  obtain ⟨⟨t480, t481, t482, t483, t484, t485, t486, t487, t488, t489, t490, t491, t492, t493, t494, t495, t496, t497, t498, t499, t500, t501, t504, t505, t506⟩, A160, H⟩ := H
                  replace H : (if t483 = 0 then (if t480 > 0 then (if x8_2 = true then (if (t481 != (decide ((wrap64 ((wrap64 (x6_2 + (ji15))) - x7_2)) > a1))) = true then (terracelaw15_DetectGroups.j2 k2 a1 (wrap64 (x6_2 + (ji15))) x7_2 x8_2 l0 (l0.length : Int) x33_2 true t484 t485 t486 t487 t488 t489 t490 t491 t492 t493 t494 t495 t496 t497 t498 t499 t504 t505 t506 t500 t501 t480 t481 t482) else (if t481 = true then (if (t482 != (!x8_2)) = true then (terracelaw15_DetectGroups.j2 k2 a1 (wrap64 (x6_2 + (ji15))) x7_2 x8_2 l0 (l0.length : Int) x33_2 true t484 t485 t486 t487 t488 t489 t490 t491 t492 t493 t494 t495 t496 t497 t498 t499 t504 t505 t506 t500 t501 t480 t481 t482) else (terracelaw15_DetectGroups.j2 k2 a1 (wrap64 (x6_2 + (ji15))) x7_2 x8_2 l0 (l0.length : Int) x33_2 (decide (t480 < 0)) t484 t485 t486 t487 t488 t489 t490 t491 t492 t493 t494 t495 t496 t497 t498 t499 t504 t505 t506 t500 t501 t480 t481 t482)) else (if (t482 != false) = true then (terracelaw15_DetectGroups.j2 k2 a1 (wrap64 (x6_2 + (ji15))) x7_2 x8_2 l0 (l0.length : Int) x33_2 true t484 t485 t486 t487 t488 t489 t490 t491 t492 t493 t494 t495 t496 t497 t498 t499 t504 t505 t506 t500 t501 t480 t481 t482) else (terracelaw15_DetectGroups.j2 k2 a1 (wrap64 (x6_2 + (ji15))) x7_2 x8_2 l0 (l0.length : Int) x33_2 (decide (t480 < 0)) t484 t485 t486 t487 t488 t489 t490 t491 t492 t493 t494 t495 t496 t497 t498 t499 t504 t505 t506 t500 t501 t480 t481 t482)))) else (if (t481 != true) = true then (terracelaw15_DetectGroups.j2 k2 a1 (wrap64 (x6_2 + (ji15))) x7_2 x8_2 l0 (l0.length : Int) x33_2 true t484 t485 t486 t487 t488 t489 t490 t491 t492 t493 t494 t495 t496 t497 t498 t499 t504 t505 t506 t500 t501 t480 t481 t482) else (if t481 = true then (if (t482 != (!x8_2)) = true then (terracelaw15_DetectGroups.j2 k2 a1 (wrap64 (x6_2 + (ji15))) x7_2 x8_2 l0 (l0.length : Int) x33_2 true t484 t485 t486 t487 t488 t489 t490 t491 t492 t493 t494 t495 t496 t497 t498 t499 t504 t505 t506 t500 t501 t480 t481 t482) else (terracelaw15_DetectGroups.j2 k2 a1 (wrap64 (x6_2 + (ji15))) x7_2 x8_2 l0 (l0.length : Int) x33_2 (decide (t480 < 0)) t484 t485 t486 t487 t488 t489 t490 t491 t492 t493 t494 t495 t496 t497 t498 t499 t504 t505 t506 t500 t501 t480 t481 t482)) else (if (t482 != false) = true then (terracelaw15_DetectGroups.j2 k2 a1 (wrap64 (x6_2 + (ji15))) x7_2 x8_2 l0 (l0.length : Int) x33_2 true t484 t485 t486 t487 t488 t489 t490 t491 t492 t493 t494 t495 t496 t497 t498 t499 t504 t505 t506 t500 t501 t480 t481 t482) else (terracelaw15_DetectGroups.j2 k2 a1 (wrap64 (x6_2 + (ji15))) x7_2 x8_2 l0 (l0.length : Int) x33_2 (decide (t480 < 0)) t484 t485 t486 t487 t488 t489 t490 t491 t492 t493 t494 t495 t496 t497 t498 t499 t504 t505 t506 t500 t501 t480 t481 t482))))) else (if (t481 != false) = true then (terracelaw15_DetectGroups.j2 k2 a1 (wrap64 (x6_2 + (ji15))) x7_2 x8_2 l0 (l0.length : Int) x33_2 true t484 t485 t486 t487 t488 t489 t490 t491 t492 t493 t494 t495 t496 t497 t498 t499 t504 t505 t506 t500 t501 t480 t481 t482) else (if t481 = true then (if (t482 != (!x8_2)) = true then (terracelaw15_DetectGroups.j2 k2 a1 (wrap64 (x6_2 + (ji15))) x7_2 x8_2 l0 (l0.length : Int) x33_2 true t484 t485 t486 t487 t488 t489 t490 t491 t492 t493 t494 t495 t496 t497 t498 t499 t504 t505 t506 t500 t501 t480 t481 t482) else (terracelaw15_DetectGroups.j2 k2 a1 (wrap64 (x6_2 + (ji15))) x7_2 x8_2 l0 (l0.length : Int) x33_2 (decide (t480 < 0)) t484 t485 t486 t487 t488 t489 t490 t491 t492 t493 t494 t495 t496 t497 t498 t499 t504 t505 t506 t500 t501 t480 t481 t482)) else (if (t482 != false) = true then (terracelaw15_DetectGroups.j2 k2 a1 (wrap64 (x6_2 + (ji15))) x7_2 x8_2 l0 (l0.length : Int) x33_2 true t484 t485 t486 t487 t488 t489 t490 t491 t492 t493 t494 t495 t496 t497 t498 t499 t504 t505 t506 t500 t501 t480 t481 t482) else (terracelaw15_DetectGroups.j2 k2 a1 (wrap64 (x6_2 + (ji15))) x7_2 x8_2 l0 (l0.length : Int) x33_2 (decide (t480 < 0)) t484 t485 t486 t487 t488 t489 t490 t491 t492 t493 t494 t495 t496 t497 t498 t499 t504 t505 t506 t500 t501 t480 t481 t482))))) else (terracelaw15_DetectGroups.j2 k2 a1 (wrap64 (x6_2 + (ji15))) x7_2 x8_2 l0 (l0.length : Int) x33_2 true t484 t485 t486 t487 t488 t489 t490 t491 t492 t493 t494 t495 t496 t497 t498 t499 t504 t505 t506 t500 t501 t480 t481 t482)) = some r := H
                  have A16 := Aside0.mk A160
                  clear A160
                  have HC17 := Aside0.mk H
                  clear H
                  have p478 : 0 ≤ (x33_2 : Int) := of_decide_eq_true (by first | (with_reducible assumption) | assumption)
                  have q478 : x33_2 < (l0.length : Int) := of_decide_eq_true (by first | (with_reducible assumption) | assumption)
                  obtain ⟨ad478, e478, hx478_0, hx478_1, hx478_2, hx478_3, hx478_4⟩ := at_T29 HR0.out x33_2 p478 q478
                  cases e478
                  replace hx478_0 := (HB.out.cell (World.block_lt_of_cell? w _ hx478_0)).trans hx478_0
                  replace hx478_1 := (HB.out.cell (World.block_lt_of_cell? w _ hx478_1)).trans hx478_1
                  replace hx478_2 := (HB.out.cell (World.block_lt_of_cell? w _ hx478_2)).trans hx478_2
                  replace hx478_3 := (HB.out.cell (World.block_lt_of_cell? w _ hx478_3)).trans hx478_3
                  replace hx478_4 := (HB.out.cell (World.block_lt_of_cell? w _ hx478_4)).trans hx478_4
                  replace p478 := eq_true p478
                  replace q478 := eq_true q478
                  go_upto_region 10 with (first | ((with_reducible refine gate_dst (N := 10) rfl ?_); (try (refine gate_guard (by rfl) ?_; dsimp only)); refine box_event ?hg (N := 10) ?hd (cs := #[.int .i64 0, .int .i64 0, .int .u32 0, .int .i64 0, .int .i64 0]) (t := 29) ?hr ?_; (case hd => rfl); (case hg => rfl); (case hr => first | (go_simp; done) | (go_simp; rfl)); intro gb479 hg w18 hbox hb; have n0_ := Aside0.mk (Kd.R_below (by (with_reducible repeat (first | apply Kd.R_alloc | apply Kd.R_drewN | apply Kd.R_drew)); exact HO_471001.out) hb); have n1_ := Aside0.mk (blk_below (g := g469) (o := .cells #[.int .u32 x470000_2, .bool x470001_2, .int .u32 x470002_2, .bool x470003_2, .int .u32 x470004_2, .bool x470005_2, .int .u32 x470006_2, .bool x470007_2, .int .u32 x470008_2, .bool x470009_2, .int .u32 x470010_2, .bool x470011_2, .int .u32 x470012_2, .bool x470013_2, .int .u32 x470014_2, .bool x470015_2, .pointer (some ⟨g470, 0, none⟩), .int .i64 x470017_2, .int .i64 x470018_2, .bool x470019_2] 54 (0, 0)) (by exact bpq7 BK469.out) hb); have n2_ := Aside0.mk (blk_below (g := g470) (o := .cells #[.int .i64 x471000_2, u471001] 68 (0, 0)) (by exact bpq7 BK470.out) hb); have n3_ := Aside0.mk (below_step ((bbq7 HB.out)) hb); have n4_ := Aside0.mk (hbox); have n5_ := Aside0.mk ((by rw [hg]; exact (below_size ((bbq7 HB.out))) : w.heap.size ≤ gb479)); have n6_ := Aside0.mk ((by rw [hg]; exact (below_size ((bbq7 HB.out))) : w.heap.size ≤ gb479)); have n7_ := Aside0.mk ((by rw [hg]; exact Nat.ne_of_lt (blk_lt (g := g469) (o := .cells #[.int .u32 x470000_2, .bool x470001_2, .int .u32 x470002_2, .bool x470003_2, .int .u32 x470004_2, .bool x470005_2, .int .u32 x470006_2, .bool x470007_2, .int .u32 x470008_2, .bool x470009_2, .int .u32 x470010_2, .bool x470011_2, .int .u32 x470012_2, .bool x470013_2, .int .u32 x470014_2, .bool x470015_2, .pointer (some ⟨g470, 0, none⟩), .int .i64 x470017_2, .int .i64 x470018_2, .bool x470019_2] 54 (0, 0)) (by exact bpq7 BK469.out)) : g469 ≠ gb479)); have n8_ := Aside0.mk ((by rw [hg]; exact Nat.ne_of_gt (blk_lt (g := g469) (o := .cells #[.int .u32 x470000_2, .bool x470001_2, .int .u32 x470002_2, .bool x470003_2, .int .u32 x470004_2, .bool x470005_2, .int .u32 x470006_2, .bool x470007_2, .int .u32 x470008_2, .bool x470009_2, .int .u32 x470010_2, .bool x470011_2, .int .u32 x470012_2, .bool x470013_2, .int .u32 x470014_2, .bool x470015_2, .pointer (some ⟨g470, 0, none⟩), .int .i64 x470017_2, .int .i64 x470018_2, .bool x470019_2] 54 (0, 0)) (by exact bpq7 BK469.out)) : gb479 ≠ g469)); have n9_ := Aside0.mk ((by rw [hg]; exact Nat.ne_of_lt (blk_lt (g := g470) (o := .cells #[.int .i64 x471000_2, u471001] 68 (0, 0)) (by exact bpq7 BK470.out)) : g470 ≠ gb479)); have n10_ := Aside0.mk ((by rw [hg]; exact Nat.ne_of_gt (blk_lt (g := g470) (o := .cells #[.int .i64 x471000_2, u471001] 68 (0, 0)) (by exact bpq7 BK470.out)) : gb479 ≠ g470)); clear HO_471001; clear BK469; clear BK470; clear HB; have HO_471001 := n0_; have BK469 := n1_; have BK470 := n2_; have HB := n3_; have BK479 := n4_; have GW479 := n5_; have GE479 := n6_; have NB469_479 := n7_; have NB479_469 := n8_; have NB470_479 := n9_; have NB479_470 := n10_; clear n0_ n1_ n2_ n3_ n4_ n5_ n6_ n7_ n8_ n9_ n10_; clear hb hbox hg; have hnb19 := NB479_469.out; have hnc19 := NB469_479.out; have hnb20 := NB479_470.out; have hnc20 := NB470_479.out; have hcz21_0 : w18.cell? ⟨gb479, 0, none⟩ = some (.int .i64 0) := (blk_cell BK479.out 0).trans rfl; have hcz21_1 : w18.cell? ⟨gb479, 1, none⟩ = some (.int .i64 0) := (blk_cell BK479.out 1).trans rfl; have hcz21_2 : w18.cell? ⟨gb479, 2, none⟩ = some (.int .u32 0) := (blk_cell BK479.out 2).trans rfl; have hcz21_3 : w18.cell? ⟨gb479, 3, none⟩ = some (.int .i64 0) := (blk_cell BK479.out 3).trans rfl; have hcz21_4 : w18.cell? ⟨gb479, 4, none⟩ = some (.int .i64 0) := (blk_cell BK479.out 4).trans rfl; have hfz21_0 := fun i_ => blk_frozen BK479.out i_) | ((with_reducible refine gate_store (t := 29) (p := 10) rfl ?_); refine store_event (t := 29) (p := 10) (v := ?vo_w22) (w1 := (((((w18.setCell ⟨gb479, 0, none⟩ (.int .i64 ((rd_T29 l0 x33_2).f0))).setCell ⟨gb479, 1, none⟩ (.int .i64 ((rd_T29 l0 x33_2).f1))).setCell ⟨gb479, 2, none⟩ (.int .u32 ((rd_T29 l0 x33_2).f2))).setCell ⟨gb479, 3, none⟩ (.int .i64 ((rd_T29 l0 x33_2).f3))).setCell ⟨gb479, 4, none⟩ (.int .i64 ((rd_T29 l0 x33_2).f4)))) ?hg ?ho ?hn ?hr ?_; (case ho => rfl); (case hg => rfl); (case hn => rfl); (case hr => first | (go_simp; done) | (go_simp; rfl)); intro w22 hw; have n0_ : Aside0 (Kd.R (Kd.int .i64) 3 w22 w.heap.size (fun _ => True) u471001 x471001_2) := ⟨(by rw [hw]; exact (by (with_reducible repeat (first | apply Kd.R_alloc | apply Kd.R_drewN | apply Kd.R_drew)); exact Kd.R_mono (Kd.R_far (p := ⟨gb479, 4, none⟩) (Kd.R_far (p := ⟨gb479, 3, none⟩) (Kd.R_far (p := ⟨gb479, 2, none⟩) (Kd.R_far (p := ⟨gb479, 1, none⟩) (Kd.R_far (p := ⟨gb479, 0, none⟩) (Kd.R_types HO_471001.out BK479.out (by decide)) (fun _ hk => hk.2) (.int .i64 ((rd_T29 l0 x33_2).f0))) (fun _ hk => hk.2) (.int .i64 ((rd_T29 l0 x33_2).f1))) (fun _ hk => hk.2) (.int .u32 ((rd_T29 l0 x33_2).f2))) (fun _ hk => hk.2) (.int .i64 ((rd_T29 l0 x33_2).f3))) (fun _ hk => hk.2) (.int .i64 ((rd_T29 l0 x33_2).f4))) (fun _ hk => trivial)))⟩; have n1_ : Aside0 (w22.heap[g469]? = some (.cells #[.int .u32 x470000_2, .bool x470001_2, .int .u32 x470002_2, .bool x470003_2, .int .u32 x470004_2, .bool x470005_2, .int .u32 x470006_2, .bool x470007_2, .int .u32 x470008_2, .bool x470009_2, .int .u32 x470010_2, .bool x470011_2, .int .u32 x470012_2, .bool x470013_2, .int .u32 x470014_2, .bool x470015_2, .pointer (some ⟨g470, 0, none⟩), .int .i64 x470017_2, .int .i64 x470018_2, .bool x470019_2] 54 (0, 0))) := ⟨(by rw [hw]; exact (by refine bfq7 NB469_479.out ?_; refine bfq7 NB469_479.out ?_; refine bfq7 NB469_479.out ?_; refine bfq7 NB469_479.out ?_; refine bfq7 NB469_479.out ?_; exact bpq7 BK469.out))⟩; have n2_ : Aside0 (w22.heap[g470]? = some (.cells #[.int .i64 x471000_2, u471001] 68 (0, 0))) := ⟨(by rw [hw]; exact (by refine bfq7 NB470_479.out ?_; refine bfq7 NB470_479.out ?_; refine bfq7 NB470_479.out ?_; refine bfq7 NB470_479.out ?_; refine bfq7 NB470_479.out ?_; exact bpq7 BK470.out))⟩; have n3_ : Aside0 (w22.heap[gb479]? = some (.cells #[.int .i64 ((rd_T29 l0 x33_2).f0), .int .i64 ((rd_T29 l0 x33_2).f1), .int .u32 ((rd_T29 l0 x33_2).f2), .int .i64 ((rd_T29 l0 x33_2).f3), .int .i64 ((rd_T29 l0 x33_2).f4)] 29 (0, 0))) := ⟨(by rw [hw]; exact (by refine bzq7 ?_; refine btq7 (i := 4) ?_; refine btq7 (i := 3) ?_; refine btq7 (i := 2) ?_; refine btq7 (i := 1) ?_; refine btq7 (i := 0) ?_; exact ⟨_, bpq7 BK479.out, rfl⟩))⟩; have n4_ : Aside0 (Below w.heap.size w w22) := ⟨(by rw [hw]; exact ((bbq7 HB.out)))⟩; clear hw; clear HO_471001; clear BK469; clear BK470; clear BK479; clear HB; have HO_471001 := n0_; have BK469 := n1_; have BK470 := n2_; have BK479 := n3_; have HB := n4_; clear n0_ n1_ n2_ n3_ n4_; have hcz23_0 : w22.cell? ⟨gb479, 0, none⟩ = some (.int .i64 ((rd_T29 l0 x33_2).f0)) := (blk_cell BK479.out 0).trans rfl; have hcz23_1 : w22.cell? ⟨gb479, 1, none⟩ = some (.int .i64 ((rd_T29 l0 x33_2).f1)) := (blk_cell BK479.out 1).trans rfl; have hcz23_2 : w22.cell? ⟨gb479, 2, none⟩ = some (.int .u32 ((rd_T29 l0 x33_2).f2)) := (blk_cell BK479.out 2).trans rfl; have hcz23_3 : w22.cell? ⟨gb479, 3, none⟩ = some (.int .i64 ((rd_T29 l0 x33_2).f3)) := (blk_cell BK479.out 3).trans rfl; have hcz23_4 : w22.cell? ⟨gb479, 4, none⟩ = some (.int .i64 ((rd_T29 l0 x33_2).f4)) := (blk_cell BK479.out 4).trans rfl; have hfz23_0 := fun i_ => blk_frozen BK479.out i_) | ((with_reducible refine gate_callee (f := 10) rfl ?_); refine goesL_ (some 52) rfl rfl Try.func10 (by kernel_rfl) rfl #[.pointer (some ⟨g469, 0, none⟩), .int .i64 (Go.bits .and .i64 ((rd_T29 l0 x33_2).f1) 7), .int .u32 ((rd_T29 l0 x33_2).f2), .int .i64 (wrap64 (x6_2 + (ji15))), .int .i64 a1] rfl (by (try simp only [List.map_toArray, List.map_cons, List.map_nil]); first | done | (simp only [hji15]; rfl) | rfl | (simp only [List.length_drop, List.length_take]; rfl)) ?_; (with_reducible refine (detect_Detect_On.calls k2 g469 g470 x470000_2 x470001_2 x470002_2 x470003_2 x470004_2 x470005_2 x470006_2 x470007_2 x470008_2 x470009_2 x470010_2 x470011_2 x470012_2 x470013_2 x470014_2 x470015_2 x471000_2 (fun k_ => some k_ = (u471001 : Value).ownBlock) u471001 x471001_2 x470017_2 x470018_2 x470019_2 (Go.bits .and .i64 ((rd_T29 l0 x33_2).f1) 7) ((rd_T29 l0 x33_2).f2) (wrap64 (x6_2 + (ji15))) a1 t480 t481 t482 t483 t484 t485 t486 t487 t488 t489 t490 t491 t492 t493 t494 t495 t496 t497 t498 t499 t500 t501 t504 t505 t506 w _ ?side1 ?side2 ?side3 ?side4 ?side5 ?side6 A16.out).mono ?_); (case side1 => exact bpq7 BK469.out); (case side2 => exact GE469.out); (case side3 => exact bpq7 BK470.out); (case side4 => exact GE470.out); (case side5 => repeat (first | (with_reducible first | exact HB.out | apply below_alloc | apply pw_below_drewN | apply below_drew1 | refine below_set ?_ GE469.out | refine below_set ?_ GE470.out | refine below_set ?_ GE479.out) | exact HB.out)); (case side6 => exact Kd.R_tight rfl HO_471001.out); rintro e w24 ⟨v502, rfl, ho0, hi, hi1, hb, hkp⟩; refine ⟨_, rfl, ?_⟩; have n0_ := Aside0.mk (hi); have n1_ := Aside0.mk (hi1); have n2_ := Aside0.mk (blk_kept (by exact bpq7 BK479.out) hkp (fun hs_ => Or.elim hs_ (fun hs_ => Or.elim hs_ (fun hs_ => (fun e_ => (Kd.R_ne HO_471001.out BK479.out (by decide)) e_) hs_) (fun e_ => NB479_469.out e_)) (fun e_ => NB479_470.out e_))); have n3_ := Aside0.mk (Kd.R_mono (ok' := fun k_ => True) ho0 (fun k_ hk_ => trivial)); have n4_ := Aside0.mk (hb); clear BK469; clear BK470; clear BK479; clear HB; clear HO_471001; have BK469 := n0_; have BK470 := n1_; have BK479 := n2_; have HO503 := n3_; have HB := n4_; clear n0_ n1_ n2_ n3_ n4_; (try clear hb); (try clear hkp); (try clear ho0)) | ((with_reducible refine gate_dst (N := 11) rfl ?_); (try (refine gate_guard (by rfl) ?_; dsimp only)); refine box_event ?hg (N := 11) ?hd (cs := #[.int .i64 0, .bool false, .bool false]) (t := 31) ?hr ?_; (case hd => rfl); (case hg => rfl); (case hr => first | (go_simp; done) | (go_simp; rfl)); intro gb507 hg w25 hbox hb; have n0_ := Aside0.mk (Kd.R_below (by (with_reducible repeat (first | apply Kd.R_alloc | apply Kd.R_drewN | apply Kd.R_drew)); exact HO503.out) hb); have n1_ := Aside0.mk (blk_below (g := g469) (o := .cells #[.int .u32 t484, .bool t485, .int .u32 t486, .bool t487, .int .u32 t488, .bool t489, .int .u32 t490, .bool t491, .int .u32 t492, .bool t493, .int .u32 t494, .bool t495, .int .u32 t496, .bool t497, .int .u32 t498, .bool t499, .pointer (some ⟨g470, 0, none⟩), .int .i64 t504, .int .i64 t505, .bool t506] 54 (0, 0)) (by exact bpq7 BK469.out) hb); have n2_ := Aside0.mk (blk_below (g := g470) (o := .cells #[.int .i64 t500, v502] 68 (0, 0)) (by exact bpq7 BK470.out) hb); have n3_ := Aside0.mk (blk_below (g := gb479) (o := .cells #[.int .i64 ((rd_T29 l0 x33_2).f0), .int .i64 ((rd_T29 l0 x33_2).f1), .int .u32 ((rd_T29 l0 x33_2).f2), .int .i64 ((rd_T29 l0 x33_2).f3), .int .i64 ((rd_T29 l0 x33_2).f4)] 29 (0, 0)) (by exact bpq7 BK479.out) hb); have n4_ := Aside0.mk (below_step ((bbq7 HB.out)) hb); have n5_ := Aside0.mk (hbox); have n6_ := Aside0.mk ((by rw [hg]; exact (below_size ((bbq7 HB.out))) : w.heap.size ≤ gb507)); have n7_ := Aside0.mk ((by rw [hg]; exact (below_size ((bbq7 HB.out))) : w.heap.size ≤ gb507)); have n8_ := Aside0.mk ((by rw [hg]; exact Nat.ne_of_lt (blk_lt (g := g469) (o := .cells #[.int .u32 t484, .bool t485, .int .u32 t486, .bool t487, .int .u32 t488, .bool t489, .int .u32 t490, .bool t491, .int .u32 t492, .bool t493, .int .u32 t494, .bool t495, .int .u32 t496, .bool t497, .int .u32 t498, .bool t499, .pointer (some ⟨g470, 0, none⟩), .int .i64 t504, .int .i64 t505, .bool t506] 54 (0, 0)) (by exact bpq7 BK469.out)) : g469 ≠ gb507)); have n9_ := Aside0.mk ((by rw [hg]; exact Nat.ne_of_gt (blk_lt (g := g469) (o := .cells #[.int .u32 t484, .bool t485, .int .u32 t486, .bool t487, .int .u32 t488, .bool t489, .int .u32 t490, .bool t491, .int .u32 t492, .bool t493, .int .u32 t494, .bool t495, .int .u32 t496, .bool t497, .int .u32 t498, .bool t499, .pointer (some ⟨g470, 0, none⟩), .int .i64 t504, .int .i64 t505, .bool t506] 54 (0, 0)) (by exact bpq7 BK469.out)) : gb507 ≠ g469)); have n10_ := Aside0.mk ((by rw [hg]; exact Nat.ne_of_lt (blk_lt (g := g470) (o := .cells #[.int .i64 t500, v502] 68 (0, 0)) (by exact bpq7 BK470.out)) : g470 ≠ gb507)); have n11_ := Aside0.mk ((by rw [hg]; exact Nat.ne_of_gt (blk_lt (g := g470) (o := .cells #[.int .i64 t500, v502] 68 (0, 0)) (by exact bpq7 BK470.out)) : gb507 ≠ g470)); have n12_ := Aside0.mk ((by rw [hg]; exact Nat.ne_of_lt (blk_lt (g := gb479) (o := .cells #[.int .i64 ((rd_T29 l0 x33_2).f0), .int .i64 ((rd_T29 l0 x33_2).f1), .int .u32 ((rd_T29 l0 x33_2).f2), .int .i64 ((rd_T29 l0 x33_2).f3), .int .i64 ((rd_T29 l0 x33_2).f4)] 29 (0, 0)) (by exact bpq7 BK479.out)) : gb479 ≠ gb507)); have n13_ := Aside0.mk ((by rw [hg]; exact Nat.ne_of_gt (blk_lt (g := gb479) (o := .cells #[.int .i64 ((rd_T29 l0 x33_2).f0), .int .i64 ((rd_T29 l0 x33_2).f1), .int .u32 ((rd_T29 l0 x33_2).f2), .int .i64 ((rd_T29 l0 x33_2).f3), .int .i64 ((rd_T29 l0 x33_2).f4)] 29 (0, 0)) (by exact bpq7 BK479.out)) : gb507 ≠ gb479)); clear HO503; clear BK469; clear BK470; clear BK479; clear HB; have HO503 := n0_; have BK469 := n1_; have BK470 := n2_; have BK479 := n3_; have HB := n4_; have BK507 := n5_; have GW507 := n6_; have GE507 := n7_; have NB469_507 := n8_; have NB507_469 := n9_; have NB470_507 := n10_; have NB507_470 := n11_; have NB479_507 := n12_; have NB507_479 := n13_; clear n0_ n1_ n2_ n3_ n4_ n5_ n6_ n7_ n8_ n9_ n10_ n11_ n12_ n13_; clear hb hbox hg; have hnb26 := NB507_469.out; have hnc26 := NB469_507.out; have hnb27 := NB507_470.out; have hnc27 := NB470_507.out; have hnb28 := NB507_479.out; have hnc28 := NB479_507.out; have hcz29_0 : w25.cell? ⟨gb507, 0, none⟩ = some (.int .i64 0) := (blk_cell BK507.out 0).trans rfl; have hcz29_1 : w25.cell? ⟨gb507, 1, none⟩ = some (.bool false) := (blk_cell BK507.out 1).trans rfl; have hcz29_2 : w25.cell? ⟨gb507, 2, none⟩ = some (.bool false) := (blk_cell BK507.out 2).trans rfl; have hfz29_0 := fun i_ => blk_frozen BK507.out i_))
                  (try simp only [Act.put, List.setIfInBounds_toArray, List.set_cons_zero, List.set_cons_succ])
                  go_cut [91] (fun v91 wc => ∃ (kq : Nat) (x91_16 : Bool), v91 = .bool x91_16 ∧ Aside0 (terracelaw15_DetectGroups.j2 kq a1 (wrap64 (x6_2 + (ji15))) x7_2 x8_2 l0 (l0.length : Int) x33_2 x91_16 t484 t485 t486 t487 t488 t489 t490 t491 t492 t493 t494 t495 t496 t497 t498 t499 t504 t505 t506 t500 t501 t480 t481 t482 = some r) ∧ Aside0 (kq ≤ k2) ∧ Aside0 (Kd.R (Kd.int .i64) 3 wc w.heap.size (fun _ => True) v502 t501) ∧ Aside0 (wc.heap[g469]? = some (.cells #[.int .u32 t484, .bool t485, .int .u32 t486, .bool t487, .int .u32 t488, .bool t489, .int .u32 t490, .bool t491, .int .u32 t492, .bool t493, .int .u32 t494, .bool t495, .int .u32 t496, .bool t497, .int .u32 t498, .bool t499, .pointer (some ⟨g470, 0, none⟩), .int .i64 t504, .int .i64 t505, .bool t506] 54 (0, 0))) ∧ Aside0 (wc.heap[g470]? = some (.cells #[.int .i64 t500, v502] 68 (0, 0))) ∧ Aside0 (wc.heap[gb479]? = some (.cells #[.int .i64 ((rd_T29 l0 x33_2).f0), .int .i64 ((rd_T29 l0 x33_2).f1), .int .u32 ((rd_T29 l0 x33_2).f2), .int .i64 ((rd_T29 l0 x33_2).f3), .int .i64 ((rd_T29 l0 x33_2).f4)] 29 (0, 0))) ∧ Aside0 (wc.heap[gb507]? = some (.cells #[.int .i64 t480, .bool t481, .bool t482] 31 (0, 0))) ∧ Aside0 (Below w.heap.size w wc))
                  case first =>
                    have H := HC17.out
                    clear HC17
                    by_cases c30 : t483 = 0
                    · rw [if_pos c30] at H
                      have c30b0 : (t483 == 0) = true := beq_iff_eq.mpr c30
                      have c30b1 : (t483 != 0) = false := bne_eq_false_iff_eq.mpr c30
                      clear c30
                      (first | rw [c30b0] | (simp only [i64_w, i32_w]; rw [c30b0]) | skip)
                      by_cases c31 : t480 > 0
                      · rw [if_pos c31] at H
                        have c31b0 : decide (0 < t480) = true := decide_eq_true c31
                        clear c31
                        by_cases c32 : x8_2 = true
                        · subst c32
                          have H1 : (if (t481 != (decide ((wrap64 ((wrap64 (x6_2 + (ji15))) - x7_2)) > a1))) = true then (terracelaw15_DetectGroups.j2 k2 a1 (wrap64 (x6_2 + (ji15))) x7_2 true l0 (l0.length : Int) x33_2 true t484 t485 t486 t487 t488 t489 t490 t491 t492 t493 t494 t495 t496 t497 t498 t499 t504 t505 t506 t500 t501 t480 t481 t482) else (if t481 = true then (if (t482 != (!true)) = true then (terracelaw15_DetectGroups.j2 k2 a1 (wrap64 (x6_2 + (ji15))) x7_2 true l0 (l0.length : Int) x33_2 true t484 t485 t486 t487 t488 t489 t490 t491 t492 t493 t494 t495 t496 t497 t498 t499 t504 t505 t506 t500 t501 t480 t481 t482) else (terracelaw15_DetectGroups.j2 k2 a1 (wrap64 (x6_2 + (ji15))) x7_2 true l0 (l0.length : Int) x33_2 (decide (t480 < 0)) t484 t485 t486 t487 t488 t489 t490 t491 t492 t493 t494 t495 t496 t497 t498 t499 t504 t505 t506 t500 t501 t480 t481 t482)) else (if (t482 != false) = true then (terracelaw15_DetectGroups.j2 k2 a1 (wrap64 (x6_2 + (ji15))) x7_2 true l0 (l0.length : Int) x33_2 true t484 t485 t486 t487 t488 t489 t490 t491 t492 t493 t494 t495 t496 t497 t498 t499 t504 t505 t506 t500 t501 t480 t481 t482) else (terracelaw15_DetectGroups.j2 k2 a1 (wrap64 (x6_2 + (ji15))) x7_2 true l0 (l0.length : Int) x33_2 (decide (t480 < 0)) t484 t485 t486 t487 t488 t489 t490 t491 t492 t493 t494 t495 t496 t497 t498 t499 t504 t505 t506 t500 t501 t480 t481 t482)))) = some r := by rw [if_pos rfl] at H; exact H
                          clear H
                          have H := H1
                          clear H1
                          by_cases c33 : (t481 != (decide ((wrap64 ((wrap64 (x6_2 + (ji15))) - x7_2)) > a1))) = true
                          · rw [if_pos c33] at H
                            have c33b0 : (t481 != (decide ((wrap64 ((wrap64 (x6_2 + (ji15))) - x7_2)) > a1))) = true := c33
                            (try (have c33b1 : decide (t481 = (decide ((wrap64 ((wrap64 (x6_2 + (ji15))) - x7_2)) > a1))) = false := by simpa using c33))
                            (try (have c33b2 : (t481 == (decide ((wrap64 ((wrap64 (x6_2 + (ji15))) - x7_2)) > a1))) = false := by simpa using c33))
                            (try (have c33b3 : ¬ (t481 = (decide ((wrap64 ((wrap64 (x6_2 + (ji15))) - x7_2)) > a1))) := by simpa using c33))
                            clear c33
                            have H' := Aside0.mk H
                            clear H
                            have hnb34 := NB507_469.out
                            have hnc34 := NB469_507.out
                            have hnb35 := NB507_470.out
                            have hnc35 := NB470_507.out
                            have hnb36 := NB507_479.out
                            have hnc36 := NB479_507.out
                            have hcz37_0 : w25.cell? ⟨gb507, 0, none⟩ = some (.int .i64 0) := (blk_cell BK507.out 0).trans rfl
                            have hcz37_1 : w25.cell? ⟨gb507, 1, none⟩ = some (.bool false) := (blk_cell BK507.out 1).trans rfl
                            have hcz37_2 : w25.cell? ⟨gb507, 2, none⟩ = some (.bool false) := (blk_cell BK507.out 2).trans rfl
                            have hfz37_0 := fun i_ => blk_frozen BK507.out i_
                            go_wp2
                            go_meet
                            case rel => exact ⟨_, (true), (by first | rfl | (simp; done) | (simp [*]; done)), H', ⟨by have := HJ3.out; have := HK2.out; first | omega | exact Nat.le_refl _⟩, ⟨by (with_reducible repeat (first | apply Kd.R_alloc | apply Kd.R_drewN | apply Kd.R_drew)); exact Kd.R_mono (Kd.R_far (p := ⟨gb507, 2, none⟩) (Kd.R_far (p := ⟨gb507, 1, none⟩) (Kd.R_far (p := ⟨gb507, 0, none⟩) (Kd.R_types HO503.out BK507.out (by decide)) (fun _ hk => hk.2) (.int .i64 t480)) (fun _ hk => hk.2) (.bool t481)) (fun _ hk => hk.2) (.bool t482)) (fun _ hk => trivial)⟩, ⟨by refine bfq7 NB469_507.out ?_; refine bfq7 NB469_507.out ?_; refine bfq7 NB469_507.out ?_; exact bpq7 BK469.out⟩, ⟨by refine bfq7 NB470_507.out ?_; refine bfq7 NB470_507.out ?_; refine bfq7 NB470_507.out ?_; exact bpq7 BK470.out⟩, ⟨by refine bfq7 NB479_507.out ?_; refine bfq7 NB479_507.out ?_; refine bfq7 NB479_507.out ?_; exact bpq7 BK479.out⟩, ⟨by refine bzq7 ?_; refine btq7 (i := 2) ?_; refine btq7 (i := 1) ?_; refine btq7 (i := 0) ?_; exact ⟨_, bpq7 BK507.out, rfl⟩⟩, ⟨(bbq7 HB.out)⟩⟩
                          · rw [if_neg c33] at H
                            have c33b0 : (t481 != (decide ((wrap64 ((wrap64 (x6_2 + (ji15))) - x7_2)) > a1))) = false := by simpa using c33
                            (try (have c33b1 : decide (t481 = (decide ((wrap64 ((wrap64 (x6_2 + (ji15))) - x7_2)) > a1))) = true := by simpa using c33))
                            (try (have c33b2 : (t481 == (decide ((wrap64 ((wrap64 (x6_2 + (ji15))) - x7_2)) > a1))) = true := by simpa using c33))
                            clear c33
                            by_cases c38 : t481 = true
                            · subst c38
                              have H1 : (if (t482 != (!true)) = true then (terracelaw15_DetectGroups.j2 k2 a1 (wrap64 (x6_2 + (ji15))) x7_2 true l0 (l0.length : Int) x33_2 true t484 t485 t486 t487 t488 t489 t490 t491 t492 t493 t494 t495 t496 t497 t498 t499 t504 t505 t506 t500 t501 t480 true t482) else (terracelaw15_DetectGroups.j2 k2 a1 (wrap64 (x6_2 + (ji15))) x7_2 true l0 (l0.length : Int) x33_2 (decide (t480 < 0)) t484 t485 t486 t487 t488 t489 t490 t491 t492 t493 t494 t495 t496 t497 t498 t499 t504 t505 t506 t500 t501 t480 true t482)) = some r := by rw [if_pos rfl] at H; exact H
                              clear H
                              have H := H1
                              clear H1
                              have H1 : (if t482 = true then (terracelaw15_DetectGroups.j2 k2 a1 (wrap64 (x6_2 + (ji15))) x7_2 true l0 (l0.length : Int) x33_2 true t484 t485 t486 t487 t488 t489 t490 t491 t492 t493 t494 t495 t496 t497 t498 t499 t504 t505 t506 t500 t501 t480 true t482) else (terracelaw15_DetectGroups.j2 k2 a1 (wrap64 (x6_2 + (ji15))) x7_2 true l0 (l0.length : Int) x33_2 (decide (t480 < 0)) t484 t485 t486 t487 t488 t489 t490 t491 t492 t493 t494 t495 t496 t497 t498 t499 t504 t505 t506 t500 t501 t480 true t482)) = some r := by (revert H; cases t482 <;> intro H <;> exact H)
                              clear H
                              have H := H1
                              clear H1
                              by_cases c39 : t482 = true
                              · subst c39
                                have H1 : (terracelaw15_DetectGroups.j2 k2 a1 (wrap64 (x6_2 + (ji15))) x7_2 true l0 (l0.length : Int) x33_2 true t484 t485 t486 t487 t488 t489 t490 t491 t492 t493 t494 t495 t496 t497 t498 t499 t504 t505 t506 t500 t501 t480 true true) = some r := by rw [if_pos rfl] at H; exact H
                                clear H
                                have H := H1
                                clear H1
                                have H' := Aside0.mk H
                                clear H
                                have hnb40 := NB507_469.out
                                have hnc40 := NB469_507.out
                                have hnb41 := NB507_470.out
                                have hnc41 := NB470_507.out
                                have hnb42 := NB507_479.out
                                have hnc42 := NB479_507.out
                                have hcz43_0 : w25.cell? ⟨gb507, 0, none⟩ = some (.int .i64 0) := (blk_cell BK507.out 0).trans rfl
                                have hcz43_1 : w25.cell? ⟨gb507, 1, none⟩ = some (.bool false) := (blk_cell BK507.out 1).trans rfl
                                have hcz43_2 : w25.cell? ⟨gb507, 2, none⟩ = some (.bool false) := (blk_cell BK507.out 2).trans rfl
                                have hfz43_0 := fun i_ => blk_frozen BK507.out i_
                                go_wp2
                                go_meet
                                case rel => exact ⟨_, (true), (by first | rfl | (simp; done) | (simp [*]; done)), H', ⟨by have := HJ3.out; have := HK2.out; first | omega | exact Nat.le_refl _⟩, ⟨by (with_reducible repeat (first | apply Kd.R_alloc | apply Kd.R_drewN | apply Kd.R_drew)); exact Kd.R_mono (Kd.R_far (p := ⟨gb507, 2, none⟩) (Kd.R_far (p := ⟨gb507, 1, none⟩) (Kd.R_far (p := ⟨gb507, 0, none⟩) (Kd.R_types HO503.out BK507.out (by decide)) (fun _ hk => hk.2) (.int .i64 t480)) (fun _ hk => hk.2) (.bool true)) (fun _ hk => hk.2) (.bool true)) (fun _ hk => trivial)⟩, ⟨by refine bfq7 NB469_507.out ?_; refine bfq7 NB469_507.out ?_; refine bfq7 NB469_507.out ?_; exact bpq7 BK469.out⟩, ⟨by refine bfq7 NB470_507.out ?_; refine bfq7 NB470_507.out ?_; refine bfq7 NB470_507.out ?_; exact bpq7 BK470.out⟩, ⟨by refine bfq7 NB479_507.out ?_; refine bfq7 NB479_507.out ?_; refine bfq7 NB479_507.out ?_; exact bpq7 BK479.out⟩, ⟨by refine bzq7 ?_; refine btq7 (i := 2) ?_; refine btq7 (i := 1) ?_; refine btq7 (i := 0) ?_; exact ⟨_, bpq7 BK507.out, rfl⟩⟩, ⟨(bbq7 HB.out)⟩⟩
                              · replace c39 := Bool.eq_false_iff.mpr c39
                                subst c39
                                have H1 : (terracelaw15_DetectGroups.j2 k2 a1 (wrap64 (x6_2 + (ji15))) x7_2 true l0 (l0.length : Int) x33_2 (decide (t480 < 0)) t484 t485 t486 t487 t488 t489 t490 t491 t492 t493 t494 t495 t496 t497 t498 t499 t504 t505 t506 t500 t501 t480 true false) = some r := by rw [if_neg (show ¬ (false = true) by decide)] at H; exact H
                                clear H
                                have H := H1
                                clear H1
                                have H' := Aside0.mk H
                                clear H
                                have hnb44 := NB507_469.out
                                have hnc44 := NB469_507.out
                                have hnb45 := NB507_470.out
                                have hnc45 := NB470_507.out
                                have hnb46 := NB507_479.out
                                have hnc46 := NB479_507.out
                                have hcz47_0 : w25.cell? ⟨gb507, 0, none⟩ = some (.int .i64 0) := (blk_cell BK507.out 0).trans rfl
                                have hcz47_1 : w25.cell? ⟨gb507, 1, none⟩ = some (.bool false) := (blk_cell BK507.out 1).trans rfl
                                have hcz47_2 : w25.cell? ⟨gb507, 2, none⟩ = some (.bool false) := (blk_cell BK507.out 2).trans rfl
                                have hfz47_0 := fun i_ => blk_frozen BK507.out i_
                                go_wp2
                                go_meet
                                case rel => exact ⟨_, (decide (t480 < 0)), (by first | rfl | (simp; done) | (simp [*]; done)), H', ⟨by have := HJ3.out; have := HK2.out; first | omega | exact Nat.le_refl _⟩, ⟨by (with_reducible repeat (first | apply Kd.R_alloc | apply Kd.R_drewN | apply Kd.R_drew)); exact Kd.R_mono (Kd.R_far (p := ⟨gb507, 2, none⟩) (Kd.R_far (p := ⟨gb507, 1, none⟩) (Kd.R_far (p := ⟨gb507, 0, none⟩) (Kd.R_types HO503.out BK507.out (by decide)) (fun _ hk => hk.2) (.int .i64 t480)) (fun _ hk => hk.2) (.bool true)) (fun _ hk => hk.2) (.bool false)) (fun _ hk => trivial)⟩, ⟨by refine bfq7 NB469_507.out ?_; refine bfq7 NB469_507.out ?_; refine bfq7 NB469_507.out ?_; exact bpq7 BK469.out⟩, ⟨by refine bfq7 NB470_507.out ?_; refine bfq7 NB470_507.out ?_; refine bfq7 NB470_507.out ?_; exact bpq7 BK470.out⟩, ⟨by refine bfq7 NB479_507.out ?_; refine bfq7 NB479_507.out ?_; refine bfq7 NB479_507.out ?_; exact bpq7 BK479.out⟩, ⟨by refine bzq7 ?_; refine btq7 (i := 2) ?_; refine btq7 (i := 1) ?_; refine btq7 (i := 0) ?_; exact ⟨_, bpq7 BK507.out, rfl⟩⟩, ⟨(bbq7 HB.out)⟩⟩
                            · replace c38 := Bool.eq_false_iff.mpr c38
                              subst c38
                              have H1 : (if (t482 != false) = true then (terracelaw15_DetectGroups.j2 k2 a1 (wrap64 (x6_2 + (ji15))) x7_2 true l0 (l0.length : Int) x33_2 true t484 t485 t486 t487 t488 t489 t490 t491 t492 t493 t494 t495 t496 t497 t498 t499 t504 t505 t506 t500 t501 t480 false t482) else (terracelaw15_DetectGroups.j2 k2 a1 (wrap64 (x6_2 + (ji15))) x7_2 true l0 (l0.length : Int) x33_2 (decide (t480 < 0)) t484 t485 t486 t487 t488 t489 t490 t491 t492 t493 t494 t495 t496 t497 t498 t499 t504 t505 t506 t500 t501 t480 false t482)) = some r := by rw [if_neg (show ¬ (false = true) by decide)] at H; exact H
                              clear H
                              have H := H1
                              clear H1
                              have H1 : (if t482 = true then (terracelaw15_DetectGroups.j2 k2 a1 (wrap64 (x6_2 + (ji15))) x7_2 true l0 (l0.length : Int) x33_2 true t484 t485 t486 t487 t488 t489 t490 t491 t492 t493 t494 t495 t496 t497 t498 t499 t504 t505 t506 t500 t501 t480 false t482) else (terracelaw15_DetectGroups.j2 k2 a1 (wrap64 (x6_2 + (ji15))) x7_2 true l0 (l0.length : Int) x33_2 (decide (t480 < 0)) t484 t485 t486 t487 t488 t489 t490 t491 t492 t493 t494 t495 t496 t497 t498 t499 t504 t505 t506 t500 t501 t480 false t482)) = some r := by (revert H; cases t482 <;> intro H <;> exact H)
                              clear H
                              have H := H1
                              clear H1
                              by_cases c48 : t482 = true
                              · subst c48
                                have H1 : (terracelaw15_DetectGroups.j2 k2 a1 (wrap64 (x6_2 + (ji15))) x7_2 true l0 (l0.length : Int) x33_2 true t484 t485 t486 t487 t488 t489 t490 t491 t492 t493 t494 t495 t496 t497 t498 t499 t504 t505 t506 t500 t501 t480 false true) = some r := by rw [if_pos rfl] at H; exact H
                                clear H
                                have H := H1
                                clear H1
                                have H' := Aside0.mk H
                                clear H
                                have hnb49 := NB507_469.out
                                have hnc49 := NB469_507.out
                                have hnb50 := NB507_470.out
                                have hnc50 := NB470_507.out
                                have hnb51 := NB507_479.out
                                have hnc51 := NB479_507.out
                                have hcz52_0 : w25.cell? ⟨gb507, 0, none⟩ = some (.int .i64 0) := (blk_cell BK507.out 0).trans rfl
                                have hcz52_1 : w25.cell? ⟨gb507, 1, none⟩ = some (.bool false) := (blk_cell BK507.out 1).trans rfl
                                have hcz52_2 : w25.cell? ⟨gb507, 2, none⟩ = some (.bool false) := (blk_cell BK507.out 2).trans rfl
                                have hfz52_0 := fun i_ => blk_frozen BK507.out i_
                                go_wp2
                                go_meet
                                case rel => exact ⟨_, (true), (by first | rfl | (simp; done) | (simp [*]; done)), H', ⟨by have := HJ3.out; have := HK2.out; first | omega | exact Nat.le_refl _⟩, ⟨by (with_reducible repeat (first | apply Kd.R_alloc | apply Kd.R_drewN | apply Kd.R_drew)); exact Kd.R_mono (Kd.R_far (p := ⟨gb507, 2, none⟩) (Kd.R_far (p := ⟨gb507, 1, none⟩) (Kd.R_far (p := ⟨gb507, 0, none⟩) (Kd.R_types HO503.out BK507.out (by decide)) (fun _ hk => hk.2) (.int .i64 t480)) (fun _ hk => hk.2) (.bool false)) (fun _ hk => hk.2) (.bool true)) (fun _ hk => trivial)⟩, ⟨by refine bfq7 NB469_507.out ?_; refine bfq7 NB469_507.out ?_; refine bfq7 NB469_507.out ?_; exact bpq7 BK469.out⟩, ⟨by refine bfq7 NB470_507.out ?_; refine bfq7 NB470_507.out ?_; refine bfq7 NB470_507.out ?_; exact bpq7 BK470.out⟩, ⟨by refine bfq7 NB479_507.out ?_; refine bfq7 NB479_507.out ?_; refine bfq7 NB479_507.out ?_; exact bpq7 BK479.out⟩, ⟨by refine bzq7 ?_; refine btq7 (i := 2) ?_; refine btq7 (i := 1) ?_; refine btq7 (i := 0) ?_; exact ⟨_, bpq7 BK507.out, rfl⟩⟩, ⟨(bbq7 HB.out)⟩⟩
                              · replace c48 := Bool.eq_false_iff.mpr c48
                                subst c48
                                have H1 : (terracelaw15_DetectGroups.j2 k2 a1 (wrap64 (x6_2 + (ji15))) x7_2 true l0 (l0.length : Int) x33_2 (decide (t480 < 0)) t484 t485 t486 t487 t488 t489 t490 t491 t492 t493 t494 t495 t496 t497 t498 t499 t504 t505 t506 t500 t501 t480 false false) = some r := by rw [if_neg (show ¬ (false = true) by decide)] at H; exact H
                                clear H
                                have H := H1
                                clear H1
                                have H' := Aside0.mk H
                                clear H
                                have hnb53 := NB507_469.out
                                have hnc53 := NB469_507.out
                                have hnb54 := NB507_470.out
                                have hnc54 := NB470_507.out
                                have hnb55 := NB507_479.out
                                have hnc55 := NB479_507.out
                                have hcz56_0 : w25.cell? ⟨gb507, 0, none⟩ = some (.int .i64 0) := (blk_cell BK507.out 0).trans rfl
                                have hcz56_1 : w25.cell? ⟨gb507, 1, none⟩ = some (.bool false) := (blk_cell BK507.out 1).trans rfl
                                have hcz56_2 : w25.cell? ⟨gb507, 2, none⟩ = some (.bool false) := (blk_cell BK507.out 2).trans rfl
                                have hfz56_0 := fun i_ => blk_frozen BK507.out i_
                                go_wp2
                                go_meet
                                case rel => exact ⟨_, (decide (t480 < 0)), (by first | rfl | (simp; done) | (simp [*]; done)), H', ⟨by have := HJ3.out; have := HK2.out; first | omega | exact Nat.le_refl _⟩, ⟨by (with_reducible repeat (first | apply Kd.R_alloc | apply Kd.R_drewN | apply Kd.R_drew)); exact Kd.R_mono (Kd.R_far (p := ⟨gb507, 2, none⟩) (Kd.R_far (p := ⟨gb507, 1, none⟩) (Kd.R_far (p := ⟨gb507, 0, none⟩) (Kd.R_types HO503.out BK507.out (by decide)) (fun _ hk => hk.2) (.int .i64 t480)) (fun _ hk => hk.2) (.bool false)) (fun _ hk => hk.2) (.bool false)) (fun _ hk => trivial)⟩, ⟨by refine bfq7 NB469_507.out ?_; refine bfq7 NB469_507.out ?_; refine bfq7 NB469_507.out ?_; exact bpq7 BK469.out⟩, ⟨by refine bfq7 NB470_507.out ?_; refine bfq7 NB470_507.out ?_; refine bfq7 NB470_507.out ?_; exact bpq7 BK470.out⟩, ⟨by refine bfq7 NB479_507.out ?_; refine bfq7 NB479_507.out ?_; refine bfq7 NB479_507.out ?_; exact bpq7 BK479.out⟩, ⟨by refine bzq7 ?_; refine btq7 (i := 2) ?_; refine btq7 (i := 1) ?_; refine btq7 (i := 0) ?_; exact ⟨_, bpq7 BK507.out, rfl⟩⟩, ⟨(bbq7 HB.out)⟩⟩
                        · replace c32 := Bool.eq_false_iff.mpr c32
                          subst c32
                          have H1 : (if (t481 != true) = true then (terracelaw15_DetectGroups.j2 k2 a1 (wrap64 (x6_2 + (ji15))) x7_2 false l0 (l0.length : Int) x33_2 true t484 t485 t486 t487 t488 t489 t490 t491 t492 t493 t494 t495 t496 t497 t498 t499 t504 t505 t506 t500 t501 t480 t481 t482) else (if t481 = true then (if (t482 != (!false)) = true then (terracelaw15_DetectGroups.j2 k2 a1 (wrap64 (x6_2 + (ji15))) x7_2 false l0 (l0.length : Int) x33_2 true t484 t485 t486 t487 t488 t489 t490 t491 t492 t493 t494 t495 t496 t497 t498 t499 t504 t505 t506 t500 t501 t480 t481 t482) else (terracelaw15_DetectGroups.j2 k2 a1 (wrap64 (x6_2 + (ji15))) x7_2 false l0 (l0.length : Int) x33_2 (decide (t480 < 0)) t484 t485 t486 t487 t488 t489 t490 t491 t492 t493 t494 t495 t496 t497 t498 t499 t504 t505 t506 t500 t501 t480 t481 t482)) else (if (t482 != false) = true then (terracelaw15_DetectGroups.j2 k2 a1 (wrap64 (x6_2 + (ji15))) x7_2 false l0 (l0.length : Int) x33_2 true t484 t485 t486 t487 t488 t489 t490 t491 t492 t493 t494 t495 t496 t497 t498 t499 t504 t505 t506 t500 t501 t480 t481 t482) else (terracelaw15_DetectGroups.j2 k2 a1 (wrap64 (x6_2 + (ji15))) x7_2 false l0 (l0.length : Int) x33_2 (decide (t480 < 0)) t484 t485 t486 t487 t488 t489 t490 t491 t492 t493 t494 t495 t496 t497 t498 t499 t504 t505 t506 t500 t501 t480 t481 t482)))) = some r := by rw [if_neg (show ¬ (false = true) by decide)] at H; exact H
                          clear H
                          have H := H1
                          clear H1
                          have H1 : (if t481 = true then (if t481 = true then (if (t482 != (!false)) = true then (terracelaw15_DetectGroups.j2 k2 a1 (wrap64 (x6_2 + (ji15))) x7_2 false l0 (l0.length : Int) x33_2 true t484 t485 t486 t487 t488 t489 t490 t491 t492 t493 t494 t495 t496 t497 t498 t499 t504 t505 t506 t500 t501 t480 t481 t482) else (terracelaw15_DetectGroups.j2 k2 a1 (wrap64 (x6_2 + (ji15))) x7_2 false l0 (l0.length : Int) x33_2 (decide (t480 < 0)) t484 t485 t486 t487 t488 t489 t490 t491 t492 t493 t494 t495 t496 t497 t498 t499 t504 t505 t506 t500 t501 t480 t481 t482)) else (if (t482 != false) = true then (terracelaw15_DetectGroups.j2 k2 a1 (wrap64 (x6_2 + (ji15))) x7_2 false l0 (l0.length : Int) x33_2 true t484 t485 t486 t487 t488 t489 t490 t491 t492 t493 t494 t495 t496 t497 t498 t499 t504 t505 t506 t500 t501 t480 t481 t482) else (terracelaw15_DetectGroups.j2 k2 a1 (wrap64 (x6_2 + (ji15))) x7_2 false l0 (l0.length : Int) x33_2 (decide (t480 < 0)) t484 t485 t486 t487 t488 t489 t490 t491 t492 t493 t494 t495 t496 t497 t498 t499 t504 t505 t506 t500 t501 t480 t481 t482))) else (terracelaw15_DetectGroups.j2 k2 a1 (wrap64 (x6_2 + (ji15))) x7_2 false l0 (l0.length : Int) x33_2 true t484 t485 t486 t487 t488 t489 t490 t491 t492 t493 t494 t495 t496 t497 t498 t499 t504 t505 t506 t500 t501 t480 t481 t482)) = some r := by (revert H; cases t481 <;> intro H <;> exact H)
                          clear H
                          have H := H1
                          clear H1
                          by_cases c57 : t481 = true
                          · subst c57
                            have H1 : (if true = true then (if (t482 != (!false)) = true then (terracelaw15_DetectGroups.j2 k2 a1 (wrap64 (x6_2 + (ji15))) x7_2 false l0 (l0.length : Int) x33_2 true t484 t485 t486 t487 t488 t489 t490 t491 t492 t493 t494 t495 t496 t497 t498 t499 t504 t505 t506 t500 t501 t480 true t482) else (terracelaw15_DetectGroups.j2 k2 a1 (wrap64 (x6_2 + (ji15))) x7_2 false l0 (l0.length : Int) x33_2 (decide (t480 < 0)) t484 t485 t486 t487 t488 t489 t490 t491 t492 t493 t494 t495 t496 t497 t498 t499 t504 t505 t506 t500 t501 t480 true t482)) else (if (t482 != false) = true then (terracelaw15_DetectGroups.j2 k2 a1 (wrap64 (x6_2 + (ji15))) x7_2 false l0 (l0.length : Int) x33_2 true t484 t485 t486 t487 t488 t489 t490 t491 t492 t493 t494 t495 t496 t497 t498 t499 t504 t505 t506 t500 t501 t480 true t482) else (terracelaw15_DetectGroups.j2 k2 a1 (wrap64 (x6_2 + (ji15))) x7_2 false l0 (l0.length : Int) x33_2 (decide (t480 < 0)) t484 t485 t486 t487 t488 t489 t490 t491 t492 t493 t494 t495 t496 t497 t498 t499 t504 t505 t506 t500 t501 t480 true t482))) = some r := by rw [if_pos rfl] at H; exact H
                            clear H
                            have H := H1
                            clear H1
                            have H1 : (if (t482 != (!false)) = true then (terracelaw15_DetectGroups.j2 k2 a1 (wrap64 (x6_2 + (ji15))) x7_2 false l0 (l0.length : Int) x33_2 true t484 t485 t486 t487 t488 t489 t490 t491 t492 t493 t494 t495 t496 t497 t498 t499 t504 t505 t506 t500 t501 t480 true t482) else (terracelaw15_DetectGroups.j2 k2 a1 (wrap64 (x6_2 + (ji15))) x7_2 false l0 (l0.length : Int) x33_2 (decide (t480 < 0)) t484 t485 t486 t487 t488 t489 t490 t491 t492 t493 t494 t495 t496 t497 t498 t499 t504 t505 t506 t500 t501 t480 true t482)) = some r := by rw [if_pos rfl] at H; exact H
                            clear H
                            have H := H1
                            clear H1
                            have H1 : (if t482 = true then (terracelaw15_DetectGroups.j2 k2 a1 (wrap64 (x6_2 + (ji15))) x7_2 false l0 (l0.length : Int) x33_2 (decide (t480 < 0)) t484 t485 t486 t487 t488 t489 t490 t491 t492 t493 t494 t495 t496 t497 t498 t499 t504 t505 t506 t500 t501 t480 true t482) else (terracelaw15_DetectGroups.j2 k2 a1 (wrap64 (x6_2 + (ji15))) x7_2 false l0 (l0.length : Int) x33_2 true t484 t485 t486 t487 t488 t489 t490 t491 t492 t493 t494 t495 t496 t497 t498 t499 t504 t505 t506 t500 t501 t480 true t482)) = some r := by (revert H; cases t482 <;> intro H <;> exact H)
                            clear H
                            have H := H1
                            clear H1
                            by_cases c58 : t482 = true
                            · subst c58
                              have H1 : (terracelaw15_DetectGroups.j2 k2 a1 (wrap64 (x6_2 + (ji15))) x7_2 false l0 (l0.length : Int) x33_2 (decide (t480 < 0)) t484 t485 t486 t487 t488 t489 t490 t491 t492 t493 t494 t495 t496 t497 t498 t499 t504 t505 t506 t500 t501 t480 true true) = some r := by rw [if_pos rfl] at H; exact H
                              clear H
                              have H := H1
                              clear H1
                              have H' := Aside0.mk H
                              clear H
                              have hnb59 := NB507_469.out
                              have hnc59 := NB469_507.out
                              have hnb60 := NB507_470.out
                              have hnc60 := NB470_507.out
                              have hnb61 := NB507_479.out
                              have hnc61 := NB479_507.out
                              have hcz62_0 : w25.cell? ⟨gb507, 0, none⟩ = some (.int .i64 0) := (blk_cell BK507.out 0).trans rfl
                              have hcz62_1 : w25.cell? ⟨gb507, 1, none⟩ = some (.bool false) := (blk_cell BK507.out 1).trans rfl
                              have hcz62_2 : w25.cell? ⟨gb507, 2, none⟩ = some (.bool false) := (blk_cell BK507.out 2).trans rfl
                              have hfz62_0 := fun i_ => blk_frozen BK507.out i_
                              go_wp2
                              go_meet
                              case rel => exact ⟨_, (decide (t480 < 0)), (by first | rfl | (simp; done) | (simp [*]; done)), H', ⟨by have := HJ3.out; have := HK2.out; first | omega | exact Nat.le_refl _⟩, ⟨by (with_reducible repeat (first | apply Kd.R_alloc | apply Kd.R_drewN | apply Kd.R_drew)); exact Kd.R_mono (Kd.R_far (p := ⟨gb507, 2, none⟩) (Kd.R_far (p := ⟨gb507, 1, none⟩) (Kd.R_far (p := ⟨gb507, 0, none⟩) (Kd.R_types HO503.out BK507.out (by decide)) (fun _ hk => hk.2) (.int .i64 t480)) (fun _ hk => hk.2) (.bool true)) (fun _ hk => hk.2) (.bool true)) (fun _ hk => trivial)⟩, ⟨by refine bfq7 NB469_507.out ?_; refine bfq7 NB469_507.out ?_; refine bfq7 NB469_507.out ?_; exact bpq7 BK469.out⟩, ⟨by refine bfq7 NB470_507.out ?_; refine bfq7 NB470_507.out ?_; refine bfq7 NB470_507.out ?_; exact bpq7 BK470.out⟩, ⟨by refine bfq7 NB479_507.out ?_; refine bfq7 NB479_507.out ?_; refine bfq7 NB479_507.out ?_; exact bpq7 BK479.out⟩, ⟨by refine bzq7 ?_; refine btq7 (i := 2) ?_; refine btq7 (i := 1) ?_; refine btq7 (i := 0) ?_; exact ⟨_, bpq7 BK507.out, rfl⟩⟩, ⟨(bbq7 HB.out)⟩⟩
                            · replace c58 := Bool.eq_false_iff.mpr c58
                              subst c58
                              have H1 : (terracelaw15_DetectGroups.j2 k2 a1 (wrap64 (x6_2 + (ji15))) x7_2 false l0 (l0.length : Int) x33_2 true t484 t485 t486 t487 t488 t489 t490 t491 t492 t493 t494 t495 t496 t497 t498 t499 t504 t505 t506 t500 t501 t480 true false) = some r := by rw [if_neg (show ¬ (false = true) by decide)] at H; exact H
                              clear H
                              have H := H1
                              clear H1
                              have H' := Aside0.mk H
                              clear H
                              have hnb63 := NB507_469.out
                              have hnc63 := NB469_507.out
                              have hnb64 := NB507_470.out
                              have hnc64 := NB470_507.out
                              have hnb65 := NB507_479.out
                              have hnc65 := NB479_507.out
                              have hcz66_0 : w25.cell? ⟨gb507, 0, none⟩ = some (.int .i64 0) := (blk_cell BK507.out 0).trans rfl
                              have hcz66_1 : w25.cell? ⟨gb507, 1, none⟩ = some (.bool false) := (blk_cell BK507.out 1).trans rfl
                              have hcz66_2 : w25.cell? ⟨gb507, 2, none⟩ = some (.bool false) := (blk_cell BK507.out 2).trans rfl
                              have hfz66_0 := fun i_ => blk_frozen BK507.out i_
                              go_wp2
                              go_meet
                              case rel => exact ⟨_, (true), (by first | rfl | (simp; done) | (simp [*]; done)), H', ⟨by have := HJ3.out; have := HK2.out; first | omega | exact Nat.le_refl _⟩, ⟨by (with_reducible repeat (first | apply Kd.R_alloc | apply Kd.R_drewN | apply Kd.R_drew)); exact Kd.R_mono (Kd.R_far (p := ⟨gb507, 2, none⟩) (Kd.R_far (p := ⟨gb507, 1, none⟩) (Kd.R_far (p := ⟨gb507, 0, none⟩) (Kd.R_types HO503.out BK507.out (by decide)) (fun _ hk => hk.2) (.int .i64 t480)) (fun _ hk => hk.2) (.bool true)) (fun _ hk => hk.2) (.bool false)) (fun _ hk => trivial)⟩, ⟨by refine bfq7 NB469_507.out ?_; refine bfq7 NB469_507.out ?_; refine bfq7 NB469_507.out ?_; exact bpq7 BK469.out⟩, ⟨by refine bfq7 NB470_507.out ?_; refine bfq7 NB470_507.out ?_; refine bfq7 NB470_507.out ?_; exact bpq7 BK470.out⟩, ⟨by refine bfq7 NB479_507.out ?_; refine bfq7 NB479_507.out ?_; refine bfq7 NB479_507.out ?_; exact bpq7 BK479.out⟩, ⟨by refine bzq7 ?_; refine btq7 (i := 2) ?_; refine btq7 (i := 1) ?_; refine btq7 (i := 0) ?_; exact ⟨_, bpq7 BK507.out, rfl⟩⟩, ⟨(bbq7 HB.out)⟩⟩
                          · replace c57 := Bool.eq_false_iff.mpr c57
                            subst c57
                            have H1 : (terracelaw15_DetectGroups.j2 k2 a1 (wrap64 (x6_2 + (ji15))) x7_2 false l0 (l0.length : Int) x33_2 true t484 t485 t486 t487 t488 t489 t490 t491 t492 t493 t494 t495 t496 t497 t498 t499 t504 t505 t506 t500 t501 t480 false t482) = some r := by rw [if_neg (show ¬ (false = true) by decide)] at H; exact H
                            clear H
                            have H := H1
                            clear H1
                            have H' := Aside0.mk H
                            clear H
                            have hnb67 := NB507_469.out
                            have hnc67 := NB469_507.out
                            have hnb68 := NB507_470.out
                            have hnc68 := NB470_507.out
                            have hnb69 := NB507_479.out
                            have hnc69 := NB479_507.out
                            have hcz70_0 : w25.cell? ⟨gb507, 0, none⟩ = some (.int .i64 0) := (blk_cell BK507.out 0).trans rfl
                            have hcz70_1 : w25.cell? ⟨gb507, 1, none⟩ = some (.bool false) := (blk_cell BK507.out 1).trans rfl
                            have hcz70_2 : w25.cell? ⟨gb507, 2, none⟩ = some (.bool false) := (blk_cell BK507.out 2).trans rfl
                            have hfz70_0 := fun i_ => blk_frozen BK507.out i_
                            go_wp2
                            go_meet
                            case rel => exact ⟨_, (true), (by first | rfl | (simp; done) | (simp [*]; done)), H', ⟨by have := HJ3.out; have := HK2.out; first | omega | exact Nat.le_refl _⟩, ⟨by (with_reducible repeat (first | apply Kd.R_alloc | apply Kd.R_drewN | apply Kd.R_drew)); exact Kd.R_mono (Kd.R_far (p := ⟨gb507, 2, none⟩) (Kd.R_far (p := ⟨gb507, 1, none⟩) (Kd.R_far (p := ⟨gb507, 0, none⟩) (Kd.R_types HO503.out BK507.out (by decide)) (fun _ hk => hk.2) (.int .i64 t480)) (fun _ hk => hk.2) (.bool false)) (fun _ hk => hk.2) (.bool t482)) (fun _ hk => trivial)⟩, ⟨by refine bfq7 NB469_507.out ?_; refine bfq7 NB469_507.out ?_; refine bfq7 NB469_507.out ?_; exact bpq7 BK469.out⟩, ⟨by refine bfq7 NB470_507.out ?_; refine bfq7 NB470_507.out ?_; refine bfq7 NB470_507.out ?_; exact bpq7 BK470.out⟩, ⟨by refine bfq7 NB479_507.out ?_; refine bfq7 NB479_507.out ?_; refine bfq7 NB479_507.out ?_; exact bpq7 BK479.out⟩, ⟨by refine bzq7 ?_; refine btq7 (i := 2) ?_; refine btq7 (i := 1) ?_; refine btq7 (i := 0) ?_; exact ⟨_, bpq7 BK507.out, rfl⟩⟩, ⟨(bbq7 HB.out)⟩⟩
                      · rw [if_neg c31] at H
                        have c31b0 : decide (0 < t480) = false := decide_eq_false c31
                        clear c31
                        have H1 : (if t481 = true then (terracelaw15_DetectGroups.j2 k2 a1 (wrap64 (x6_2 + (ji15))) x7_2 x8_2 l0 (l0.length : Int) x33_2 true t484 t485 t486 t487 t488 t489 t490 t491 t492 t493 t494 t495 t496 t497 t498 t499 t504 t505 t506 t500 t501 t480 t481 t482) else (if t481 = true then (if (t482 != (!x8_2)) = true then (terracelaw15_DetectGroups.j2 k2 a1 (wrap64 (x6_2 + (ji15))) x7_2 x8_2 l0 (l0.length : Int) x33_2 true t484 t485 t486 t487 t488 t489 t490 t491 t492 t493 t494 t495 t496 t497 t498 t499 t504 t505 t506 t500 t501 t480 t481 t482) else (terracelaw15_DetectGroups.j2 k2 a1 (wrap64 (x6_2 + (ji15))) x7_2 x8_2 l0 (l0.length : Int) x33_2 (decide (t480 < 0)) t484 t485 t486 t487 t488 t489 t490 t491 t492 t493 t494 t495 t496 t497 t498 t499 t504 t505 t506 t500 t501 t480 t481 t482)) else (if (t482 != false) = true then (terracelaw15_DetectGroups.j2 k2 a1 (wrap64 (x6_2 + (ji15))) x7_2 x8_2 l0 (l0.length : Int) x33_2 true t484 t485 t486 t487 t488 t489 t490 t491 t492 t493 t494 t495 t496 t497 t498 t499 t504 t505 t506 t500 t501 t480 t481 t482) else (terracelaw15_DetectGroups.j2 k2 a1 (wrap64 (x6_2 + (ji15))) x7_2 x8_2 l0 (l0.length : Int) x33_2 (decide (t480 < 0)) t484 t485 t486 t487 t488 t489 t490 t491 t492 t493 t494 t495 t496 t497 t498 t499 t504 t505 t506 t500 t501 t480 t481 t482)))) = some r := by (revert H; cases t481 <;> intro H <;> exact H)
                        clear H
                        have H := H1
                        clear H1
                        by_cases c71 : t481 = true
                        · subst c71
                          have H1 : (terracelaw15_DetectGroups.j2 k2 a1 (wrap64 (x6_2 + (ji15))) x7_2 x8_2 l0 (l0.length : Int) x33_2 true t484 t485 t486 t487 t488 t489 t490 t491 t492 t493 t494 t495 t496 t497 t498 t499 t504 t505 t506 t500 t501 t480 true t482) = some r := by rw [if_pos rfl] at H; exact H
                          clear H
                          have H := H1
                          clear H1
                          have H' := Aside0.mk H
                          clear H
                          have hnb72 := NB507_469.out
                          have hnc72 := NB469_507.out
                          have hnb73 := NB507_470.out
                          have hnc73 := NB470_507.out
                          have hnb74 := NB507_479.out
                          have hnc74 := NB479_507.out
                          have hcz75_0 : w25.cell? ⟨gb507, 0, none⟩ = some (.int .i64 0) := (blk_cell BK507.out 0).trans rfl
                          have hcz75_1 : w25.cell? ⟨gb507, 1, none⟩ = some (.bool false) := (blk_cell BK507.out 1).trans rfl
                          have hcz75_2 : w25.cell? ⟨gb507, 2, none⟩ = some (.bool false) := (blk_cell BK507.out 2).trans rfl
                          have hfz75_0 := fun i_ => blk_frozen BK507.out i_
                          go_wp2
                          go_meet
                          case rel => exact ⟨_, (true), (by first | rfl | (simp; done) | (simp [*]; done)), H', ⟨by have := HJ3.out; have := HK2.out; first | omega | exact Nat.le_refl _⟩, ⟨by (with_reducible repeat (first | apply Kd.R_alloc | apply Kd.R_drewN | apply Kd.R_drew)); exact Kd.R_mono (Kd.R_far (p := ⟨gb507, 2, none⟩) (Kd.R_far (p := ⟨gb507, 1, none⟩) (Kd.R_far (p := ⟨gb507, 0, none⟩) (Kd.R_types HO503.out BK507.out (by decide)) (fun _ hk => hk.2) (.int .i64 t480)) (fun _ hk => hk.2) (.bool true)) (fun _ hk => hk.2) (.bool t482)) (fun _ hk => trivial)⟩, ⟨by refine bfq7 NB469_507.out ?_; refine bfq7 NB469_507.out ?_; refine bfq7 NB469_507.out ?_; exact bpq7 BK469.out⟩, ⟨by refine bfq7 NB470_507.out ?_; refine bfq7 NB470_507.out ?_; refine bfq7 NB470_507.out ?_; exact bpq7 BK470.out⟩, ⟨by refine bfq7 NB479_507.out ?_; refine bfq7 NB479_507.out ?_; refine bfq7 NB479_507.out ?_; exact bpq7 BK479.out⟩, ⟨by refine bzq7 ?_; refine btq7 (i := 2) ?_; refine btq7 (i := 1) ?_; refine btq7 (i := 0) ?_; exact ⟨_, bpq7 BK507.out, rfl⟩⟩, ⟨(bbq7 HB.out)⟩⟩
                        · replace c71 := Bool.eq_false_iff.mpr c71
                          subst c71
                          have H1 : (if false = true then (if (t482 != (!x8_2)) = true then (terracelaw15_DetectGroups.j2 k2 a1 (wrap64 (x6_2 + (ji15))) x7_2 x8_2 l0 (l0.length : Int) x33_2 true t484 t485 t486 t487 t488 t489 t490 t491 t492 t493 t494 t495 t496 t497 t498 t499 t504 t505 t506 t500 t501 t480 false t482) else (terracelaw15_DetectGroups.j2 k2 a1 (wrap64 (x6_2 + (ji15))) x7_2 x8_2 l0 (l0.length : Int) x33_2 (decide (t480 < 0)) t484 t485 t486 t487 t488 t489 t490 t491 t492 t493 t494 t495 t496 t497 t498 t499 t504 t505 t506 t500 t501 t480 false t482)) else (if (t482 != false) = true then (terracelaw15_DetectGroups.j2 k2 a1 (wrap64 (x6_2 + (ji15))) x7_2 x8_2 l0 (l0.length : Int) x33_2 true t484 t485 t486 t487 t488 t489 t490 t491 t492 t493 t494 t495 t496 t497 t498 t499 t504 t505 t506 t500 t501 t480 false t482) else (terracelaw15_DetectGroups.j2 k2 a1 (wrap64 (x6_2 + (ji15))) x7_2 x8_2 l0 (l0.length : Int) x33_2 (decide (t480 < 0)) t484 t485 t486 t487 t488 t489 t490 t491 t492 t493 t494 t495 t496 t497 t498 t499 t504 t505 t506 t500 t501 t480 false t482))) = some r := by rw [if_neg (show ¬ (false = true) by decide)] at H; exact H
                          clear H
                          have H := H1
                          clear H1
                          have H1 : (if (t482 != false) = true then (terracelaw15_DetectGroups.j2 k2 a1 (wrap64 (x6_2 + (ji15))) x7_2 x8_2 l0 (l0.length : Int) x33_2 true t484 t485 t486 t487 t488 t489 t490 t491 t492 t493 t494 t495 t496 t497 t498 t499 t504 t505 t506 t500 t501 t480 false t482) else (terracelaw15_DetectGroups.j2 k2 a1 (wrap64 (x6_2 + (ji15))) x7_2 x8_2 l0 (l0.length : Int) x33_2 (decide (t480 < 0)) t484 t485 t486 t487 t488 t489 t490 t491 t492 t493 t494 t495 t496 t497 t498 t499 t504 t505 t506 t500 t501 t480 false t482)) = some r := by rw [if_neg (show ¬ (false = true) by decide)] at H; exact H
                          clear H
                          have H := H1
                          clear H1
                          have H1 : (if t482 = true then (terracelaw15_DetectGroups.j2 k2 a1 (wrap64 (x6_2 + (ji15))) x7_2 x8_2 l0 (l0.length : Int) x33_2 true t484 t485 t486 t487 t488 t489 t490 t491 t492 t493 t494 t495 t496 t497 t498 t499 t504 t505 t506 t500 t501 t480 false t482) else (terracelaw15_DetectGroups.j2 k2 a1 (wrap64 (x6_2 + (ji15))) x7_2 x8_2 l0 (l0.length : Int) x33_2 (decide (t480 < 0)) t484 t485 t486 t487 t488 t489 t490 t491 t492 t493 t494 t495 t496 t497 t498 t499 t504 t505 t506 t500 t501 t480 false t482)) = some r := by (revert H; cases t482 <;> intro H <;> exact H)
                          clear H
                          have H := H1
                          clear H1
                          by_cases c76 : t482 = true
                          · subst c76
                            have H1 : (terracelaw15_DetectGroups.j2 k2 a1 (wrap64 (x6_2 + (ji15))) x7_2 x8_2 l0 (l0.length : Int) x33_2 true t484 t485 t486 t487 t488 t489 t490 t491 t492 t493 t494 t495 t496 t497 t498 t499 t504 t505 t506 t500 t501 t480 false true) = some r := by rw [if_pos rfl] at H; exact H
                            clear H
                            have H := H1
                            clear H1
                            have H' := Aside0.mk H
                            clear H
                            have hnb77 := NB507_469.out
                            have hnc77 := NB469_507.out
                            have hnb78 := NB507_470.out
                            have hnc78 := NB470_507.out
                            have hnb79 := NB507_479.out
                            have hnc79 := NB479_507.out
                            have hcz80_0 : w25.cell? ⟨gb507, 0, none⟩ = some (.int .i64 0) := (blk_cell BK507.out 0).trans rfl
                            have hcz80_1 : w25.cell? ⟨gb507, 1, none⟩ = some (.bool false) := (blk_cell BK507.out 1).trans rfl
                            have hcz80_2 : w25.cell? ⟨gb507, 2, none⟩ = some (.bool false) := (blk_cell BK507.out 2).trans rfl
                            have hfz80_0 := fun i_ => blk_frozen BK507.out i_
                            go_wp2
                            go_meet
                            case rel => exact ⟨_, (true), (by first | rfl | (simp; done) | (simp [*]; done)), H', ⟨by have := HJ3.out; have := HK2.out; first | omega | exact Nat.le_refl _⟩, ⟨by (with_reducible repeat (first | apply Kd.R_alloc | apply Kd.R_drewN | apply Kd.R_drew)); exact Kd.R_mono (Kd.R_far (p := ⟨gb507, 2, none⟩) (Kd.R_far (p := ⟨gb507, 1, none⟩) (Kd.R_far (p := ⟨gb507, 0, none⟩) (Kd.R_types HO503.out BK507.out (by decide)) (fun _ hk => hk.2) (.int .i64 t480)) (fun _ hk => hk.2) (.bool false)) (fun _ hk => hk.2) (.bool true)) (fun _ hk => trivial)⟩, ⟨by refine bfq7 NB469_507.out ?_; refine bfq7 NB469_507.out ?_; refine bfq7 NB469_507.out ?_; exact bpq7 BK469.out⟩, ⟨by refine bfq7 NB470_507.out ?_; refine bfq7 NB470_507.out ?_; refine bfq7 NB470_507.out ?_; exact bpq7 BK470.out⟩, ⟨by refine bfq7 NB479_507.out ?_; refine bfq7 NB479_507.out ?_; refine bfq7 NB479_507.out ?_; exact bpq7 BK479.out⟩, ⟨by refine bzq7 ?_; refine btq7 (i := 2) ?_; refine btq7 (i := 1) ?_; refine btq7 (i := 0) ?_; exact ⟨_, bpq7 BK507.out, rfl⟩⟩, ⟨(bbq7 HB.out)⟩⟩
                          · replace c76 := Bool.eq_false_iff.mpr c76
                            subst c76
                            have H1 : (terracelaw15_DetectGroups.j2 k2 a1 (wrap64 (x6_2 + (ji15))) x7_2 x8_2 l0 (l0.length : Int) x33_2 (decide (t480 < 0)) t484 t485 t486 t487 t488 t489 t490 t491 t492 t493 t494 t495 t496 t497 t498 t499 t504 t505 t506 t500 t501 t480 false false) = some r := by rw [if_neg (show ¬ (false = true) by decide)] at H; exact H
                            clear H
                            have H := H1
                            clear H1
                            have H' := Aside0.mk H
                            clear H
                            have hnb81 := NB507_469.out
                            have hnc81 := NB469_507.out
                            have hnb82 := NB507_470.out
                            have hnc82 := NB470_507.out
                            have hnb83 := NB507_479.out
                            have hnc83 := NB479_507.out
                            have hcz84_0 : w25.cell? ⟨gb507, 0, none⟩ = some (.int .i64 0) := (blk_cell BK507.out 0).trans rfl
                            have hcz84_1 : w25.cell? ⟨gb507, 1, none⟩ = some (.bool false) := (blk_cell BK507.out 1).trans rfl
                            have hcz84_2 : w25.cell? ⟨gb507, 2, none⟩ = some (.bool false) := (blk_cell BK507.out 2).trans rfl
                            have hfz84_0 := fun i_ => blk_frozen BK507.out i_
                            go_wp2
                            go_meet
                            case rel => exact ⟨_, (decide (t480 < 0)), (by first | rfl | (simp; done) | (simp [*]; done)), H', ⟨by have := HJ3.out; have := HK2.out; first | omega | exact Nat.le_refl _⟩, ⟨by (with_reducible repeat (first | apply Kd.R_alloc | apply Kd.R_drewN | apply Kd.R_drew)); exact Kd.R_mono (Kd.R_far (p := ⟨gb507, 2, none⟩) (Kd.R_far (p := ⟨gb507, 1, none⟩) (Kd.R_far (p := ⟨gb507, 0, none⟩) (Kd.R_types HO503.out BK507.out (by decide)) (fun _ hk => hk.2) (.int .i64 t480)) (fun _ hk => hk.2) (.bool false)) (fun _ hk => hk.2) (.bool false)) (fun _ hk => trivial)⟩, ⟨by refine bfq7 NB469_507.out ?_; refine bfq7 NB469_507.out ?_; refine bfq7 NB469_507.out ?_; exact bpq7 BK469.out⟩, ⟨by refine bfq7 NB470_507.out ?_; refine bfq7 NB470_507.out ?_; refine bfq7 NB470_507.out ?_; exact bpq7 BK470.out⟩, ⟨by refine bfq7 NB479_507.out ?_; refine bfq7 NB479_507.out ?_; refine bfq7 NB479_507.out ?_; exact bpq7 BK479.out⟩, ⟨by refine bzq7 ?_; refine btq7 (i := 2) ?_; refine btq7 (i := 1) ?_; refine btq7 (i := 0) ?_; exact ⟨_, bpq7 BK507.out, rfl⟩⟩, ⟨(bbq7 HB.out)⟩⟩
                    · rw [if_neg c30] at H
                      have c30b0 : (t483 == 0) = false := beq_eq_false_iff_ne.mpr c30
                      have c30b1 : (t483 != 0) = true := bne_iff_ne.mpr c30
                      (first | rw [c30b0] | (simp only [i64_w, i32_w]; rw [c30b0]) | skip)
                      have H' := Aside0.mk H
                      clear H
                      go_wp2
                      go_meet
                      case rel => exact ⟨_, (true), (by first | rfl | (simp; done) | (simp [*]; done)), H', ⟨by have := HJ3.out; have := HK2.out; first | omega | exact Nat.le_refl _⟩, ⟨by (with_reducible repeat (first | apply Kd.R_alloc | apply Kd.R_drewN | apply Kd.R_drew)); exact Kd.R_mono (Kd.R_far (p := ⟨gb507, 2, none⟩) (Kd.R_far (p := ⟨gb507, 1, none⟩) (Kd.R_far (p := ⟨gb507, 0, none⟩) (Kd.R_types HO503.out BK507.out (by decide)) (fun _ hk => hk.2) (.int .i64 t480)) (fun _ hk => hk.2) (.bool t481)) (fun _ hk => hk.2) (.bool t482)) (fun _ hk => trivial)⟩, ⟨by refine bfq7 NB469_507.out ?_; refine bfq7 NB469_507.out ?_; refine bfq7 NB469_507.out ?_; exact bpq7 BK469.out⟩, ⟨by refine bfq7 NB470_507.out ?_; refine bfq7 NB470_507.out ?_; refine bfq7 NB470_507.out ?_; exact bpq7 BK470.out⟩, ⟨by refine bfq7 NB479_507.out ?_; refine bfq7 NB479_507.out ?_; refine bfq7 NB479_507.out ?_; exact bpq7 BK479.out⟩, ⟨by refine bzq7 ?_; refine btq7 (i := 2) ?_; refine btq7 (i := 1) ?_; refine btq7 (i := 0) ?_; exact ⟨_, bpq7 BK507.out, rfl⟩⟩, ⟨(bbq7 HB.out)⟩⟩
                  case rest =>
                    clear HC17
                    try clear c1
                    try clear c2
                    try clear p2
                    try clear c3
                    try clear c4
                    try clear p4
                    try clear q4
                    try clear hx4
                    try clear c5
                    try clear c6
                    try clear c6b0
                    try clear c6b1
                    try clear p6
                    try clear c7
                    try clear c8
                    try clear c10
                    try clear c11
                    try clear c11b0
                    try clear c12
                    try clear c12b0
                    try clear c13
                    try clear c13b0
                    try clear c19
                    try clear c20
                    try clear c26
                    try clear c27
                    try clear c28
                    try clear c30
                    try clear c30b0
                    try clear c30b1
                    try clear c31
                    try clear c31b0
                    try clear c32
                    try clear c33
                    try clear c33b0
                    try clear c33b1
                    try clear c33b2
                    try clear c34
                    try clear c35
                    try clear c36
                    try clear c38
                    try clear c39
                    try clear c40
                    try clear c41
                    try clear c42
                    try clear c44
                    try clear c45
                    try clear c46
                    try clear p47
                    try clear q47
                    try clear hx47
                    try clear c48
                    try clear c49
                    try clear c50
                    try clear c51
                    try clear c53
                    try clear c54
                    try clear c55
                    try clear c57
                    try clear c58
                    try clear c59
                    try clear c60
                    try clear c61
                    try clear c63
                    try clear c64
                    try clear p64
                    try clear c65
                    try clear c67
                    try clear c68
                    try clear c69
                    try clear c71
                    try clear c72
                    try clear c73
                    try clear c74
                    try clear c76
                    try clear c77
                    try clear c78
                    try clear c79
                    try clear c81
                    try clear c82
                    try clear c83
                    try clear hcz21_0
                    try clear hcz21_1
                    try clear hcz21_2
                    try clear hcz21_3
                    try clear hcz21_4
                    try clear hcz23_0
                    try clear hcz23_1
                    try clear hcz23_2
                    try clear hcz23_3
                    try clear hcz23_4
                    try clear hcz29_0
                    try clear hcz29_1
                    try clear hcz29_2
                    try clear hcz37_0
                    try clear hcz37_1
                    try clear hcz37_2
                    try clear hcz43_0
                    try clear hcz43_1
                    try clear hcz43_2
                    try clear hcz47_0
                    try clear hcz47_1
                    try clear hcz47_2
                    try clear hcz52_0
                    try clear hcz52_1
                    try clear hcz52_2
                    try clear hcz56_0
                    try clear hcz56_1
                    try clear hcz56_2
                    try clear hcz62_0
                    try clear hcz62_1
                    try clear hcz62_2
                    try clear hcz66_0
                    try clear hcz66_1
                    try clear hcz66_2
                    try clear hcz70_0
                    try clear hcz70_1
                    try clear hcz70_2
                    try clear hcz75_0
                    try clear hcz75_1
                    try clear hcz75_2
                    try clear hcz80_0
                    try clear hcz80_1
                    try clear hcz80_2
                    try clear hcz84_0
                    try clear hcz84_1
                    try clear hcz84_2
                    try clear hfz21_0
                    try clear hfz21_1
                    try clear hfz21_2
                    try clear hfz21_3
                    try clear hfz21_4
                    try clear hfz23_0
                    try clear hfz23_1
                    try clear hfz23_2
                    try clear hfz23_3
                    try clear hfz23_4
                    try clear hfz29_0
                    try clear hfz29_1
                    try clear hfz29_2
                    try clear hfz37_0
                    try clear hfz37_1
                    try clear hfz37_2
                    try clear hfz43_0
                    try clear hfz43_1
                    try clear hfz43_2
                    try clear hfz47_0
                    try clear hfz47_1
                    try clear hfz47_2
                    try clear hfz52_0
                    try clear hfz52_1
                    try clear hfz52_2
                    try clear hfz56_0
                    try clear hfz56_1
                    try clear hfz56_2
                    try clear hfz62_0
                    try clear hfz62_1
                    try clear hfz62_2
                    try clear hfz66_0
                    try clear hfz66_1
                    try clear hfz66_2
                    try clear hfz70_0
                    try clear hfz70_1
                    try clear hfz70_2
                    try clear hfz75_0
                    try clear hfz75_1
                    try clear hfz75_2
                    try clear hfz80_0
                    try clear hfz80_1
                    try clear hfz80_2
                    try clear hfz84_0
                    try clear hfz84_1
                    try clear hfz84_2
                    try clear hx478_0
                    try clear hx478_1
                    try clear hx478_2
                    try clear hx478_3
                    try clear hx478_4
                    try clear p2
                    try clear p478
                    try clear q478
                    obtain ⟨kq, x91_16, rfl, HA, HJ16, HO_471001, BK469, BK470, BK479, BK507, HB⟩ := hcut
                    cases kq with
                    | zero => exact absurd HA.out (by simp [terracelaw15_DetectGroups.j2])
                    | succ kj16 =>
                      have H := HA.out
                      clear HA
                      simp only [terracelaw15_DetectGroups.j2] at H
                      by_cases c85 : x91_16 = true
                      · subst c85
                        have H1 : (some false) = some r := by rw [if_pos rfl] at H; exact H
                        clear H
                        have H := H1
                        clear H1
                        obtain rfl := Option.some.inj H
                        go_wp2
                        go_ret
                        exact ⟨by first | rfl | (simp [errW_none, errW_some] <;> rfl) | (simp only [← hji14, ← hji15]; first | rfl | (simp [errW_none, errW_some] <;> rfl)) | (simp [*, errW_none, errW_some] <;> rfl), (bbq7 HB.out)⟩
                      · replace c85 := Bool.eq_false_iff.mpr c85
                        subst c85
                        have H1 : (if t481 = true then (terracelaw15_DetectGroups.l0 kj16 a1 (wrap64 (x6_2 + (ji15))) (wrap64 (x6_2 + (ji15))) true l0 (l0.length : Int) (wrap64 (x33_2 + 1)) t484 t485 t486 t487 t488 t489 t490 t491 t492 t493 t494 t495 t496 t497 t498 t499 t504 t505 t506 t500 t501) else (terracelaw15_DetectGroups.l0 kj16 a1 (wrap64 (x6_2 + (ji15))) x7_2 x8_2 l0 (l0.length : Int) (wrap64 (x33_2 + 1)) t484 t485 t486 t487 t488 t489 t490 t491 t492 t493 t494 t495 t496 t497 t498 t499 t504 t505 t506 t500 t501)) = some r := by rw [if_neg (show ¬ (false = true) by decide)] at H; exact H
                        clear H
                        have H := H1
                        clear H1
                        by_cases c86 : t481 = true
                        · subst c86
                          have H1 : (terracelaw15_DetectGroups.l0 kj16 a1 (wrap64 (x6_2 + (ji15))) (wrap64 (x6_2 + (ji15))) true l0 (l0.length : Int) (wrap64 (x33_2 + 1)) t484 t485 t486 t487 t488 t489 t490 t491 t492 t493 t494 t495 t496 t497 t498 t499 t504 t505 t506 t500 t501) = some r := by rw [if_pos rfl] at H; exact H
                          clear H
                          have H := H1
                          clear H1
                          have H' := Aside0.mk H
                          clear H
                          have hnb87 := NB507_469.out
                          have hnc87 := NB469_507.out
                          have hnb88 := NB507_470.out
                          have hnc88 := NB470_507.out
                          have hnb89 := NB507_479.out
                          have hnc89 := NB479_507.out
                          have hcz90_0 : wc.cell? ⟨gb507, 0, none⟩ = some (.int .i64 t480) := (blk_cell BK507.out 0).trans rfl
                          have hcz90_1 : wc.cell? ⟨gb507, 1, none⟩ = some (.bool true) := (blk_cell BK507.out 1).trans rfl
                          have hcz90_2 : wc.cell? ⟨gb507, 2, none⟩ = some (.bool t482) := (blk_cell BK507.out 2).trans rfl
                          have hfz90_0 := fun i_ => blk_frozen BK507.out i_
                          go_wp2
                          go_roundg kj16
                          case measure => have := HJ3.out; have := HK2.out; have := HJ16.out; omega
                          case rel => exact ⟨((wrap64 (x6_2 + (ji15)))), ((wrap64 (x6_2 + (ji15)))), (true), (wrap64 (x33_2 + 1)), (t484), (t485), (t486), (t487), (t488), (t489), (t490), (t491), (t492), (t493), (t494), (t495), (t496), (t497), (t498), (t499), (t504), (t505), (t506), (t500), (t501), (v502), (by first | rfl | (simp; done) | (simp only [← hji15] <;> (first | rfl | simp)) | (simp [*]; done)), (by first | rfl | (simp; done) | (simp only [← hji15] <;> (first | rfl | simp)) | (simp [*]; done)), (by first | rfl | (simp; done) | (simp [*]; done)), (by first | rfl | (simp; done) | (simp [*]; done)), H', ⟨by have := HJ3.out; have := HK2.out; have := HJ16.out; omega⟩, ⟨by (with_reducible repeat (first | apply Kd.R_alloc | apply Kd.R_drewN | apply Kd.R_drew)); exact HO_471001.out⟩, ⟨by exact bpq7 BK469.out⟩, ⟨by exact bpq7 BK470.out⟩, ⟨(bbq7 HB.out)⟩⟩
                        · replace c86 := Bool.eq_false_iff.mpr c86
                          subst c86
                          have H1 : (terracelaw15_DetectGroups.l0 kj16 a1 (wrap64 (x6_2 + (ji15))) x7_2 x8_2 l0 (l0.length : Int) (wrap64 (x33_2 + 1)) t484 t485 t486 t487 t488 t489 t490 t491 t492 t493 t494 t495 t496 t497 t498 t499 t504 t505 t506 t500 t501) = some r := by rw [if_neg (show ¬ (false = true) by decide)] at H; exact H
                          clear H
                          have H := H1
                          clear H1
                          have H' := Aside0.mk H
                          clear H
                          have hnb91 := NB507_469.out
                          have hnc91 := NB469_507.out
                          have hnb92 := NB507_470.out
                          have hnc92 := NB470_507.out
                          have hnb93 := NB507_479.out
                          have hnc93 := NB479_507.out
                          have hcz94_0 : wc.cell? ⟨gb507, 0, none⟩ = some (.int .i64 t480) := (blk_cell BK507.out 0).trans rfl
                          have hcz94_1 : wc.cell? ⟨gb507, 1, none⟩ = some (.bool false) := (blk_cell BK507.out 1).trans rfl
                          have hcz94_2 : wc.cell? ⟨gb507, 2, none⟩ = some (.bool t482) := (blk_cell BK507.out 2).trans rfl
                          have hfz94_0 := fun i_ => blk_frozen BK507.out i_
                          go_wp2
                          go_roundg kj16
                          case measure => have := HJ3.out; have := HK2.out; have := HJ16.out; omega
                          case rel => exact ⟨((wrap64 (x6_2 + (ji15)))), (x7_2), (x8_2), (wrap64 (x33_2 + 1)), (t484), (t485), (t486), (t487), (t488), (t489), (t490), (t491), (t492), (t493), (t494), (t495), (t496), (t497), (t498), (t499), (t504), (t505), (t506), (t500), (t501), (v502), (by first | rfl | (simp; done) | (simp only [← hji15] <;> (first | rfl | simp)) | (simp [*]; done)), (by first | rfl | (simp; done) | (simp [*]; done)), (by first | rfl | (simp; done) | (simp [*]; done)), (by first | rfl | (simp; done) | (simp [*]; done)), H', ⟨by have := HJ3.out; have := HK2.out; have := HJ16.out; omega⟩, ⟨by (with_reducible repeat (first | apply Kd.R_alloc | apply Kd.R_drewN | apply Kd.R_drew)); exact HO_471001.out⟩, ⟨by exact bpq7 BK469.out⟩, ⟨by exact bpq7 BK470.out⟩, ⟨(bbq7 HB.out)⟩⟩
                · rw [if_neg c13] at H
                  exact absurd H (by simp)
              · rw [if_neg c12] at H
                exact absurd H (by simp)
            · rw [if_neg c11] at H
              have c11b0 : decide (x33_2 < (l0.length : Int)) = false := decide_eq_false c11
              clear c11
              replace H := Option.bind_eq_some_iff.mp H
              obtain ⟨t477, A950, H⟩ := H
              replace H : (some t477) = some r := H
              have A95 := Aside0.mk A950
              clear A950
              obtain rfl := Option.some.inj H
              go_wp2_with (first | ((with_reducible refine gate_callee (f := 9) rfl ?_); refine goesL_ (some 96) rfl rfl Try.func9 (by kernel_rfl) rfl #[] rfl (by (try simp only [List.map_toArray, List.map_cons, List.map_nil]); first | done | rfl | (simp only [List.length_drop, List.length_take]; rfl)) ?_; (with_reducible refine (terracelaw15_awake.calls k2  t477 _ A95.out).mono ?_); rintro e w96 ⟨rfl, hb⟩; refine ⟨_, rfl, ?_⟩; have n0_ := Aside0.mk (Kd.R_below (by (with_reducible repeat (first | apply Kd.R_alloc | apply Kd.R_drewN | apply Kd.R_drew)); exact HO_471001.out) hb); have n1_ := Aside0.mk (blk_below (g := g469) (o := .cells #[.int .u32 x470000_2, .bool x470001_2, .int .u32 x470002_2, .bool x470003_2, .int .u32 x470004_2, .bool x470005_2, .int .u32 x470006_2, .bool x470007_2, .int .u32 x470008_2, .bool x470009_2, .int .u32 x470010_2, .bool x470011_2, .int .u32 x470012_2, .bool x470013_2, .int .u32 x470014_2, .bool x470015_2, .pointer (some ⟨g470, 0, none⟩), .int .i64 x470017_2, .int .i64 x470018_2, .bool x470019_2] 54 (0, 0)) (by exact bpq7 BK469.out) hb); have n2_ := Aside0.mk (blk_below (g := g470) (o := .cells #[.int .i64 x471000_2, u471001] 68 (0, 0)) (by exact bpq7 BK470.out) hb); have n3_ := Aside0.mk (below_step ((bbq7 HB.out)) hb); clear HO_471001; clear BK469; clear BK470; clear HB; have HO_471001 := n0_; have BK469 := n1_; have BK470 := n2_; have HB := n3_; clear n0_ n1_ n2_ n3_; (try clear hb); (try clear hb2); (try clear hk); (try clear hi)))
              go_ret
              exact ⟨by first | rfl | (simp [errW_none, errW_some] <;> rfl) | (simp [*, errW_none, errW_some] <;> rfl), (bbq7 HB.out)⟩

def okS29 (x : S29) : Prop := ((Lit.int .i64 x.f0).wf = true) ∧ ((Lit.int .i64 x.f1).wf = true) ∧ ((Lit.int .u32 x.f2).wf = true) ∧ ((Lit.int .i64 x.f3).wf = true) ∧ ((Lit.int .i64 x.f4).wf = true)
/-- THE ONE PURE STATEMENT of terracelaw15_DetectGroups. -/
def terracelaw15_DetectGroups.Pure : Prop := ∀ (l0 : List (S29)) (a1 : Int), l0.length ≤ maxLen → (∀ y_ ∈ l0, okS29 y_) → (Lit.int .i64 a1).wf = true → ∃ k, terracelaw15_DetectGroups.f k l0 a1 = some true

end Go.Proofs.Ytobipigioaoaiaa.PDetectGroups
